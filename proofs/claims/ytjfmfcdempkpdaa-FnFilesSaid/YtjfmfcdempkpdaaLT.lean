/- What the program says of its types. Conditions: none; printed by a program, checked by Lean. -/
import Derived.Test.YtjfmfcdempkpdaaL2
import Derived.Test.YtjfmfcdempkpdaaProg
namespace Go.Proofs.Ytjfmfcdempkpdaa
open Go.BL
theorem ag2 : aggA Try.prog 2 = some false := by kernel_rfl
theorem sz2 : sizeA Try.prog 2 = some 1 := by kernel_rfl
theorem by2 : bytesA Try.prog 2 = some 8 := by kernel_rfl
theorem ze2 : zeroA Try.prog 2 = some [.c (.int .i64 0)] := by kernel_rfl
theorem el2 : elemA Try.prog 2 = none := by kernel_rfl
theorem st2 : strA Try.prog 2 = false := by kernel_rfl
theorem ki2 : kindA Try.prog 2 = some .i64 := by kernel_rfl
theorem us2 : (Try.prog.underlying 2).isSome = true := by kernel_rfl
theorem ag3 : aggA Try.prog 3 = some false := by kernel_rfl
theorem sz3 : sizeA Try.prog 3 = some 1 := by kernel_rfl
theorem by3 : bytesA Try.prog 3 = some 8 := by kernel_rfl
theorem ze3 : zeroA Try.prog 3 = some [.c (.int .i64 0)] := by kernel_rfl
theorem el3 : elemA Try.prog 3 = none := by kernel_rfl
theorem st3 : strA Try.prog 3 = false := by kernel_rfl
theorem ki3 : kindA Try.prog 3 = some .i64 := by kernel_rfl
theorem us3 : (Try.prog.underlying 3).isSome = true := by kernel_rfl
theorem ag4 : aggA Try.prog 4 = some false := by kernel_rfl
theorem sz4 : sizeA Try.prog 4 = some 1 := by kernel_rfl
theorem by4 : bytesA Try.prog 4 = some 1 := by kernel_rfl
theorem ze4 : zeroA Try.prog 4 = some [.c (.bool false)] := by kernel_rfl
theorem bo4 : boolA Try.prog 4 = true := by kernel_rfl
theorem ag5 : aggA Try.prog 5 = some false := by kernel_rfl
theorem sz5 : sizeA Try.prog 5 = some 1 := by kernel_rfl
theorem by5 : bytesA Try.prog 5 = some 1 := by kernel_rfl
theorem ze5 : zeroA Try.prog 5 = some [.c (.int .u8 0)] := by kernel_rfl
theorem el5 : elemA Try.prog 5 = none := by kernel_rfl
theorem st5 : strA Try.prog 5 = false := by kernel_rfl
theorem ki5 : kindA Try.prog 5 = some .u8 := by kernel_rfl
theorem us5 : (Try.prog.underlying 5).isSome = true := by kernel_rfl
theorem ag6 : aggA Try.prog 6 = some false := by kernel_rfl
theorem sz6 : sizeA Try.prog 6 = some 1 := by kernel_rfl
theorem by6 : bytesA Try.prog 6 = some 1 := by kernel_rfl
theorem ze6 : zeroA Try.prog 6 = some [.c (.int .u8 0)] := by kernel_rfl
theorem el6 : elemA Try.prog 6 = none := by kernel_rfl
theorem st6 : strA Try.prog 6 = false := by kernel_rfl
theorem ki6 : kindA Try.prog 6 = some .u8 := by kernel_rfl
theorem us6 : (Try.prog.underlying 6).isSome = true := by kernel_rfl
theorem ag7 : aggA Try.prog 7 = some true := by kernel_rfl
theorem sz7 : sizeA Try.prog 7 = some 4 := by kernel_rfl
theorem by7 : bytesA Try.prog 7 = some 24 := by kernel_rfl
theorem ze7 : zeroA Try.prog 7 = some [.c (.int .i64 0), .c (.int .i64 0), .c (.bool false), .c (.int .u8 0)] := by kernel_rfl
theorem of7_0 : offA Try.prog 7 0 = some (0, 2) := by kernel_rfl
theorem of7_1 : offA Try.prog 7 1 = some (1, 3) := by kernel_rfl
theorem of7_2 : offA Try.prog 7 2 = some (2, 4) := by kernel_rfl
theorem of7_3 : offA Try.prog 7 3 = some (3, 6) := by kernel_rfl
theorem pl7 : placesA Try.prog 7 = some [(0, 1), (1, 1), (2, 1), (3, 1)] := by kernel_rfl
theorem eq7 : eqTA Try.prog 7 = some [(2, 0), (3, 1), (4, 2), (6, 3)] := by kernel_rfl
theorem ag8 : aggA Try.prog 8 = some true := by kernel_rfl
theorem sz8 : sizeA Try.prog 8 = some 4 := by kernel_rfl
theorem by8 : bytesA Try.prog 8 = some 24 := by kernel_rfl
theorem ze8 : zeroA Try.prog 8 = some [.c (.int .i64 0), .c (.int .i64 0), .c (.bool false), .c (.int .u8 0)] := by kernel_rfl
theorem of8_0 : offA Try.prog 8 0 = some (0, 2) := by kernel_rfl
theorem of8_1 : offA Try.prog 8 1 = some (1, 3) := by kernel_rfl
theorem of8_2 : offA Try.prog 8 2 = some (2, 4) := by kernel_rfl
theorem of8_3 : offA Try.prog 8 3 = some (3, 6) := by kernel_rfl
theorem pl8 : placesA Try.prog 8 = some [(0, 1), (1, 1), (2, 1), (3, 1)] := by kernel_rfl
theorem eq8 : eqTA Try.prog 8 = some [(2, 0), (3, 1), (4, 2), (6, 3)] := by kernel_rfl
theorem ag9 : aggA Try.prog 9 = some false := by kernel_rfl
theorem sz9 : sizeA Try.prog 9 = some 1 := by kernel_rfl
theorem by9 : bytesA Try.prog 9 = some 16 := by kernel_rfl
theorem ze9 : zeroA Try.prog 9 = some [.c (.string ⟨#[]⟩)] := by kernel_rfl
theorem el9 : elemA Try.prog 9 = none := by kernel_rfl
theorem st9 : strA Try.prog 9 = true := by kernel_rfl
theorem ag10 : aggA Try.prog 10 = some false := by kernel_rfl
theorem sz10 : sizeA Try.prog 10 = some 1 := by kernel_rfl
theorem by10 : bytesA Try.prog 10 = some 16 := by kernel_rfl
theorem ze10 : zeroA Try.prog 10 = some [.c (.string ⟨#[]⟩)] := by kernel_rfl
theorem el10 : elemA Try.prog 10 = none := by kernel_rfl
theorem st10 : strA Try.prog 10 = true := by kernel_rfl
theorem ag11 : aggA Try.prog 11 = some false := by kernel_rfl
theorem sz11 : sizeA Try.prog 11 = some 1 := by kernel_rfl
theorem by11 : bytesA Try.prog 11 = some 16 := by kernel_rfl
theorem ze11 : zeroA Try.prog 11 = some [.c (.string ⟨#[]⟩)] := by kernel_rfl
theorem el11 : elemA Try.prog 11 = none := by kernel_rfl
theorem st11 : strA Try.prog 11 = true := by kernel_rfl
theorem ag12 : aggA Try.prog 12 = some false := by kernel_rfl
theorem sz12 : sizeA Try.prog 12 = some 1 := by kernel_rfl
theorem by12 : bytesA Try.prog 12 = some 8 := by kernel_rfl
theorem ze12 : zeroA Try.prog 12 = some [.c (.int .u64 0)] := by kernel_rfl
theorem el12 : elemA Try.prog 12 = none := by kernel_rfl
theorem st12 : strA Try.prog 12 = false := by kernel_rfl
theorem ki12 : kindA Try.prog 12 = some .u64 := by kernel_rfl
theorem us12 : (Try.prog.underlying 12).isSome = true := by kernel_rfl
theorem ag13 : aggA Try.prog 13 = some true := by kernel_rfl
theorem sz13 : sizeA Try.prog 13 = some 2 := by kernel_rfl
theorem by13 : bytesA Try.prog 13 = some 24 := by kernel_rfl
theorem ze13 : zeroA Try.prog 13 = some [.c (.string ⟨#[]⟩), .c (.int .u64 0)] := by kernel_rfl
theorem of13_0 : offA Try.prog 13 0 = some (0, 9) := by kernel_rfl
theorem of13_1 : offA Try.prog 13 1 = some (1, 12) := by kernel_rfl
theorem pl13 : placesA Try.prog 13 = some [(0, 1), (1, 1)] := by kernel_rfl
theorem ag14 : aggA Try.prog 14 = some true := by kernel_rfl
theorem sz14 : sizeA Try.prog 14 = some 2 := by kernel_rfl
theorem by14 : bytesA Try.prog 14 = some 24 := by kernel_rfl
theorem ze14 : zeroA Try.prog 14 = some [.c (.string ⟨#[]⟩), .c (.int .u64 0)] := by kernel_rfl
theorem of14_0 : offA Try.prog 14 0 = some (0, 9) := by kernel_rfl
theorem of14_1 : offA Try.prog 14 1 = some (1, 12) := by kernel_rfl
theorem pl14 : placesA Try.prog 14 = some [(0, 1), (1, 1)] := by kernel_rfl
theorem ag15 : aggA Try.prog 15 = some false := by kernel_rfl
theorem sz15 : sizeA Try.prog 15 = some 1 := by kernel_rfl
theorem by15 : bytesA Try.prog 15 = some 8 := by kernel_rfl
theorem ag16 : aggA Try.prog 16 = some false := by kernel_rfl
theorem sz16 : sizeA Try.prog 16 = some 1 := by kernel_rfl
theorem by16 : bytesA Try.prog 16 = some 8 := by kernel_rfl
theorem ag17 : aggA Try.prog 17 = some false := by kernel_rfl
theorem sz17 : sizeA Try.prog 17 = some 1 := by kernel_rfl
theorem by17 : bytesA Try.prog 17 = some 8 := by kernel_rfl
theorem ag18 : aggA Try.prog 18 = some true := by kernel_rfl
theorem sz18 : sizeA Try.prog 18 = some 1 := by kernel_rfl
theorem by18 : bytesA Try.prog 18 = some 8 := by kernel_rfl
theorem of18_0 : offA Try.prog 18 0 = some (0, 17) := by kernel_rfl
theorem pl18 : placesA Try.prog 18 = some [(0, 1)] := by kernel_rfl
theorem ag19 : aggA Try.prog 19 = some true := by kernel_rfl
theorem sz19 : sizeA Try.prog 19 = some 1 := by kernel_rfl
theorem by19 : bytesA Try.prog 19 = some 8 := by kernel_rfl
theorem of19_0 : offA Try.prog 19 0 = some (0, 17) := by kernel_rfl
theorem pl19 : placesA Try.prog 19 = some [(0, 1)] := by kernel_rfl
theorem ag21 : aggA Try.prog 21 = some false := by kernel_rfl
theorem sz21 : sizeA Try.prog 21 = some 1 := by kernel_rfl
theorem by21 : bytesA Try.prog 21 = some 4 := by kernel_rfl
theorem ze21 : zeroA Try.prog 21 = some [.c (.int .i32 0)] := by kernel_rfl
theorem el21 : elemA Try.prog 21 = none := by kernel_rfl
theorem st21 : strA Try.prog 21 = false := by kernel_rfl
theorem ki21 : kindA Try.prog 21 = some .i32 := by kernel_rfl
theorem us21 : (Try.prog.underlying 21).isSome = true := by kernel_rfl
theorem ag22 : aggA Try.prog 22 = some true := by kernel_rfl
theorem sz22 : sizeA Try.prog 22 = some 4 := by kernel_rfl
theorem by22 : bytesA Try.prog 22 = some 40 := by kernel_rfl
theorem ze22 : zeroA Try.prog 22 = some [.c (.int .i64 0), .c (.string ⟨#[]⟩), .c (.int .i64 0), .c (.int .i64 0)] := by kernel_rfl
theorem of22_0 : offA Try.prog 22 0 = some (0, 3) := by kernel_rfl
theorem of22_1 : offA Try.prog 22 1 = some (1, 9) := by kernel_rfl
theorem of22_2 : offA Try.prog 22 2 = some (2, 3) := by kernel_rfl
theorem of22_3 : offA Try.prog 22 3 = some (3, 3) := by kernel_rfl
theorem pl22 : placesA Try.prog 22 = some [(0, 1), (1, 1), (2, 1), (3, 1)] := by kernel_rfl
theorem eq22 : eqTA Try.prog 22 = some [(3, 0), (9, 1), (3, 2), (3, 3)] := by kernel_rfl
theorem ag23 : aggA Try.prog 23 = some true := by kernel_rfl
theorem sz23 : sizeA Try.prog 23 = some 4 := by kernel_rfl
theorem by23 : bytesA Try.prog 23 = some 40 := by kernel_rfl
theorem ze23 : zeroA Try.prog 23 = some [.c (.int .i64 0), .c (.string ⟨#[]⟩), .c (.int .i64 0), .c (.int .i64 0)] := by kernel_rfl
theorem of23_0 : offA Try.prog 23 0 = some (0, 3) := by kernel_rfl
theorem of23_1 : offA Try.prog 23 1 = some (1, 9) := by kernel_rfl
theorem of23_2 : offA Try.prog 23 2 = some (2, 3) := by kernel_rfl
theorem of23_3 : offA Try.prog 23 3 = some (3, 3) := by kernel_rfl
theorem pl23 : placesA Try.prog 23 = some [(0, 1), (1, 1), (2, 1), (3, 1)] := by kernel_rfl
theorem eq23 : eqTA Try.prog 23 = some [(3, 0), (9, 1), (3, 2), (3, 3)] := by kernel_rfl
theorem ag26 : aggA Try.prog 26 = some true := by kernel_rfl
theorem sz26 : sizeA Try.prog 26 = some 4 := by kernel_rfl
theorem by26 : bytesA Try.prog 26 = some 40 := by kernel_rfl
theorem ze26 : zeroA Try.prog 26 = some [.c (.int .i64 0), .c (.string ⟨#[]⟩), .c (.int .i64 0), .c (.int .i64 0)] := by kernel_rfl
theorem of26_0 : offA Try.prog 26 0 = some (0, 3) := by kernel_rfl
theorem of26_1 : offA Try.prog 26 1 = some (1, 9) := by kernel_rfl
theorem of26_2 : offA Try.prog 26 2 = some (2, 3) := by kernel_rfl
theorem of26_3 : offA Try.prog 26 3 = some (3, 3) := by kernel_rfl
theorem pl26 : placesA Try.prog 26 = some [(0, 1), (1, 1), (2, 1), (3, 1)] := by kernel_rfl
theorem eq26 : eqTA Try.prog 26 = some [(3, 0), (9, 1), (3, 2), (3, 3)] := by kernel_rfl
theorem ag29 : aggA Try.prog 29 = some false := by kernel_rfl
theorem sz29 : sizeA Try.prog 29 = some 1 := by kernel_rfl
theorem by29 : bytesA Try.prog 29 = some 24 := by kernel_rfl
theorem ze29 : zeroA Try.prog 29 = some [.nl] := by kernel_rfl
theorem el29 : elemA Try.prog 29 = some 97 := by kernel_rfl
theorem st29 : strA Try.prog 29 = false := by kernel_rfl
theorem ag30 : aggA Try.prog 30 = some true := by kernel_rfl
theorem sz30 : sizeA Try.prog 30 = some 2 := by kernel_rfl
theorem by30 : bytesA Try.prog 30 = some 32 := by kernel_rfl
theorem ze30 : zeroA Try.prog 30 = some [.c (.int .i64 0), .nl] := by kernel_rfl
theorem of30_0 : offA Try.prog 30 0 = some (0, 3) := by kernel_rfl
theorem of30_1 : offA Try.prog 30 1 = some (1, 29) := by kernel_rfl
theorem pl30 : placesA Try.prog 30 = some [(0, 1), (1, 1)] := by kernel_rfl
theorem ag31 : aggA Try.prog 31 = some true := by kernel_rfl
theorem sz31 : sizeA Try.prog 31 = some 2 := by kernel_rfl
theorem by31 : bytesA Try.prog 31 = some 32 := by kernel_rfl
theorem ze31 : zeroA Try.prog 31 = some [.c (.int .i64 0), .nl] := by kernel_rfl
theorem of31_0 : offA Try.prog 31 0 = some (0, 3) := by kernel_rfl
theorem of31_1 : offA Try.prog 31 1 = some (1, 29) := by kernel_rfl
theorem pl31 : placesA Try.prog 31 = some [(0, 1), (1, 1)] := by kernel_rfl
theorem ag33 : aggA Try.prog 33 = some false := by kernel_rfl
theorem sz33 : sizeA Try.prog 33 = some 1 := by kernel_rfl
theorem by33 : bytesA Try.prog 33 = some 24 := by kernel_rfl
theorem ze33 : zeroA Try.prog 33 = some [.nl] := by kernel_rfl
theorem el33 : elemA Try.prog 33 = some 3 := by kernel_rfl
theorem st33 : strA Try.prog 33 = false := by kernel_rfl
theorem ag35 : aggA Try.prog 35 = some false := by kernel_rfl
theorem sz35 : sizeA Try.prog 35 = some 1 := by kernel_rfl
theorem by35 : bytesA Try.prog 35 = some 24 := by kernel_rfl
theorem ze35 : zeroA Try.prog 35 = some [.nl] := by kernel_rfl
theorem el35 : elemA Try.prog 35 = some 76 := by kernel_rfl
theorem st35 : strA Try.prog 35 = false := by kernel_rfl
theorem ag36 : aggA Try.prog 36 = some true := by kernel_rfl
theorem sz36 : sizeA Try.prog 36 = some 2 := by kernel_rfl
theorem by36 : bytesA Try.prog 36 = some 32 := by kernel_rfl
theorem ze36 : zeroA Try.prog 36 = some [.c (.int .i64 0), .nl] := by kernel_rfl
theorem of36_0 : offA Try.prog 36 0 = some (0, 3) := by kernel_rfl
theorem of36_1 : offA Try.prog 36 1 = some (1, 35) := by kernel_rfl
theorem pl36 : placesA Try.prog 36 = some [(0, 1), (1, 1)] := by kernel_rfl
theorem ag37 : aggA Try.prog 37 = some true := by kernel_rfl
theorem sz37 : sizeA Try.prog 37 = some 2 := by kernel_rfl
theorem by37 : bytesA Try.prog 37 = some 32 := by kernel_rfl
theorem ze37 : zeroA Try.prog 37 = some [.c (.int .i64 0), .nl] := by kernel_rfl
theorem of37_0 : offA Try.prog 37 0 = some (0, 3) := by kernel_rfl
theorem of37_1 : offA Try.prog 37 1 = some (1, 35) := by kernel_rfl
theorem pl37 : placesA Try.prog 37 = some [(0, 1), (1, 1)] := by kernel_rfl
theorem ag47 : aggA Try.prog 47 = some false := by kernel_rfl
theorem sz47 : sizeA Try.prog 47 = some 1 := by kernel_rfl
theorem by47 : bytesA Try.prog 47 = some 24 := by kernel_rfl
theorem ze47 : zeroA Try.prog 47 = some [.nl] := by kernel_rfl
theorem el47 : elemA Try.prog 47 = some 9 := by kernel_rfl
theorem st47 : strA Try.prog 47 = false := by kernel_rfl
theorem ag54 : aggA Try.prog 54 = some false := by kernel_rfl
theorem sz54 : sizeA Try.prog 54 = some 1 := by kernel_rfl
theorem by54 : bytesA Try.prog 54 = some 24 := by kernel_rfl
theorem ze54 : zeroA Try.prog 54 = some [.nl] := by kernel_rfl
theorem el54 : elemA Try.prog 54 = some 5 := by kernel_rfl
theorem st54 : strA Try.prog 54 = false := by kernel_rfl
theorem ag75 : aggA Try.prog 75 = some true := by kernel_rfl
theorem sz75 : sizeA Try.prog 75 = some 3 := by kernel_rfl
theorem by75 : bytesA Try.prog 75 = some 40 := by kernel_rfl
theorem ze75 : zeroA Try.prog 75 = some [.c (.int .i64 0), .c (.string ⟨#[]⟩), .c (.string ⟨#[]⟩)] := by kernel_rfl
theorem of75_0 : offA Try.prog 75 0 = some (0, 3) := by kernel_rfl
theorem of75_1 : offA Try.prog 75 1 = some (1, 9) := by kernel_rfl
theorem of75_2 : offA Try.prog 75 2 = some (2, 9) := by kernel_rfl
theorem pl75 : placesA Try.prog 75 = some [(0, 1), (1, 1), (2, 1)] := by kernel_rfl
theorem eq75 : eqTA Try.prog 75 = some [(3, 0), (9, 1), (9, 2)] := by kernel_rfl
theorem ag76 : aggA Try.prog 76 = some true := by kernel_rfl
theorem sz76 : sizeA Try.prog 76 = some 3 := by kernel_rfl
theorem by76 : bytesA Try.prog 76 = some 40 := by kernel_rfl
theorem ze76 : zeroA Try.prog 76 = some [.c (.int .i64 0), .c (.string ⟨#[]⟩), .c (.string ⟨#[]⟩)] := by kernel_rfl
theorem of76_0 : offA Try.prog 76 0 = some (0, 3) := by kernel_rfl
theorem of76_1 : offA Try.prog 76 1 = some (1, 9) := by kernel_rfl
theorem of76_2 : offA Try.prog 76 2 = some (2, 9) := by kernel_rfl
theorem pl76 : placesA Try.prog 76 = some [(0, 1), (1, 1), (2, 1)] := by kernel_rfl
theorem eq76 : eqTA Try.prog 76 = some [(3, 0), (9, 1), (9, 2)] := by kernel_rfl
theorem ag83 : aggA Try.prog 83 = some false := by kernel_rfl
theorem sz83 : sizeA Try.prog 83 = some 1 := by kernel_rfl
theorem by83 : bytesA Try.prog 83 = some 8 := by kernel_rfl
theorem ag97 : aggA Try.prog 97 = some true := by kernel_rfl
theorem sz97 : sizeA Try.prog 97 = some 3 := by kernel_rfl
theorem by97 : bytesA Try.prog 97 = some 40 := by kernel_rfl
theorem ze97 : zeroA Try.prog 97 = some [.c (.int .i64 0), .c (.string ⟨#[]⟩), .c (.string ⟨#[]⟩)] := by kernel_rfl
theorem of97_0 : offA Try.prog 97 0 = some (0, 3) := by kernel_rfl
theorem of97_1 : offA Try.prog 97 1 = some (1, 9) := by kernel_rfl
theorem of97_2 : offA Try.prog 97 2 = some (2, 9) := by kernel_rfl
theorem pl97 : placesA Try.prog 97 = some [(0, 1), (1, 1), (2, 1)] := by kernel_rfl
theorem eq97 : eqTA Try.prog 97 = some [(3, 0), (9, 1), (9, 2)] := by kernel_rfl
theorem ag105 : aggA Try.prog 105 = some false := by kernel_rfl
theorem sz105 : sizeA Try.prog 105 = some 1 := by kernel_rfl
theorem by105 : bytesA Try.prog 105 = some 8 := by kernel_rfl
theorem ze105 : zeroA Try.prog 105 = some [.c (.int .u64 0)] := by kernel_rfl
theorem el105 : elemA Try.prog 105 = none := by kernel_rfl
theorem st105 : strA Try.prog 105 = false := by kernel_rfl
theorem ki105 : kindA Try.prog 105 = some .u64 := by kernel_rfl
theorem us105 : (Try.prog.underlying 105).isSome = true := by kernel_rfl
theorem ag111 : aggA Try.prog 111 = some true := by kernel_rfl
theorem sz111 : sizeA Try.prog 111 = some 3 := by kernel_rfl
theorem by111 : bytesA Try.prog 111 = some 40 := by kernel_rfl
theorem ze111 : zeroA Try.prog 111 = some [.nl, .c (.int .i64 0), .c (.int .i64 0)] := by kernel_rfl
theorem of111_0 : offA Try.prog 111 0 = some (0, 54) := by kernel_rfl
theorem of111_1 : offA Try.prog 111 1 = some (1, 3) := by kernel_rfl
theorem of111_2 : offA Try.prog 111 2 = some (2, 3) := by kernel_rfl
theorem pl111 : placesA Try.prog 111 = some [(0, 1), (1, 1), (2, 1)] := by kernel_rfl
theorem ag112 : aggA Try.prog 112 = some true := by kernel_rfl
theorem sz112 : sizeA Try.prog 112 = some 3 := by kernel_rfl
theorem by112 : bytesA Try.prog 112 = some 40 := by kernel_rfl
theorem ze112 : zeroA Try.prog 112 = some [.nl, .c (.int .i64 0), .c (.int .i64 0)] := by kernel_rfl
theorem of112_0 : offA Try.prog 112 0 = some (0, 54) := by kernel_rfl
theorem of112_1 : offA Try.prog 112 1 = some (1, 3) := by kernel_rfl
theorem of112_2 : offA Try.prog 112 2 = some (2, 3) := by kernel_rfl
theorem pl112 : placesA Try.prog 112 = some [(0, 1), (1, 1), (2, 1)] := by kernel_rfl
theorem ag115 : aggA Try.prog 115 = some false := by kernel_rfl
theorem sz115 : sizeA Try.prog 115 = some 1 := by kernel_rfl
theorem by115 : bytesA Try.prog 115 = some 8 := by kernel_rfl
theorem ag120 : aggA Try.prog 120 = some false := by kernel_rfl
theorem sz120 : sizeA Try.prog 120 = some 1 := by kernel_rfl
theorem by120 : bytesA Try.prog 120 = some 24 := by kernel_rfl
theorem ze120 : zeroA Try.prog 120 = some [.nl] := by kernel_rfl
theorem el120 : elemA Try.prog 120 = some 54 := by kernel_rfl
theorem st120 : strA Try.prog 120 = false := by kernel_rfl
theorem ag125 : aggA Try.prog 125 = some true := by kernel_rfl
theorem sz125 : sizeA Try.prog 125 = some 4 := by kernel_rfl
theorem by125 : bytesA Try.prog 125 = some 40 := by kernel_rfl
theorem of125_0 : offA Try.prog 125 0 = some (0, 17) := by kernel_rfl
theorem of125_1 : offA Try.prog 125 1 = some (1, 17) := by kernel_rfl
theorem of125_2 : offA Try.prog 125 2 = some (2, 17) := by kernel_rfl
theorem of125_3 : offA Try.prog 125 3 = some (3, 9) := by kernel_rfl
theorem pl125 : placesA Try.prog 125 = some [(0, 1), (1, 1), (2, 1), (3, 1)] := by kernel_rfl
theorem ag126 : aggA Try.prog 126 = some true := by kernel_rfl
theorem sz126 : sizeA Try.prog 126 = some 4 := by kernel_rfl
theorem by126 : bytesA Try.prog 126 = some 40 := by kernel_rfl
theorem of126_0 : offA Try.prog 126 0 = some (0, 17) := by kernel_rfl
theorem of126_1 : offA Try.prog 126 1 = some (1, 17) := by kernel_rfl
theorem of126_2 : offA Try.prog 126 2 = some (2, 17) := by kernel_rfl
theorem of126_3 : offA Try.prog 126 3 = some (3, 9) := by kernel_rfl
theorem pl126 : placesA Try.prog 126 = some [(0, 1), (1, 1), (2, 1), (3, 1)] := by kernel_rfl
theorem ag131 : aggA Try.prog 131 = some false := by kernel_rfl
theorem sz131 : sizeA Try.prog 131 = some 1 := by kernel_rfl
theorem by131 : bytesA Try.prog 131 = some 4 := by kernel_rfl
theorem ze131 : zeroA Try.prog 131 = some [.c (.int .u32 0)] := by kernel_rfl
theorem el131 : elemA Try.prog 131 = none := by kernel_rfl
theorem st131 : strA Try.prog 131 = false := by kernel_rfl
theorem ki131 : kindA Try.prog 131 = some .u32 := by kernel_rfl
theorem us131 : (Try.prog.underlying 131).isSome = true := by kernel_rfl
theorem ag132 : aggA Try.prog 132 = some false := by kernel_rfl
theorem sz132 : sizeA Try.prog 132 = some 1 := by kernel_rfl
theorem by132 : bytesA Try.prog 132 = some 1 := by kernel_rfl
theorem ze132 : zeroA Try.prog 132 = some [.c (.int .u8 0)] := by kernel_rfl
theorem el132 : elemA Try.prog 132 = none := by kernel_rfl
theorem st132 : strA Try.prog 132 = false := by kernel_rfl
theorem ki132 : kindA Try.prog 132 = some .u8 := by kernel_rfl
theorem us132 : (Try.prog.underlying 132).isSome = true := by kernel_rfl
theorem ag133 : aggA Try.prog 133 = some false := by kernel_rfl
theorem sz133 : sizeA Try.prog 133 = some 1 := by kernel_rfl
theorem by133 : bytesA Try.prog 133 = some 1 := by kernel_rfl
theorem ze133 : zeroA Try.prog 133 = some [.c (.int .u8 0)] := by kernel_rfl
theorem el133 : elemA Try.prog 133 = none := by kernel_rfl
theorem st133 : strA Try.prog 133 = false := by kernel_rfl
theorem ki133 : kindA Try.prog 133 = some .u8 := by kernel_rfl
theorem us133 : (Try.prog.underlying 133).isSome = true := by kernel_rfl
theorem ag135 : aggA Try.prog 135 = some false := by kernel_rfl
theorem sz135 : sizeA Try.prog 135 = some 1 := by kernel_rfl
theorem by135 : bytesA Try.prog 135 = some 8 := by kernel_rfl
theorem ag136 : aggA Try.prog 136 = some false := by kernel_rfl
theorem sz136 : sizeA Try.prog 136 = some 1 := by kernel_rfl
theorem by136 : bytesA Try.prog 136 = some 4 := by kernel_rfl
theorem ze136 : zeroA Try.prog 136 = some [.c (.int .i32 0)] := by kernel_rfl
theorem el136 : elemA Try.prog 136 = none := by kernel_rfl
theorem st136 : strA Try.prog 136 = false := by kernel_rfl
theorem ki136 : kindA Try.prog 136 = some .i32 := by kernel_rfl
theorem us136 : (Try.prog.underlying 136).isSome = true := by kernel_rfl
theorem ag137 : aggA Try.prog 137 = some false := by kernel_rfl
theorem sz137 : sizeA Try.prog 137 = some 1 := by kernel_rfl
theorem by137 : bytesA Try.prog 137 = some 4 := by kernel_rfl
theorem ze137 : zeroA Try.prog 137 = some [.c (.int .i32 0)] := by kernel_rfl
theorem el137 : elemA Try.prog 137 = none := by kernel_rfl
theorem st137 : strA Try.prog 137 = false := by kernel_rfl
theorem ki137 : kindA Try.prog 137 = some .i32 := by kernel_rfl
theorem us137 : (Try.prog.underlying 137).isSome = true := by kernel_rfl
theorem ag138 : aggA Try.prog 138 = some true := by kernel_rfl
theorem sz138 : sizeA Try.prog 138 = some 11 := by kernel_rfl
theorem by138 : bytesA Try.prog 138 = some 48 := by kernel_rfl
theorem of138_0 : offA Try.prog 138 0 = some (0, 12) := by kernel_rfl
theorem of138_1 : offA Try.prog 138 1 = some (1, 12) := by kernel_rfl
theorem of138_2 : offA Try.prog 138 2 = some (2, 131) := by kernel_rfl
theorem of138_3 : offA Try.prog 138 3 = some (3, 132) := by kernel_rfl
theorem of138_4 : offA Try.prog 138 4 = some (4, 5) := by kernel_rfl
theorem of138_5 : offA Try.prog 138 5 = some (5, 5) := by kernel_rfl
theorem of138_6 : offA Try.prog 138 6 = some (6, 133) := by kernel_rfl
theorem of138_7 : offA Try.prog 138 7 = some (7, 134) := by kernel_rfl
theorem of138_8 : offA Try.prog 138 8 = some (8, 135) := by kernel_rfl
theorem of138_9 : offA Try.prog 138 9 = some (9, 136) := by kernel_rfl
theorem of138_10 : offA Try.prog 138 10 = some (10, 137) := by kernel_rfl
theorem pl138 : placesA Try.prog 138 = some [(0, 1), (1, 1), (2, 1), (3, 1), (4, 1), (5, 1), (6, 1), (7, 1), (8, 1), (9, 1), (10, 1)] := by kernel_rfl
theorem ag139 : aggA Try.prog 139 = some true := by kernel_rfl
theorem sz139 : sizeA Try.prog 139 = some 11 := by kernel_rfl
theorem by139 : bytesA Try.prog 139 = some 48 := by kernel_rfl
theorem of139_0 : offA Try.prog 139 0 = some (0, 12) := by kernel_rfl
theorem of139_1 : offA Try.prog 139 1 = some (1, 12) := by kernel_rfl
theorem of139_2 : offA Try.prog 139 2 = some (2, 131) := by kernel_rfl
theorem of139_3 : offA Try.prog 139 3 = some (3, 132) := by kernel_rfl
theorem of139_4 : offA Try.prog 139 4 = some (4, 5) := by kernel_rfl
theorem of139_5 : offA Try.prog 139 5 = some (5, 5) := by kernel_rfl
theorem of139_6 : offA Try.prog 139 6 = some (6, 133) := by kernel_rfl
theorem of139_7 : offA Try.prog 139 7 = some (7, 134) := by kernel_rfl
theorem of139_8 : offA Try.prog 139 8 = some (8, 135) := by kernel_rfl
theorem of139_9 : offA Try.prog 139 9 = some (9, 136) := by kernel_rfl
theorem of139_10 : offA Try.prog 139 10 = some (10, 137) := by kernel_rfl
theorem pl139 : placesA Try.prog 139 = some [(0, 1), (1, 1), (2, 1), (3, 1), (4, 1), (5, 1), (6, 1), (7, 1), (8, 1), (9, 1), (10, 1)] := by kernel_rfl
attribute [go_sem] ag2 sz2 by2 ze2 el2 st2 ki2 us2 ag3 sz3 by3 ze3 el3 st3 ki3 us3 ag4 sz4 by4 ze4 bo4 ag5 sz5 by5 ze5 el5 st5 ki5 us5 ag6 sz6 by6 ze6 el6 st6 ki6 us6 ag7 sz7 by7 ze7 of7_0 of7_1 of7_2 of7_3 pl7 eq7 ag8 sz8 by8 ze8 of8_0 of8_1 of8_2 of8_3 pl8 eq8 ag9 sz9 by9 ze9 el9 st9 ag10 sz10 by10 ze10 el10 st10 ag11 sz11 by11 ze11 el11 st11 ag12 sz12 by12 ze12 el12 st12 ki12 us12 ag13 sz13 by13 ze13 of13_0 of13_1 pl13 ag14 sz14 by14 ze14 of14_0 of14_1 pl14 ag15 sz15 by15 ag16 sz16 by16 ag17 sz17 by17 ag18 sz18 by18 of18_0 pl18 ag19 sz19 by19 of19_0 pl19 ag21 sz21 by21 ze21 el21 st21 ki21 us21 ag22 sz22 by22 ze22 of22_0 of22_1 of22_2 of22_3 pl22 eq22 ag23 sz23 by23 ze23 of23_0 of23_1 of23_2 of23_3 pl23 eq23 ag26 sz26 by26 ze26 of26_0 of26_1 of26_2 of26_3 pl26 eq26 ag29 sz29 by29 ze29 el29 st29 ag30 sz30 by30 ze30 of30_0 of30_1 pl30 ag31 sz31 by31 ze31 of31_0 of31_1 pl31 ag33 sz33 by33 ze33 el33 st33 ag35 sz35 by35 ze35 el35 st35 ag36 sz36 by36 ze36 of36_0 of36_1 pl36 ag37 sz37 by37 ze37 of37_0 of37_1 pl37 ag47 sz47 by47 ze47 el47 st47 ag54 sz54 by54 ze54 el54 st54 ag75 sz75 by75 ze75 of75_0 of75_1 of75_2 pl75 eq75 ag76 sz76 by76 ze76 of76_0 of76_1 of76_2 pl76 eq76 ag83 sz83 by83 ag97 sz97 by97 ze97 of97_0 of97_1 of97_2 pl97 eq97 ag105 sz105 by105 ze105 el105 st105 ki105 us105 ag111 sz111 by111 ze111 of111_0 of111_1 of111_2 pl111 ag112 sz112 by112 ze112 of112_0 of112_1 of112_2 pl112 ag115 sz115 by115 ag120 sz120 by120 ze120 el120 st120 ag125 sz125 by125 of125_0 of125_1 of125_2 of125_3 pl125 ag126 sz126 by126 of126_0 of126_1 of126_2 of126_3 pl126 ag131 sz131 by131 ze131 el131 st131 ki131 us131 ag132 sz132 by132 ze132 el132 st132 ki132 us132 ag133 sz133 by133 ze133 el133 st133 ki133 us133 ag135 sz135 by135 ag136 sz136 by136 ze136 el136 st136 ki136 us136 ag137 sz137 by137 ze137 el137 st137 ki137 us137 ag138 sz138 by138 of138_0 of138_1 of138_2 of138_3 of138_4 of138_5 of138_6 of138_7 of138_8 of138_9 of138_10 pl138 ag139 sz139 by139 of139_0 of139_1 of139_2 of139_3 of139_4 of139_5 of139_6 of139_7 of139_8 of139_9 of139_10 pl139
end Go.Proofs.Ytjfmfcdempkpdaa
