/- What the program says of its types. Conditions: none; printed by a program, checked by Lean. -/
import Derived.Test.YtedkpjaojdkpcaaL2
import Derived.Test.YtedkpjaojdkpcaaProg
namespace Go.Proofs.Ytedkpjaojdkpcaa
open Go.BL
theorem ag2 : aggA Try.prog 2 = some false := by kernel_rfl
theorem sz2 : sizeA Try.prog 2 = some 1 := by kernel_rfl
theorem by2 : bytesA Try.prog 2 = some 8 := by kernel_rfl
theorem ze2 : zeroA Try.prog 2 = some [.c (.int .i64 0)] := by kernel_rfl
theorem el2 : elemA Try.prog 2 = none := by kernel_rfl
theorem st2 : strA Try.prog 2 = false := by kernel_rfl
theorem ki2 : kindA Try.prog 2 = some .i64 := by kernel_rfl
theorem us2 : (Try.prog.underlying 2).isSome = true := by kernel_rfl
theorem ag3 : aggA Try.prog 3 = some false := by kernel_rfl
theorem sz3 : sizeA Try.prog 3 = some 1 := by kernel_rfl
theorem by3 : bytesA Try.prog 3 = some 8 := by kernel_rfl
theorem ze3 : zeroA Try.prog 3 = some [.c (.int .i64 0)] := by kernel_rfl
theorem el3 : elemA Try.prog 3 = none := by kernel_rfl
theorem st3 : strA Try.prog 3 = false := by kernel_rfl
theorem ki3 : kindA Try.prog 3 = some .i64 := by kernel_rfl
theorem us3 : (Try.prog.underlying 3).isSome = true := by kernel_rfl
theorem ag4 : aggA Try.prog 4 = some false := by kernel_rfl
theorem sz4 : sizeA Try.prog 4 = some 1 := by kernel_rfl
theorem by4 : bytesA Try.prog 4 = some 1 := by kernel_rfl
theorem ze4 : zeroA Try.prog 4 = some [.c (.bool false)] := by kernel_rfl
theorem bo4 : boolA Try.prog 4 = true := by kernel_rfl
theorem ag5 : aggA Try.prog 5 = some false := by kernel_rfl
theorem sz5 : sizeA Try.prog 5 = some 1 := by kernel_rfl
theorem by5 : bytesA Try.prog 5 = some 1 := by kernel_rfl
theorem ze5 : zeroA Try.prog 5 = some [.c (.int .u8 0)] := by kernel_rfl
theorem el5 : elemA Try.prog 5 = none := by kernel_rfl
theorem st5 : strA Try.prog 5 = false := by kernel_rfl
theorem ki5 : kindA Try.prog 5 = some .u8 := by kernel_rfl
theorem us5 : (Try.prog.underlying 5).isSome = true := by kernel_rfl
theorem ag6 : aggA Try.prog 6 = some false := by kernel_rfl
theorem sz6 : sizeA Try.prog 6 = some 1 := by kernel_rfl
theorem by6 : bytesA Try.prog 6 = some 1 := by kernel_rfl
theorem ze6 : zeroA Try.prog 6 = some [.c (.int .u8 0)] := by kernel_rfl
theorem el6 : elemA Try.prog 6 = none := by kernel_rfl
theorem st6 : strA Try.prog 6 = false := by kernel_rfl
theorem ki6 : kindA Try.prog 6 = some .u8 := by kernel_rfl
theorem us6 : (Try.prog.underlying 6).isSome = true := by kernel_rfl
theorem ag7 : aggA Try.prog 7 = some true := by kernel_rfl
theorem sz7 : sizeA Try.prog 7 = some 4 := by kernel_rfl
theorem by7 : bytesA Try.prog 7 = some 24 := by kernel_rfl
theorem ze7 : zeroA Try.prog 7 = some [.c (.int .i64 0), .c (.int .i64 0), .c (.bool false), .c (.int .u8 0)] := by kernel_rfl
theorem of7_0 : offA Try.prog 7 0 = some (0, 2) := by kernel_rfl
theorem of7_1 : offA Try.prog 7 1 = some (1, 3) := by kernel_rfl
theorem of7_2 : offA Try.prog 7 2 = some (2, 4) := by kernel_rfl
theorem of7_3 : offA Try.prog 7 3 = some (3, 6) := by kernel_rfl
theorem pl7 : placesA Try.prog 7 = some [(0, 1), (1, 1), (2, 1), (3, 1)] := by kernel_rfl
theorem eq7 : eqTA Try.prog 7 = some [(2, 0), (3, 1), (4, 2), (6, 3)] := by kernel_rfl
theorem ag8 : aggA Try.prog 8 = some true := by kernel_rfl
theorem sz8 : sizeA Try.prog 8 = some 4 := by kernel_rfl
theorem by8 : bytesA Try.prog 8 = some 24 := by kernel_rfl
theorem ze8 : zeroA Try.prog 8 = some [.c (.int .i64 0), .c (.int .i64 0), .c (.bool false), .c (.int .u8 0)] := by kernel_rfl
theorem of8_0 : offA Try.prog 8 0 = some (0, 2) := by kernel_rfl
theorem of8_1 : offA Try.prog 8 1 = some (1, 3) := by kernel_rfl
theorem of8_2 : offA Try.prog 8 2 = some (2, 4) := by kernel_rfl
theorem of8_3 : offA Try.prog 8 3 = some (3, 6) := by kernel_rfl
theorem pl8 : placesA Try.prog 8 = some [(0, 1), (1, 1), (2, 1), (3, 1)] := by kernel_rfl
theorem eq8 : eqTA Try.prog 8 = some [(2, 0), (3, 1), (4, 2), (6, 3)] := by kernel_rfl
theorem ag9 : aggA Try.prog 9 = some false := by kernel_rfl
theorem sz9 : sizeA Try.prog 9 = some 1 := by kernel_rfl
theorem by9 : bytesA Try.prog 9 = some 16 := by kernel_rfl
theorem ze9 : zeroA Try.prog 9 = some [.c (.string ⟨#[]⟩)] := by kernel_rfl
theorem el9 : elemA Try.prog 9 = none := by kernel_rfl
theorem st9 : strA Try.prog 9 = true := by kernel_rfl
theorem ag10 : aggA Try.prog 10 = some false := by kernel_rfl
theorem sz10 : sizeA Try.prog 10 = some 1 := by kernel_rfl
theorem by10 : bytesA Try.prog 10 = some 16 := by kernel_rfl
theorem ze10 : zeroA Try.prog 10 = some [.c (.string ⟨#[]⟩)] := by kernel_rfl
theorem el10 : elemA Try.prog 10 = none := by kernel_rfl
theorem st10 : strA Try.prog 10 = true := by kernel_rfl
theorem ag11 : aggA Try.prog 11 = some false := by kernel_rfl
theorem sz11 : sizeA Try.prog 11 = some 1 := by kernel_rfl
theorem by11 : bytesA Try.prog 11 = some 16 := by kernel_rfl
theorem ze11 : zeroA Try.prog 11 = some [.c (.string ⟨#[]⟩)] := by kernel_rfl
theorem el11 : elemA Try.prog 11 = none := by kernel_rfl
theorem st11 : strA Try.prog 11 = true := by kernel_rfl
theorem ag12 : aggA Try.prog 12 = some false := by kernel_rfl
theorem sz12 : sizeA Try.prog 12 = some 1 := by kernel_rfl
theorem by12 : bytesA Try.prog 12 = some 8 := by kernel_rfl
theorem ze12 : zeroA Try.prog 12 = some [.c (.int .u64 0)] := by kernel_rfl
theorem el12 : elemA Try.prog 12 = none := by kernel_rfl
theorem st12 : strA Try.prog 12 = false := by kernel_rfl
theorem ki12 : kindA Try.prog 12 = some .u64 := by kernel_rfl
theorem us12 : (Try.prog.underlying 12).isSome = true := by kernel_rfl
theorem ag13 : aggA Try.prog 13 = some true := by kernel_rfl
theorem sz13 : sizeA Try.prog 13 = some 2 := by kernel_rfl
theorem by13 : bytesA Try.prog 13 = some 24 := by kernel_rfl
theorem ze13 : zeroA Try.prog 13 = some [.c (.string ⟨#[]⟩), .c (.int .u64 0)] := by kernel_rfl
theorem of13_0 : offA Try.prog 13 0 = some (0, 9) := by kernel_rfl
theorem of13_1 : offA Try.prog 13 1 = some (1, 12) := by kernel_rfl
theorem pl13 : placesA Try.prog 13 = some [(0, 1), (1, 1)] := by kernel_rfl
theorem ag14 : aggA Try.prog 14 = some true := by kernel_rfl
theorem sz14 : sizeA Try.prog 14 = some 2 := by kernel_rfl
theorem by14 : bytesA Try.prog 14 = some 24 := by kernel_rfl
theorem ze14 : zeroA Try.prog 14 = some [.c (.string ⟨#[]⟩), .c (.int .u64 0)] := by kernel_rfl
theorem of14_0 : offA Try.prog 14 0 = some (0, 9) := by kernel_rfl
theorem of14_1 : offA Try.prog 14 1 = some (1, 12) := by kernel_rfl
theorem pl14 : placesA Try.prog 14 = some [(0, 1), (1, 1)] := by kernel_rfl
theorem ag15 : aggA Try.prog 15 = some false := by kernel_rfl
theorem sz15 : sizeA Try.prog 15 = some 1 := by kernel_rfl
theorem by15 : bytesA Try.prog 15 = some 8 := by kernel_rfl
theorem ag16 : aggA Try.prog 16 = some false := by kernel_rfl
theorem sz16 : sizeA Try.prog 16 = some 1 := by kernel_rfl
theorem by16 : bytesA Try.prog 16 = some 8 := by kernel_rfl
theorem ag17 : aggA Try.prog 17 = some false := by kernel_rfl
theorem sz17 : sizeA Try.prog 17 = some 1 := by kernel_rfl
theorem by17 : bytesA Try.prog 17 = some 8 := by kernel_rfl
theorem ag18 : aggA Try.prog 18 = some true := by kernel_rfl
theorem sz18 : sizeA Try.prog 18 = some 1 := by kernel_rfl
theorem by18 : bytesA Try.prog 18 = some 8 := by kernel_rfl
theorem of18_0 : offA Try.prog 18 0 = some (0, 17) := by kernel_rfl
theorem pl18 : placesA Try.prog 18 = some [(0, 1)] := by kernel_rfl
theorem ag19 : aggA Try.prog 19 = some true := by kernel_rfl
theorem sz19 : sizeA Try.prog 19 = some 1 := by kernel_rfl
theorem by19 : bytesA Try.prog 19 = some 8 := by kernel_rfl
theorem of19_0 : offA Try.prog 19 0 = some (0, 17) := by kernel_rfl
theorem pl19 : placesA Try.prog 19 = some [(0, 1)] := by kernel_rfl
theorem ag21 : aggA Try.prog 21 = some false := by kernel_rfl
theorem sz21 : sizeA Try.prog 21 = some 1 := by kernel_rfl
theorem by21 : bytesA Try.prog 21 = some 4 := by kernel_rfl
theorem ze21 : zeroA Try.prog 21 = some [.c (.int .i32 0)] := by kernel_rfl
theorem el21 : elemA Try.prog 21 = none := by kernel_rfl
theorem st21 : strA Try.prog 21 = false := by kernel_rfl
theorem ki21 : kindA Try.prog 21 = some .i32 := by kernel_rfl
theorem us21 : (Try.prog.underlying 21).isSome = true := by kernel_rfl
theorem ag22 : aggA Try.prog 22 = some false := by kernel_rfl
theorem sz22 : sizeA Try.prog 22 = some 1 := by kernel_rfl
theorem by22 : bytesA Try.prog 22 = some 24 := by kernel_rfl
theorem ze22 : zeroA Try.prog 22 = some [.nl] := by kernel_rfl
theorem el22 : elemA Try.prog 22 = some 102 := by kernel_rfl
theorem st22 : strA Try.prog 22 = false := by kernel_rfl
theorem ag23 : aggA Try.prog 23 = some false := by kernel_rfl
theorem sz23 : sizeA Try.prog 23 = some 1 := by kernel_rfl
theorem by23 : bytesA Try.prog 23 = some 24 := by kernel_rfl
theorem ze23 : zeroA Try.prog 23 = some [.nl] := by kernel_rfl
theorem el23 : elemA Try.prog 23 = some 104 := by kernel_rfl
theorem st23 : strA Try.prog 23 = false := by kernel_rfl
theorem ag24 : aggA Try.prog 24 = some false := by kernel_rfl
theorem sz24 : sizeA Try.prog 24 = some 1 := by kernel_rfl
theorem by24 : bytesA Try.prog 24 = some 24 := by kernel_rfl
theorem ze24 : zeroA Try.prog 24 = some [.nl] := by kernel_rfl
theorem el24 : elemA Try.prog 24 = some 106 := by kernel_rfl
theorem st24 : strA Try.prog 24 = false := by kernel_rfl
theorem ag25 : aggA Try.prog 25 = some false := by kernel_rfl
theorem sz25 : sizeA Try.prog 25 = some 1 := by kernel_rfl
theorem by25 : bytesA Try.prog 25 = some 24 := by kernel_rfl
theorem ze25 : zeroA Try.prog 25 = some [.nl] := by kernel_rfl
theorem el25 : elemA Try.prog 25 = some 110 := by kernel_rfl
theorem st25 : strA Try.prog 25 = false := by kernel_rfl
theorem ag26 : aggA Try.prog 26 = some false := by kernel_rfl
theorem sz26 : sizeA Try.prog 26 = some 1 := by kernel_rfl
theorem by26 : bytesA Try.prog 26 = some 24 := by kernel_rfl
theorem ze26 : zeroA Try.prog 26 = some [.nl] := by kernel_rfl
theorem el26 : elemA Try.prog 26 = some 112 := by kernel_rfl
theorem st26 : strA Try.prog 26 = false := by kernel_rfl
theorem ag27 : aggA Try.prog 27 = some true := by kernel_rfl
theorem sz27 : sizeA Try.prog 27 = some 6 := by kernel_rfl
theorem by27 : bytesA Try.prog 27 = some 128 := by kernel_rfl
theorem ze27 : zeroA Try.prog 27 = some [.nl, .nl, .nl, .nl, .nl, .c (.int .i64 0)] := by kernel_rfl
theorem of27_0 : offA Try.prog 27 0 = some (0, 22) := by kernel_rfl
theorem of27_1 : offA Try.prog 27 1 = some (1, 23) := by kernel_rfl
theorem of27_2 : offA Try.prog 27 2 = some (2, 24) := by kernel_rfl
theorem of27_3 : offA Try.prog 27 3 = some (3, 25) := by kernel_rfl
theorem of27_4 : offA Try.prog 27 4 = some (4, 26) := by kernel_rfl
theorem of27_5 : offA Try.prog 27 5 = some (5, 3) := by kernel_rfl
theorem pl27 : placesA Try.prog 27 = some [(0, 1), (1, 1), (2, 1), (3, 1), (4, 1), (5, 1)] := by kernel_rfl
theorem ag28 : aggA Try.prog 28 = some true := by kernel_rfl
theorem sz28 : sizeA Try.prog 28 = some 6 := by kernel_rfl
theorem by28 : bytesA Try.prog 28 = some 128 := by kernel_rfl
theorem ze28 : zeroA Try.prog 28 = some [.nl, .nl, .nl, .nl, .nl, .c (.int .i64 0)] := by kernel_rfl
theorem of28_0 : offA Try.prog 28 0 = some (0, 22) := by kernel_rfl
theorem of28_1 : offA Try.prog 28 1 = some (1, 23) := by kernel_rfl
theorem of28_2 : offA Try.prog 28 2 = some (2, 24) := by kernel_rfl
theorem of28_3 : offA Try.prog 28 3 = some (3, 25) := by kernel_rfl
theorem of28_4 : offA Try.prog 28 4 = some (4, 26) := by kernel_rfl
theorem of28_5 : offA Try.prog 28 5 = some (5, 3) := by kernel_rfl
theorem pl28 : placesA Try.prog 28 = some [(0, 1), (1, 1), (2, 1), (3, 1), (4, 1), (5, 1)] := by kernel_rfl
theorem ag32 : aggA Try.prog 32 = some false := by kernel_rfl
theorem sz32 : sizeA Try.prog 32 = some 1 := by kernel_rfl
theorem by32 : bytesA Try.prog 32 = some 24 := by kernel_rfl
theorem ze32 : zeroA Try.prog 32 = some [.nl] := by kernel_rfl
theorem el32 : elemA Try.prog 32 = some 100 := by kernel_rfl
theorem st32 : strA Try.prog 32 = false := by kernel_rfl
theorem ag33 : aggA Try.prog 33 = some false := by kernel_rfl
theorem sz33 : sizeA Try.prog 33 = some 1 := by kernel_rfl
theorem by33 : bytesA Try.prog 33 = some 24 := by kernel_rfl
theorem ze33 : zeroA Try.prog 33 = some [.nl] := by kernel_rfl
theorem el33 : elemA Try.prog 33 = some 99 := by kernel_rfl
theorem st33 : strA Try.prog 33 = false := by kernel_rfl
theorem ag34 : aggA Try.prog 34 = some false := by kernel_rfl
theorem sz34 : sizeA Try.prog 34 = some 1 := by kernel_rfl
theorem by34 : bytesA Try.prog 34 = some 24 := by kernel_rfl
theorem ze34 : zeroA Try.prog 34 = some [.nl] := by kernel_rfl
theorem el34 : elemA Try.prog 34 = some 62 := by kernel_rfl
theorem st34 : strA Try.prog 34 = false := by kernel_rfl
theorem ag35 : aggA Try.prog 35 = some false := by kernel_rfl
theorem sz35 : sizeA Try.prog 35 = some 1 := by kernel_rfl
theorem by35 : bytesA Try.prog 35 = some 24 := by kernel_rfl
theorem ze35 : zeroA Try.prog 35 = some [.nl] := by kernel_rfl
theorem el35 : elemA Try.prog 35 = some 108 := by kernel_rfl
theorem st35 : strA Try.prog 35 = false := by kernel_rfl
theorem ag36 : aggA Try.prog 36 = some false := by kernel_rfl
theorem sz36 : sizeA Try.prog 36 = some 1 := by kernel_rfl
theorem by36 : bytesA Try.prog 36 = some 24 := by kernel_rfl
theorem ze36 : zeroA Try.prog 36 = some [.nl] := by kernel_rfl
theorem el36 : elemA Try.prog 36 = some 76 := by kernel_rfl
theorem st36 : strA Try.prog 36 = false := by kernel_rfl
theorem ag37 : aggA Try.prog 37 = some true := by kernel_rfl
theorem sz37 : sizeA Try.prog 37 = some 6 := by kernel_rfl
theorem by37 : bytesA Try.prog 37 = some 128 := by kernel_rfl
theorem ze37 : zeroA Try.prog 37 = some [.nl, .nl, .nl, .nl, .nl, .c (.int .i64 0)] := by kernel_rfl
theorem of37_0 : offA Try.prog 37 0 = some (0, 32) := by kernel_rfl
theorem of37_1 : offA Try.prog 37 1 = some (1, 33) := by kernel_rfl
theorem of37_2 : offA Try.prog 37 2 = some (2, 34) := by kernel_rfl
theorem of37_3 : offA Try.prog 37 3 = some (3, 35) := by kernel_rfl
theorem of37_4 : offA Try.prog 37 4 = some (4, 36) := by kernel_rfl
theorem of37_5 : offA Try.prog 37 5 = some (5, 3) := by kernel_rfl
theorem pl37 : placesA Try.prog 37 = some [(0, 1), (1, 1), (2, 1), (3, 1), (4, 1), (5, 1)] := by kernel_rfl
theorem ag38 : aggA Try.prog 38 = some true := by kernel_rfl
theorem sz38 : sizeA Try.prog 38 = some 6 := by kernel_rfl
theorem by38 : bytesA Try.prog 38 = some 128 := by kernel_rfl
theorem ze38 : zeroA Try.prog 38 = some [.nl, .nl, .nl, .nl, .nl, .c (.int .i64 0)] := by kernel_rfl
theorem of38_0 : offA Try.prog 38 0 = some (0, 32) := by kernel_rfl
theorem of38_1 : offA Try.prog 38 1 = some (1, 33) := by kernel_rfl
theorem of38_2 : offA Try.prog 38 2 = some (2, 34) := by kernel_rfl
theorem of38_3 : offA Try.prog 38 3 = some (3, 35) := by kernel_rfl
theorem of38_4 : offA Try.prog 38 4 = some (4, 36) := by kernel_rfl
theorem of38_5 : offA Try.prog 38 5 = some (5, 3) := by kernel_rfl
theorem pl38 : placesA Try.prog 38 = some [(0, 1), (1, 1), (2, 1), (3, 1), (4, 1), (5, 1)] := by kernel_rfl
theorem ag43 : aggA Try.prog 43 = some false := by kernel_rfl
theorem sz43 : sizeA Try.prog 43 = some 1 := by kernel_rfl
theorem by43 : bytesA Try.prog 43 = some 24 := by kernel_rfl
theorem ze43 : zeroA Try.prog 43 = some [.nl] := by kernel_rfl
theorem el43 : elemA Try.prog 43 = some 3 := by kernel_rfl
theorem st43 : strA Try.prog 43 = false := by kernel_rfl
theorem ag49 : aggA Try.prog 49 = some false := by kernel_rfl
theorem sz49 : sizeA Try.prog 49 = some 1 := by kernel_rfl
theorem by49 : bytesA Try.prog 49 = some 24 := by kernel_rfl
theorem ze49 : zeroA Try.prog 49 = some [.nl] := by kernel_rfl
theorem el49 : elemA Try.prog 49 = some 84 := by kernel_rfl
theorem st49 : strA Try.prog 49 = false := by kernel_rfl
theorem ag61 : aggA Try.prog 61 = some true := by kernel_rfl
theorem sz61 : sizeA Try.prog 61 = some 3 := by kernel_rfl
theorem by61 : bytesA Try.prog 61 = some 24 := by kernel_rfl
theorem ze61 : zeroA Try.prog 61 = some [.c (.int .i64 0), .c (.int .i64 0), .c (.int .i64 0)] := by kernel_rfl
theorem of61_0 : offA Try.prog 61 0 = some (0, 3) := by kernel_rfl
theorem of61_1 : offA Try.prog 61 1 = some (1, 3) := by kernel_rfl
theorem of61_2 : offA Try.prog 61 2 = some (2, 3) := by kernel_rfl
theorem pl61 : placesA Try.prog 61 = some [(0, 1), (1, 1), (2, 1)] := by kernel_rfl
theorem eq61 : eqTA Try.prog 61 = some [(3, 0), (3, 1), (3, 2)] := by kernel_rfl
theorem ag62 : aggA Try.prog 62 = some true := by kernel_rfl
theorem sz62 : sizeA Try.prog 62 = some 3 := by kernel_rfl
theorem by62 : bytesA Try.prog 62 = some 24 := by kernel_rfl
theorem ze62 : zeroA Try.prog 62 = some [.c (.int .i64 0), .c (.int .i64 0), .c (.int .i64 0)] := by kernel_rfl
theorem of62_0 : offA Try.prog 62 0 = some (0, 3) := by kernel_rfl
theorem of62_1 : offA Try.prog 62 1 = some (1, 3) := by kernel_rfl
theorem of62_2 : offA Try.prog 62 2 = some (2, 3) := by kernel_rfl
theorem pl62 : placesA Try.prog 62 = some [(0, 1), (1, 1), (2, 1)] := by kernel_rfl
theorem eq62 : eqTA Try.prog 62 = some [(3, 0), (3, 1), (3, 2)] := by kernel_rfl
theorem ag75 : aggA Try.prog 75 = some true := by kernel_rfl
theorem sz75 : sizeA Try.prog 75 = some 8 := by kernel_rfl
theorem by75 : bytesA Try.prog 75 = some 64 := by kernel_rfl
theorem ze75 : zeroA Try.prog 75 = some [.c (.int .i64 0), .c (.int .i64 0), .c (.int .i64 0), .c (.int .i64 0), .c (.int .i64 0), .c (.int .i64 0), .c (.int .i64 0), .c (.int .i64 0)] := by kernel_rfl
theorem of75_0 : offA Try.prog 75 0 = some (0, 3) := by kernel_rfl
theorem of75_1 : offA Try.prog 75 1 = some (1, 3) := by kernel_rfl
theorem of75_2 : offA Try.prog 75 2 = some (2, 3) := by kernel_rfl
theorem of75_3 : offA Try.prog 75 3 = some (3, 3) := by kernel_rfl
theorem of75_4 : offA Try.prog 75 4 = some (4, 3) := by kernel_rfl
theorem of75_5 : offA Try.prog 75 5 = some (5, 3) := by kernel_rfl
theorem of75_6 : offA Try.prog 75 6 = some (6, 3) := by kernel_rfl
theorem of75_7 : offA Try.prog 75 7 = some (7, 3) := by kernel_rfl
theorem pl75 : placesA Try.prog 75 = some [(0, 1), (1, 1), (2, 1), (3, 1), (4, 1), (5, 1), (6, 1), (7, 1)] := by kernel_rfl
theorem eq75 : eqTA Try.prog 75 = some [(3, 0), (3, 1), (3, 2), (3, 3), (3, 4), (3, 5), (3, 6), (3, 7)] := by kernel_rfl
theorem ag76 : aggA Try.prog 76 = some true := by kernel_rfl
theorem sz76 : sizeA Try.prog 76 = some 8 := by kernel_rfl
theorem by76 : bytesA Try.prog 76 = some 64 := by kernel_rfl
theorem ze76 : zeroA Try.prog 76 = some [.c (.int .i64 0), .c (.int .i64 0), .c (.int .i64 0), .c (.int .i64 0), .c (.int .i64 0), .c (.int .i64 0), .c (.int .i64 0), .c (.int .i64 0)] := by kernel_rfl
theorem of76_0 : offA Try.prog 76 0 = some (0, 3) := by kernel_rfl
theorem of76_1 : offA Try.prog 76 1 = some (1, 3) := by kernel_rfl
theorem of76_2 : offA Try.prog 76 2 = some (2, 3) := by kernel_rfl
theorem of76_3 : offA Try.prog 76 3 = some (3, 3) := by kernel_rfl
theorem of76_4 : offA Try.prog 76 4 = some (4, 3) := by kernel_rfl
theorem of76_5 : offA Try.prog 76 5 = some (5, 3) := by kernel_rfl
theorem of76_6 : offA Try.prog 76 6 = some (6, 3) := by kernel_rfl
theorem of76_7 : offA Try.prog 76 7 = some (7, 3) := by kernel_rfl
theorem pl76 : placesA Try.prog 76 = some [(0, 1), (1, 1), (2, 1), (3, 1), (4, 1), (5, 1), (6, 1), (7, 1)] := by kernel_rfl
theorem eq76 : eqTA Try.prog 76 = some [(3, 0), (3, 1), (3, 2), (3, 3), (3, 4), (3, 5), (3, 6), (3, 7)] := by kernel_rfl
theorem ag79 : aggA Try.prog 79 = some false := by kernel_rfl
theorem sz79 : sizeA Try.prog 79 = some 1 := by kernel_rfl
theorem by79 : bytesA Try.prog 79 = some 24 := by kernel_rfl
theorem ze79 : zeroA Try.prog 79 = some [.nl] := by kernel_rfl
theorem el79 : elemA Try.prog 79 = some 9 := by kernel_rfl
theorem st79 : strA Try.prog 79 = false := by kernel_rfl
theorem ag83 : aggA Try.prog 83 = some true := by kernel_rfl
theorem sz83 : sizeA Try.prog 83 = some 5 := by kernel_rfl
theorem by83 : bytesA Try.prog 83 = some 40 := by kernel_rfl
theorem ze83 : zeroA Try.prog 83 = some [.c (.int .i64 0), .c (.int .i64 0), .c (.int .i64 0), .c (.int .i64 0), .c (.int .i64 0)] := by kernel_rfl
theorem of83_0 : offA Try.prog 83 0 = some (0, 3) := by kernel_rfl
theorem of83_1 : offA Try.prog 83 1 = some (1, 3) := by kernel_rfl
theorem of83_2 : offA Try.prog 83 2 = some (2, 3) := by kernel_rfl
theorem of83_3 : offA Try.prog 83 3 = some (3, 3) := by kernel_rfl
theorem of83_4 : offA Try.prog 83 4 = some (4, 3) := by kernel_rfl
theorem pl83 : placesA Try.prog 83 = some [(0, 1), (1, 1), (2, 1), (3, 1), (4, 1)] := by kernel_rfl
theorem eq83 : eqTA Try.prog 83 = some [(3, 0), (3, 1), (3, 2), (3, 3), (3, 4)] := by kernel_rfl
theorem ag84 : aggA Try.prog 84 = some true := by kernel_rfl
theorem sz84 : sizeA Try.prog 84 = some 5 := by kernel_rfl
theorem by84 : bytesA Try.prog 84 = some 40 := by kernel_rfl
theorem ze84 : zeroA Try.prog 84 = some [.c (.int .i64 0), .c (.int .i64 0), .c (.int .i64 0), .c (.int .i64 0), .c (.int .i64 0)] := by kernel_rfl
theorem of84_0 : offA Try.prog 84 0 = some (0, 3) := by kernel_rfl
theorem of84_1 : offA Try.prog 84 1 = some (1, 3) := by kernel_rfl
theorem of84_2 : offA Try.prog 84 2 = some (2, 3) := by kernel_rfl
theorem of84_3 : offA Try.prog 84 3 = some (3, 3) := by kernel_rfl
theorem of84_4 : offA Try.prog 84 4 = some (4, 3) := by kernel_rfl
theorem pl84 : placesA Try.prog 84 = some [(0, 1), (1, 1), (2, 1), (3, 1), (4, 1)] := by kernel_rfl
theorem eq84 : eqTA Try.prog 84 = some [(3, 0), (3, 1), (3, 2), (3, 3), (3, 4)] := by kernel_rfl
theorem ag98 : aggA Try.prog 98 = some true := by kernel_rfl
theorem sz98 : sizeA Try.prog 98 = some 2 := by kernel_rfl
theorem by98 : bytesA Try.prog 98 = some 16 := by kernel_rfl
theorem ze98 : zeroA Try.prog 98 = some [.c (.int .i64 0), .c (.int .i64 0)] := by kernel_rfl
theorem of98_0 : offA Try.prog 98 0 = some (0, 3) := by kernel_rfl
theorem of98_1 : offA Try.prog 98 1 = some (1, 3) := by kernel_rfl
theorem pl98 : placesA Try.prog 98 = some [(0, 1), (1, 1)] := by kernel_rfl
theorem eq98 : eqTA Try.prog 98 = some [(3, 0), (3, 1)] := by kernel_rfl
theorem ag99 : aggA Try.prog 99 = some true := by kernel_rfl
theorem sz99 : sizeA Try.prog 99 = some 2 := by kernel_rfl
theorem by99 : bytesA Try.prog 99 = some 16 := by kernel_rfl
theorem ze99 : zeroA Try.prog 99 = some [.c (.int .i64 0), .c (.int .i64 0)] := by kernel_rfl
theorem of99_0 : offA Try.prog 99 0 = some (0, 3) := by kernel_rfl
theorem of99_1 : offA Try.prog 99 1 = some (1, 3) := by kernel_rfl
theorem pl99 : placesA Try.prog 99 = some [(0, 1), (1, 1)] := by kernel_rfl
theorem eq99 : eqTA Try.prog 99 = some [(3, 0), (3, 1)] := by kernel_rfl
theorem ag100 : aggA Try.prog 100 = some true := by kernel_rfl
theorem sz100 : sizeA Try.prog 100 = some 2 := by kernel_rfl
theorem by100 : bytesA Try.prog 100 = some 16 := by kernel_rfl
theorem ze100 : zeroA Try.prog 100 = some [.c (.int .i64 0), .c (.int .i64 0)] := by kernel_rfl
theorem of100_0 : offA Try.prog 100 0 = some (0, 3) := by kernel_rfl
theorem of100_1 : offA Try.prog 100 1 = some (1, 3) := by kernel_rfl
theorem pl100 : placesA Try.prog 100 = some [(0, 1), (1, 1)] := by kernel_rfl
theorem eq100 : eqTA Try.prog 100 = some [(3, 0), (3, 1)] := by kernel_rfl
theorem ag102 : aggA Try.prog 102 = some true := by kernel_rfl
theorem sz102 : sizeA Try.prog 102 = some 2 := by kernel_rfl
theorem by102 : bytesA Try.prog 102 = some 16 := by kernel_rfl
theorem ze102 : zeroA Try.prog 102 = some [.c (.int .i64 0), .c (.int .i64 0)] := by kernel_rfl
theorem of102_0 : offA Try.prog 102 0 = some (0, 3) := by kernel_rfl
theorem of102_1 : offA Try.prog 102 1 = some (1, 3) := by kernel_rfl
theorem pl102 : placesA Try.prog 102 = some [(0, 1), (1, 1)] := by kernel_rfl
theorem eq102 : eqTA Try.prog 102 = some [(3, 0), (3, 1)] := by kernel_rfl
theorem ag104 : aggA Try.prog 104 = some true := by kernel_rfl
theorem sz104 : sizeA Try.prog 104 = some 2 := by kernel_rfl
theorem by104 : bytesA Try.prog 104 = some 16 := by kernel_rfl
theorem ze104 : zeroA Try.prog 104 = some [.c (.int .i64 0), .c (.int .i64 0)] := by kernel_rfl
theorem of104_0 : offA Try.prog 104 0 = some (0, 3) := by kernel_rfl
theorem of104_1 : offA Try.prog 104 1 = some (1, 3) := by kernel_rfl
theorem pl104 : placesA Try.prog 104 = some [(0, 1), (1, 1)] := by kernel_rfl
theorem eq104 : eqTA Try.prog 104 = some [(3, 0), (3, 1)] := by kernel_rfl
theorem ag106 : aggA Try.prog 106 = some true := by kernel_rfl
theorem sz106 : sizeA Try.prog 106 = some 3 := by kernel_rfl
theorem by106 : bytesA Try.prog 106 = some 24 := by kernel_rfl
theorem ze106 : zeroA Try.prog 106 = some [.c (.int .i64 0), .c (.int .i64 0), .c (.int .i64 0)] := by kernel_rfl
theorem of106_0 : offA Try.prog 106 0 = some (0, 3) := by kernel_rfl
theorem of106_1 : offA Try.prog 106 1 = some (1, 3) := by kernel_rfl
theorem of106_2 : offA Try.prog 106 2 = some (2, 3) := by kernel_rfl
theorem pl106 : placesA Try.prog 106 = some [(0, 1), (1, 1), (2, 1)] := by kernel_rfl
theorem eq106 : eqTA Try.prog 106 = some [(3, 0), (3, 1), (3, 2)] := by kernel_rfl
theorem ag107 : aggA Try.prog 107 = some true := by kernel_rfl
theorem sz107 : sizeA Try.prog 107 = some 5 := by kernel_rfl
theorem by107 : bytesA Try.prog 107 = some 40 := by kernel_rfl
theorem ze107 : zeroA Try.prog 107 = some [.c (.int .i64 0), .c (.int .i64 0), .c (.int .i64 0), .c (.int .i64 0), .c (.int .i64 0)] := by kernel_rfl
theorem of107_0 : offA Try.prog 107 0 = some (0, 3) := by kernel_rfl
theorem of107_1 : offA Try.prog 107 1 = some (1, 3) := by kernel_rfl
theorem of107_2 : offA Try.prog 107 2 = some (2, 3) := by kernel_rfl
theorem of107_3 : offA Try.prog 107 3 = some (3, 3) := by kernel_rfl
theorem of107_4 : offA Try.prog 107 4 = some (4, 3) := by kernel_rfl
theorem pl107 : placesA Try.prog 107 = some [(0, 1), (1, 1), (2, 1), (3, 1), (4, 1)] := by kernel_rfl
theorem eq107 : eqTA Try.prog 107 = some [(3, 0), (3, 1), (3, 2), (3, 3), (3, 4)] := by kernel_rfl
theorem ag108 : aggA Try.prog 108 = some true := by kernel_rfl
theorem sz108 : sizeA Try.prog 108 = some 5 := by kernel_rfl
theorem by108 : bytesA Try.prog 108 = some 40 := by kernel_rfl
theorem ze108 : zeroA Try.prog 108 = some [.c (.int .i64 0), .c (.int .i64 0), .c (.int .i64 0), .c (.int .i64 0), .c (.int .i64 0)] := by kernel_rfl
theorem of108_0 : offA Try.prog 108 0 = some (0, 3) := by kernel_rfl
theorem of108_1 : offA Try.prog 108 1 = some (1, 3) := by kernel_rfl
theorem of108_2 : offA Try.prog 108 2 = some (2, 3) := by kernel_rfl
theorem of108_3 : offA Try.prog 108 3 = some (3, 3) := by kernel_rfl
theorem of108_4 : offA Try.prog 108 4 = some (4, 3) := by kernel_rfl
theorem pl108 : placesA Try.prog 108 = some [(0, 1), (1, 1), (2, 1), (3, 1), (4, 1)] := by kernel_rfl
theorem eq108 : eqTA Try.prog 108 = some [(3, 0), (3, 1), (3, 2), (3, 3), (3, 4)] := by kernel_rfl
theorem ag110 : aggA Try.prog 110 = some true := by kernel_rfl
theorem sz110 : sizeA Try.prog 110 = some 5 := by kernel_rfl
theorem by110 : bytesA Try.prog 110 = some 40 := by kernel_rfl
theorem ze110 : zeroA Try.prog 110 = some [.c (.int .i64 0), .c (.int .i64 0), .c (.int .i64 0), .c (.int .i64 0), .c (.int .i64 0)] := by kernel_rfl
theorem of110_0 : offA Try.prog 110 0 = some (0, 3) := by kernel_rfl
theorem of110_1 : offA Try.prog 110 1 = some (1, 3) := by kernel_rfl
theorem of110_2 : offA Try.prog 110 2 = some (2, 3) := by kernel_rfl
theorem of110_3 : offA Try.prog 110 3 = some (3, 3) := by kernel_rfl
theorem of110_4 : offA Try.prog 110 4 = some (4, 3) := by kernel_rfl
theorem pl110 : placesA Try.prog 110 = some [(0, 1), (1, 1), (2, 1), (3, 1), (4, 1)] := by kernel_rfl
theorem eq110 : eqTA Try.prog 110 = some [(3, 0), (3, 1), (3, 2), (3, 3), (3, 4)] := by kernel_rfl
theorem ag112 : aggA Try.prog 112 = some true := by kernel_rfl
theorem sz112 : sizeA Try.prog 112 = some 8 := by kernel_rfl
theorem by112 : bytesA Try.prog 112 = some 64 := by kernel_rfl
theorem ze112 : zeroA Try.prog 112 = some [.c (.int .i64 0), .c (.int .i64 0), .c (.int .i64 0), .c (.int .i64 0), .c (.int .i64 0), .c (.int .i64 0), .c (.int .i64 0), .c (.int .i64 0)] := by kernel_rfl
theorem of112_0 : offA Try.prog 112 0 = some (0, 3) := by kernel_rfl
theorem of112_1 : offA Try.prog 112 1 = some (1, 3) := by kernel_rfl
theorem of112_2 : offA Try.prog 112 2 = some (2, 3) := by kernel_rfl
theorem of112_3 : offA Try.prog 112 3 = some (3, 3) := by kernel_rfl
theorem of112_4 : offA Try.prog 112 4 = some (4, 3) := by kernel_rfl
theorem of112_5 : offA Try.prog 112 5 = some (5, 3) := by kernel_rfl
theorem of112_6 : offA Try.prog 112 6 = some (6, 3) := by kernel_rfl
theorem of112_7 : offA Try.prog 112 7 = some (7, 3) := by kernel_rfl
theorem pl112 : placesA Try.prog 112 = some [(0, 1), (1, 1), (2, 1), (3, 1), (4, 1), (5, 1), (6, 1), (7, 1)] := by kernel_rfl
theorem eq112 : eqTA Try.prog 112 = some [(3, 0), (3, 1), (3, 2), (3, 3), (3, 4), (3, 5), (3, 6), (3, 7)] := by kernel_rfl
theorem ag139 : aggA Try.prog 139 = some true := by kernel_rfl
theorem sz139 : sizeA Try.prog 139 = some 4 := by kernel_rfl
theorem by139 : bytesA Try.prog 139 = some 40 := by kernel_rfl
theorem of139_0 : offA Try.prog 139 0 = some (0, 17) := by kernel_rfl
theorem of139_1 : offA Try.prog 139 1 = some (1, 17) := by kernel_rfl
theorem of139_2 : offA Try.prog 139 2 = some (2, 17) := by kernel_rfl
theorem of139_3 : offA Try.prog 139 3 = some (3, 9) := by kernel_rfl
theorem pl139 : placesA Try.prog 139 = some [(0, 1), (1, 1), (2, 1), (3, 1)] := by kernel_rfl
theorem ag140 : aggA Try.prog 140 = some true := by kernel_rfl
theorem sz140 : sizeA Try.prog 140 = some 4 := by kernel_rfl
theorem by140 : bytesA Try.prog 140 = some 40 := by kernel_rfl
theorem of140_0 : offA Try.prog 140 0 = some (0, 17) := by kernel_rfl
theorem of140_1 : offA Try.prog 140 1 = some (1, 17) := by kernel_rfl
theorem of140_2 : offA Try.prog 140 2 = some (2, 17) := by kernel_rfl
theorem of140_3 : offA Try.prog 140 3 = some (3, 9) := by kernel_rfl
theorem pl140 : placesA Try.prog 140 = some [(0, 1), (1, 1), (2, 1), (3, 1)] := by kernel_rfl
theorem ag145 : aggA Try.prog 145 = some false := by kernel_rfl
theorem sz145 : sizeA Try.prog 145 = some 1 := by kernel_rfl
theorem by145 : bytesA Try.prog 145 = some 4 := by kernel_rfl
theorem ze145 : zeroA Try.prog 145 = some [.c (.int .u32 0)] := by kernel_rfl
theorem el145 : elemA Try.prog 145 = none := by kernel_rfl
theorem st145 : strA Try.prog 145 = false := by kernel_rfl
theorem ki145 : kindA Try.prog 145 = some .u32 := by kernel_rfl
theorem us145 : (Try.prog.underlying 145).isSome = true := by kernel_rfl
theorem ag146 : aggA Try.prog 146 = some false := by kernel_rfl
theorem sz146 : sizeA Try.prog 146 = some 1 := by kernel_rfl
theorem by146 : bytesA Try.prog 146 = some 1 := by kernel_rfl
theorem ze146 : zeroA Try.prog 146 = some [.c (.int .u8 0)] := by kernel_rfl
theorem el146 : elemA Try.prog 146 = none := by kernel_rfl
theorem st146 : strA Try.prog 146 = false := by kernel_rfl
theorem ki146 : kindA Try.prog 146 = some .u8 := by kernel_rfl
theorem us146 : (Try.prog.underlying 146).isSome = true := by kernel_rfl
theorem ag147 : aggA Try.prog 147 = some false := by kernel_rfl
theorem sz147 : sizeA Try.prog 147 = some 1 := by kernel_rfl
theorem by147 : bytesA Try.prog 147 = some 1 := by kernel_rfl
theorem ze147 : zeroA Try.prog 147 = some [.c (.int .u8 0)] := by kernel_rfl
theorem el147 : elemA Try.prog 147 = none := by kernel_rfl
theorem st147 : strA Try.prog 147 = false := by kernel_rfl
theorem ki147 : kindA Try.prog 147 = some .u8 := by kernel_rfl
theorem us147 : (Try.prog.underlying 147).isSome = true := by kernel_rfl
theorem ag149 : aggA Try.prog 149 = some false := by kernel_rfl
theorem sz149 : sizeA Try.prog 149 = some 1 := by kernel_rfl
theorem by149 : bytesA Try.prog 149 = some 8 := by kernel_rfl
theorem ag150 : aggA Try.prog 150 = some false := by kernel_rfl
theorem sz150 : sizeA Try.prog 150 = some 1 := by kernel_rfl
theorem by150 : bytesA Try.prog 150 = some 4 := by kernel_rfl
theorem ze150 : zeroA Try.prog 150 = some [.c (.int .i32 0)] := by kernel_rfl
theorem el150 : elemA Try.prog 150 = none := by kernel_rfl
theorem st150 : strA Try.prog 150 = false := by kernel_rfl
theorem ki150 : kindA Try.prog 150 = some .i32 := by kernel_rfl
theorem us150 : (Try.prog.underlying 150).isSome = true := by kernel_rfl
theorem ag151 : aggA Try.prog 151 = some false := by kernel_rfl
theorem sz151 : sizeA Try.prog 151 = some 1 := by kernel_rfl
theorem by151 : bytesA Try.prog 151 = some 4 := by kernel_rfl
theorem ze151 : zeroA Try.prog 151 = some [.c (.int .i32 0)] := by kernel_rfl
theorem el151 : elemA Try.prog 151 = none := by kernel_rfl
theorem st151 : strA Try.prog 151 = false := by kernel_rfl
theorem ki151 : kindA Try.prog 151 = some .i32 := by kernel_rfl
theorem us151 : (Try.prog.underlying 151).isSome = true := by kernel_rfl
theorem ag152 : aggA Try.prog 152 = some true := by kernel_rfl
theorem sz152 : sizeA Try.prog 152 = some 11 := by kernel_rfl
theorem by152 : bytesA Try.prog 152 = some 48 := by kernel_rfl
theorem of152_0 : offA Try.prog 152 0 = some (0, 12) := by kernel_rfl
theorem of152_1 : offA Try.prog 152 1 = some (1, 12) := by kernel_rfl
theorem of152_2 : offA Try.prog 152 2 = some (2, 145) := by kernel_rfl
theorem of152_3 : offA Try.prog 152 3 = some (3, 146) := by kernel_rfl
theorem of152_4 : offA Try.prog 152 4 = some (4, 5) := by kernel_rfl
theorem of152_5 : offA Try.prog 152 5 = some (5, 5) := by kernel_rfl
theorem of152_6 : offA Try.prog 152 6 = some (6, 147) := by kernel_rfl
theorem of152_7 : offA Try.prog 152 7 = some (7, 148) := by kernel_rfl
theorem of152_8 : offA Try.prog 152 8 = some (8, 149) := by kernel_rfl
theorem of152_9 : offA Try.prog 152 9 = some (9, 150) := by kernel_rfl
theorem of152_10 : offA Try.prog 152 10 = some (10, 151) := by kernel_rfl
theorem pl152 : placesA Try.prog 152 = some [(0, 1), (1, 1), (2, 1), (3, 1), (4, 1), (5, 1), (6, 1), (7, 1), (8, 1), (9, 1), (10, 1)] := by kernel_rfl
theorem ag153 : aggA Try.prog 153 = some true := by kernel_rfl
theorem sz153 : sizeA Try.prog 153 = some 11 := by kernel_rfl
theorem by153 : bytesA Try.prog 153 = some 48 := by kernel_rfl
theorem of153_0 : offA Try.prog 153 0 = some (0, 12) := by kernel_rfl
theorem of153_1 : offA Try.prog 153 1 = some (1, 12) := by kernel_rfl
theorem of153_2 : offA Try.prog 153 2 = some (2, 145) := by kernel_rfl
theorem of153_3 : offA Try.prog 153 3 = some (3, 146) := by kernel_rfl
theorem of153_4 : offA Try.prog 153 4 = some (4, 5) := by kernel_rfl
theorem of153_5 : offA Try.prog 153 5 = some (5, 5) := by kernel_rfl
theorem of153_6 : offA Try.prog 153 6 = some (6, 147) := by kernel_rfl
theorem of153_7 : offA Try.prog 153 7 = some (7, 148) := by kernel_rfl
theorem of153_8 : offA Try.prog 153 8 = some (8, 149) := by kernel_rfl
theorem of153_9 : offA Try.prog 153 9 = some (9, 150) := by kernel_rfl
theorem of153_10 : offA Try.prog 153 10 = some (10, 151) := by kernel_rfl
theorem pl153 : placesA Try.prog 153 = some [(0, 1), (1, 1), (2, 1), (3, 1), (4, 1), (5, 1), (6, 1), (7, 1), (8, 1), (9, 1), (10, 1)] := by kernel_rfl
attribute [go_sem] ag2 sz2 by2 ze2 el2 st2 ki2 us2 ag3 sz3 by3 ze3 el3 st3 ki3 us3 ag4 sz4 by4 ze4 bo4 ag5 sz5 by5 ze5 el5 st5 ki5 us5 ag6 sz6 by6 ze6 el6 st6 ki6 us6 ag7 sz7 by7 ze7 of7_0 of7_1 of7_2 of7_3 pl7 eq7 ag8 sz8 by8 ze8 of8_0 of8_1 of8_2 of8_3 pl8 eq8 ag9 sz9 by9 ze9 el9 st9 ag10 sz10 by10 ze10 el10 st10 ag11 sz11 by11 ze11 el11 st11 ag12 sz12 by12 ze12 el12 st12 ki12 us12 ag13 sz13 by13 ze13 of13_0 of13_1 pl13 ag14 sz14 by14 ze14 of14_0 of14_1 pl14 ag15 sz15 by15 ag16 sz16 by16 ag17 sz17 by17 ag18 sz18 by18 of18_0 pl18 ag19 sz19 by19 of19_0 pl19 ag21 sz21 by21 ze21 el21 st21 ki21 us21 ag22 sz22 by22 ze22 el22 st22 ag23 sz23 by23 ze23 el23 st23 ag24 sz24 by24 ze24 el24 st24 ag25 sz25 by25 ze25 el25 st25 ag26 sz26 by26 ze26 el26 st26 ag27 sz27 by27 ze27 of27_0 of27_1 of27_2 of27_3 of27_4 of27_5 pl27 ag28 sz28 by28 ze28 of28_0 of28_1 of28_2 of28_3 of28_4 of28_5 pl28 ag32 sz32 by32 ze32 el32 st32 ag33 sz33 by33 ze33 el33 st33 ag34 sz34 by34 ze34 el34 st34 ag35 sz35 by35 ze35 el35 st35 ag36 sz36 by36 ze36 el36 st36 ag37 sz37 by37 ze37 of37_0 of37_1 of37_2 of37_3 of37_4 of37_5 pl37 ag38 sz38 by38 ze38 of38_0 of38_1 of38_2 of38_3 of38_4 of38_5 pl38 ag43 sz43 by43 ze43 el43 st43 ag49 sz49 by49 ze49 el49 st49 ag61 sz61 by61 ze61 of61_0 of61_1 of61_2 pl61 eq61 ag62 sz62 by62 ze62 of62_0 of62_1 of62_2 pl62 eq62 ag75 sz75 by75 ze75 of75_0 of75_1 of75_2 of75_3 of75_4 of75_5 of75_6 of75_7 pl75 eq75 ag76 sz76 by76 ze76 of76_0 of76_1 of76_2 of76_3 of76_4 of76_5 of76_6 of76_7 pl76 eq76 ag79 sz79 by79 ze79 el79 st79 ag83 sz83 by83 ze83 of83_0 of83_1 of83_2 of83_3 of83_4 pl83 eq83 ag84 sz84 by84 ze84 of84_0 of84_1 of84_2 of84_3 of84_4 pl84 eq84 ag98 sz98 by98 ze98 of98_0 of98_1 pl98 eq98 ag99 sz99 by99 ze99 of99_0 of99_1 pl99 eq99 ag100 sz100 by100 ze100 of100_0 of100_1 pl100 eq100 ag102 sz102 by102 ze102 of102_0 of102_1 pl102 eq102 ag104 sz104 by104 ze104 of104_0 of104_1 pl104 eq104 ag106 sz106 by106 ze106 of106_0 of106_1 of106_2 pl106 eq106 ag107 sz107 by107 ze107 of107_0 of107_1 of107_2 of107_3 of107_4 pl107 eq107 ag108 sz108 by108 ze108 of108_0 of108_1 of108_2 of108_3 of108_4 pl108 eq108 ag110 sz110 by110 ze110 of110_0 of110_1 of110_2 of110_3 of110_4 pl110 eq110 ag112 sz112 by112 ze112 of112_0 of112_1 of112_2 of112_3 of112_4 of112_5 of112_6 of112_7 pl112 eq112 ag139 sz139 by139 of139_0 of139_1 of139_2 of139_3 pl139 ag140 sz140 by140 of140_0 of140_1 of140_2 of140_3 pl140 ag145 sz145 by145 ze145 el145 st145 ki145 us145 ag146 sz146 by146 ze146 el146 st146 ki146 us146 ag147 sz147 by147 ze147 el147 st147 ki147 us147 ag149 sz149 by149 ag150 sz150 by150 ze150 el150 st150 ki150 us150 ag151 sz151 by151 ze151 el151 st151 ki151 us151 ag152 sz152 by152 of152_0 of152_1 of152_2 of152_3 of152_4 of152_5 of152_6 of152_7 of152_8 of152_9 of152_10 pl152 ag153 sz153 by153 of153_0 of153_1 of153_2 of153_3 of153_4 of153_5 of153_6 of153_7 of153_8 of153_9 of153_10 pl153
end Go.Proofs.Ytedkpjaojdkpcaa
