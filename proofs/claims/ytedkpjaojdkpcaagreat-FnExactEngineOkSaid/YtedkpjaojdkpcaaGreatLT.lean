/- What the program says of its types. Conditions: none; printed by a program, checked by Lean. -/
import Derived.Test.YtedkpjaojdkpcaaGreatL2
import Derived.Test.YtedkpjaojdkpcaaGreatProg
namespace Go.Proofs.YtedkpjaojdkpcaaGreat
open Go.BL
theorem ag2 : aggA Tryz.prog 2 = some false := by kernel_rfl
theorem sz2 : sizeA Tryz.prog 2 = some 1 := by kernel_rfl
theorem by2 : bytesA Tryz.prog 2 = some 8 := by kernel_rfl
theorem ze2 : zeroA Tryz.prog 2 = some [.c (.int .i64 0)] := by kernel_rfl
theorem el2 : elemA Tryz.prog 2 = none := by kernel_rfl
theorem st2 : strA Tryz.prog 2 = false := by kernel_rfl
theorem ki2 : kindA Tryz.prog 2 = some .i64 := by kernel_rfl
theorem us2 : (Tryz.prog.underlying 2).isSome = true := by kernel_rfl
theorem ag3 : aggA Tryz.prog 3 = some false := by kernel_rfl
theorem sz3 : sizeA Tryz.prog 3 = some 1 := by kernel_rfl
theorem by3 : bytesA Tryz.prog 3 = some 8 := by kernel_rfl
theorem ze3 : zeroA Tryz.prog 3 = some [.c (.int .i64 0)] := by kernel_rfl
theorem el3 : elemA Tryz.prog 3 = none := by kernel_rfl
theorem st3 : strA Tryz.prog 3 = false := by kernel_rfl
theorem ki3 : kindA Tryz.prog 3 = some .i64 := by kernel_rfl
theorem us3 : (Tryz.prog.underlying 3).isSome = true := by kernel_rfl
theorem ag4 : aggA Tryz.prog 4 = some false := by kernel_rfl
theorem sz4 : sizeA Tryz.prog 4 = some 1 := by kernel_rfl
theorem by4 : bytesA Tryz.prog 4 = some 1 := by kernel_rfl
theorem ze4 : zeroA Tryz.prog 4 = some [.c (.bool false)] := by kernel_rfl
theorem bo4 : boolA Tryz.prog 4 = true := by kernel_rfl
theorem ag5 : aggA Tryz.prog 5 = some false := by kernel_rfl
theorem sz5 : sizeA Tryz.prog 5 = some 1 := by kernel_rfl
theorem by5 : bytesA Tryz.prog 5 = some 1 := by kernel_rfl
theorem ze5 : zeroA Tryz.prog 5 = some [.c (.int .u8 0)] := by kernel_rfl
theorem el5 : elemA Tryz.prog 5 = none := by kernel_rfl
theorem st5 : strA Tryz.prog 5 = false := by kernel_rfl
theorem ki5 : kindA Tryz.prog 5 = some .u8 := by kernel_rfl
theorem us5 : (Tryz.prog.underlying 5).isSome = true := by kernel_rfl
theorem ag6 : aggA Tryz.prog 6 = some false := by kernel_rfl
theorem sz6 : sizeA Tryz.prog 6 = some 1 := by kernel_rfl
theorem by6 : bytesA Tryz.prog 6 = some 1 := by kernel_rfl
theorem ze6 : zeroA Tryz.prog 6 = some [.c (.int .u8 0)] := by kernel_rfl
theorem el6 : elemA Tryz.prog 6 = none := by kernel_rfl
theorem st6 : strA Tryz.prog 6 = false := by kernel_rfl
theorem ki6 : kindA Tryz.prog 6 = some .u8 := by kernel_rfl
theorem us6 : (Tryz.prog.underlying 6).isSome = true := by kernel_rfl
theorem ag7 : aggA Tryz.prog 7 = some true := by kernel_rfl
theorem sz7 : sizeA Tryz.prog 7 = some 4 := by kernel_rfl
theorem by7 : bytesA Tryz.prog 7 = some 24 := by kernel_rfl
theorem ze7 : zeroA Tryz.prog 7 = some [.c (.int .i64 0), .c (.int .i64 0), .c (.bool false), .c (.int .u8 0)] := by kernel_rfl
theorem of7_0 : offA Tryz.prog 7 0 = some (0, 2) := by kernel_rfl
theorem of7_1 : offA Tryz.prog 7 1 = some (1, 3) := by kernel_rfl
theorem of7_2 : offA Tryz.prog 7 2 = some (2, 4) := by kernel_rfl
theorem of7_3 : offA Tryz.prog 7 3 = some (3, 6) := by kernel_rfl
theorem pl7 : placesA Tryz.prog 7 = some [(0, 1), (1, 1), (2, 1), (3, 1)] := by kernel_rfl
theorem eq7 : eqTA Tryz.prog 7 = some [(2, 0), (3, 1), (4, 2), (6, 3)] := by kernel_rfl
theorem ag8 : aggA Tryz.prog 8 = some true := by kernel_rfl
theorem sz8 : sizeA Tryz.prog 8 = some 4 := by kernel_rfl
theorem by8 : bytesA Tryz.prog 8 = some 24 := by kernel_rfl
theorem ze8 : zeroA Tryz.prog 8 = some [.c (.int .i64 0), .c (.int .i64 0), .c (.bool false), .c (.int .u8 0)] := by kernel_rfl
theorem of8_0 : offA Tryz.prog 8 0 = some (0, 2) := by kernel_rfl
theorem of8_1 : offA Tryz.prog 8 1 = some (1, 3) := by kernel_rfl
theorem of8_2 : offA Tryz.prog 8 2 = some (2, 4) := by kernel_rfl
theorem of8_3 : offA Tryz.prog 8 3 = some (3, 6) := by kernel_rfl
theorem pl8 : placesA Tryz.prog 8 = some [(0, 1), (1, 1), (2, 1), (3, 1)] := by kernel_rfl
theorem eq8 : eqTA Tryz.prog 8 = some [(2, 0), (3, 1), (4, 2), (6, 3)] := by kernel_rfl
theorem ag9 : aggA Tryz.prog 9 = some false := by kernel_rfl
theorem sz9 : sizeA Tryz.prog 9 = some 1 := by kernel_rfl
theorem by9 : bytesA Tryz.prog 9 = some 16 := by kernel_rfl
theorem ze9 : zeroA Tryz.prog 9 = some [.c (.string ⟨#[]⟩)] := by kernel_rfl
theorem el9 : elemA Tryz.prog 9 = none := by kernel_rfl
theorem st9 : strA Tryz.prog 9 = true := by kernel_rfl
theorem ag10 : aggA Tryz.prog 10 = some false := by kernel_rfl
theorem sz10 : sizeA Tryz.prog 10 = some 1 := by kernel_rfl
theorem by10 : bytesA Tryz.prog 10 = some 16 := by kernel_rfl
theorem ze10 : zeroA Tryz.prog 10 = some [.c (.string ⟨#[]⟩)] := by kernel_rfl
theorem el10 : elemA Tryz.prog 10 = none := by kernel_rfl
theorem st10 : strA Tryz.prog 10 = true := by kernel_rfl
theorem ag11 : aggA Tryz.prog 11 = some false := by kernel_rfl
theorem sz11 : sizeA Tryz.prog 11 = some 1 := by kernel_rfl
theorem by11 : bytesA Tryz.prog 11 = some 16 := by kernel_rfl
theorem ze11 : zeroA Tryz.prog 11 = some [.c (.string ⟨#[]⟩)] := by kernel_rfl
theorem el11 : elemA Tryz.prog 11 = none := by kernel_rfl
theorem st11 : strA Tryz.prog 11 = true := by kernel_rfl
theorem ag12 : aggA Tryz.prog 12 = some false := by kernel_rfl
theorem sz12 : sizeA Tryz.prog 12 = some 1 := by kernel_rfl
theorem by12 : bytesA Tryz.prog 12 = some 8 := by kernel_rfl
theorem ze12 : zeroA Tryz.prog 12 = some [.c (.int .u64 0)] := by kernel_rfl
theorem el12 : elemA Tryz.prog 12 = none := by kernel_rfl
theorem st12 : strA Tryz.prog 12 = false := by kernel_rfl
theorem ki12 : kindA Tryz.prog 12 = some .u64 := by kernel_rfl
theorem us12 : (Tryz.prog.underlying 12).isSome = true := by kernel_rfl
theorem ag13 : aggA Tryz.prog 13 = some true := by kernel_rfl
theorem sz13 : sizeA Tryz.prog 13 = some 2 := by kernel_rfl
theorem by13 : bytesA Tryz.prog 13 = some 24 := by kernel_rfl
theorem ze13 : zeroA Tryz.prog 13 = some [.c (.string ⟨#[]⟩), .c (.int .u64 0)] := by kernel_rfl
theorem of13_0 : offA Tryz.prog 13 0 = some (0, 9) := by kernel_rfl
theorem of13_1 : offA Tryz.prog 13 1 = some (1, 12) := by kernel_rfl
theorem pl13 : placesA Tryz.prog 13 = some [(0, 1), (1, 1)] := by kernel_rfl
theorem ag14 : aggA Tryz.prog 14 = some true := by kernel_rfl
theorem sz14 : sizeA Tryz.prog 14 = some 2 := by kernel_rfl
theorem by14 : bytesA Tryz.prog 14 = some 24 := by kernel_rfl
theorem ze14 : zeroA Tryz.prog 14 = some [.c (.string ⟨#[]⟩), .c (.int .u64 0)] := by kernel_rfl
theorem of14_0 : offA Tryz.prog 14 0 = some (0, 9) := by kernel_rfl
theorem of14_1 : offA Tryz.prog 14 1 = some (1, 12) := by kernel_rfl
theorem pl14 : placesA Tryz.prog 14 = some [(0, 1), (1, 1)] := by kernel_rfl
theorem ag15 : aggA Tryz.prog 15 = some false := by kernel_rfl
theorem sz15 : sizeA Tryz.prog 15 = some 1 := by kernel_rfl
theorem by15 : bytesA Tryz.prog 15 = some 8 := by kernel_rfl
theorem ag16 : aggA Tryz.prog 16 = some false := by kernel_rfl
theorem sz16 : sizeA Tryz.prog 16 = some 1 := by kernel_rfl
theorem by16 : bytesA Tryz.prog 16 = some 8 := by kernel_rfl
theorem ag17 : aggA Tryz.prog 17 = some false := by kernel_rfl
theorem sz17 : sizeA Tryz.prog 17 = some 1 := by kernel_rfl
theorem by17 : bytesA Tryz.prog 17 = some 8 := by kernel_rfl
theorem ag18 : aggA Tryz.prog 18 = some true := by kernel_rfl
theorem sz18 : sizeA Tryz.prog 18 = some 1 := by kernel_rfl
theorem by18 : bytesA Tryz.prog 18 = some 8 := by kernel_rfl
theorem of18_0 : offA Tryz.prog 18 0 = some (0, 17) := by kernel_rfl
theorem pl18 : placesA Tryz.prog 18 = some [(0, 1)] := by kernel_rfl
theorem ag19 : aggA Tryz.prog 19 = some true := by kernel_rfl
theorem sz19 : sizeA Tryz.prog 19 = some 1 := by kernel_rfl
theorem by19 : bytesA Tryz.prog 19 = some 8 := by kernel_rfl
theorem of19_0 : offA Tryz.prog 19 0 = some (0, 17) := by kernel_rfl
theorem pl19 : placesA Tryz.prog 19 = some [(0, 1)] := by kernel_rfl
theorem ag21 : aggA Tryz.prog 21 = some false := by kernel_rfl
theorem sz21 : sizeA Tryz.prog 21 = some 1 := by kernel_rfl
theorem by21 : bytesA Tryz.prog 21 = some 4 := by kernel_rfl
theorem ze21 : zeroA Tryz.prog 21 = some [.c (.int .i32 0)] := by kernel_rfl
theorem el21 : elemA Tryz.prog 21 = none := by kernel_rfl
theorem st21 : strA Tryz.prog 21 = false := by kernel_rfl
theorem ki21 : kindA Tryz.prog 21 = some .i32 := by kernel_rfl
theorem us21 : (Tryz.prog.underlying 21).isSome = true := by kernel_rfl
theorem ag22 : aggA Tryz.prog 22 = some false := by kernel_rfl
theorem sz22 : sizeA Tryz.prog 22 = some 1 := by kernel_rfl
theorem by22 : bytesA Tryz.prog 22 = some 24 := by kernel_rfl
theorem ze22 : zeroA Tryz.prog 22 = some [.nl] := by kernel_rfl
theorem el22 : elemA Tryz.prog 22 = some 124 := by kernel_rfl
theorem st22 : strA Tryz.prog 22 = false := by kernel_rfl
theorem ag23 : aggA Tryz.prog 23 = some false := by kernel_rfl
theorem sz23 : sizeA Tryz.prog 23 = some 1 := by kernel_rfl
theorem by23 : bytesA Tryz.prog 23 = some 24 := by kernel_rfl
theorem ze23 : zeroA Tryz.prog 23 = some [.nl] := by kernel_rfl
theorem el23 : elemA Tryz.prog 23 = some 126 := by kernel_rfl
theorem st23 : strA Tryz.prog 23 = false := by kernel_rfl
theorem ag24 : aggA Tryz.prog 24 = some false := by kernel_rfl
theorem sz24 : sizeA Tryz.prog 24 = some 1 := by kernel_rfl
theorem by24 : bytesA Tryz.prog 24 = some 24 := by kernel_rfl
theorem ze24 : zeroA Tryz.prog 24 = some [.nl] := by kernel_rfl
theorem el24 : elemA Tryz.prog 24 = some 128 := by kernel_rfl
theorem st24 : strA Tryz.prog 24 = false := by kernel_rfl
theorem ag25 : aggA Tryz.prog 25 = some false := by kernel_rfl
theorem sz25 : sizeA Tryz.prog 25 = some 1 := by kernel_rfl
theorem by25 : bytesA Tryz.prog 25 = some 24 := by kernel_rfl
theorem ze25 : zeroA Tryz.prog 25 = some [.nl] := by kernel_rfl
theorem el25 : elemA Tryz.prog 25 = some 130 := by kernel_rfl
theorem st25 : strA Tryz.prog 25 = false := by kernel_rfl
theorem ag26 : aggA Tryz.prog 26 = some false := by kernel_rfl
theorem sz26 : sizeA Tryz.prog 26 = some 1 := by kernel_rfl
theorem by26 : bytesA Tryz.prog 26 = some 24 := by kernel_rfl
theorem ze26 : zeroA Tryz.prog 26 = some [.nl] := by kernel_rfl
theorem el26 : elemA Tryz.prog 26 = some 132 := by kernel_rfl
theorem st26 : strA Tryz.prog 26 = false := by kernel_rfl
theorem ag27 : aggA Tryz.prog 27 = some true := by kernel_rfl
theorem sz27 : sizeA Tryz.prog 27 = some 6 := by kernel_rfl
theorem by27 : bytesA Tryz.prog 27 = some 128 := by kernel_rfl
theorem ze27 : zeroA Tryz.prog 27 = some [.nl, .nl, .nl, .nl, .nl, .c (.int .i64 0)] := by kernel_rfl
theorem of27_0 : offA Tryz.prog 27 0 = some (0, 22) := by kernel_rfl
theorem of27_1 : offA Tryz.prog 27 1 = some (1, 23) := by kernel_rfl
theorem of27_2 : offA Tryz.prog 27 2 = some (2, 24) := by kernel_rfl
theorem of27_3 : offA Tryz.prog 27 3 = some (3, 25) := by kernel_rfl
theorem of27_4 : offA Tryz.prog 27 4 = some (4, 26) := by kernel_rfl
theorem of27_5 : offA Tryz.prog 27 5 = some (5, 3) := by kernel_rfl
theorem pl27 : placesA Tryz.prog 27 = some [(0, 1), (1, 1), (2, 1), (3, 1), (4, 1), (5, 1)] := by kernel_rfl
theorem ag28 : aggA Tryz.prog 28 = some true := by kernel_rfl
theorem sz28 : sizeA Tryz.prog 28 = some 6 := by kernel_rfl
theorem by28 : bytesA Tryz.prog 28 = some 128 := by kernel_rfl
theorem ze28 : zeroA Tryz.prog 28 = some [.nl, .nl, .nl, .nl, .nl, .c (.int .i64 0)] := by kernel_rfl
theorem of28_0 : offA Tryz.prog 28 0 = some (0, 22) := by kernel_rfl
theorem of28_1 : offA Tryz.prog 28 1 = some (1, 23) := by kernel_rfl
theorem of28_2 : offA Tryz.prog 28 2 = some (2, 24) := by kernel_rfl
theorem of28_3 : offA Tryz.prog 28 3 = some (3, 25) := by kernel_rfl
theorem of28_4 : offA Tryz.prog 28 4 = some (4, 26) := by kernel_rfl
theorem of28_5 : offA Tryz.prog 28 5 = some (5, 3) := by kernel_rfl
theorem pl28 : placesA Tryz.prog 28 = some [(0, 1), (1, 1), (2, 1), (3, 1), (4, 1), (5, 1)] := by kernel_rfl
theorem ag29 : aggA Tryz.prog 29 = some true := by kernel_rfl
theorem sz29 : sizeA Tryz.prog 29 = some 7 := by kernel_rfl
theorem by29 : bytesA Tryz.prog 29 = some 136 := by kernel_rfl
theorem ze29 : zeroA Tryz.prog 29 = some [.c (.int .i64 0), .nl, .nl, .nl, .nl, .nl, .c (.int .i64 0)] := by kernel_rfl
theorem of29_0 : offA Tryz.prog 29 0 = some (0, 3) := by kernel_rfl
theorem of29_1 : offA Tryz.prog 29 1 = some (1, 28) := by kernel_rfl
theorem pl29 : placesA Tryz.prog 29 = some [(0, 1), (1, 6)] := by kernel_rfl
theorem ag30 : aggA Tryz.prog 30 = some true := by kernel_rfl
theorem sz30 : sizeA Tryz.prog 30 = some 7 := by kernel_rfl
theorem by30 : bytesA Tryz.prog 30 = some 136 := by kernel_rfl
theorem ze30 : zeroA Tryz.prog 30 = some [.c (.int .i64 0), .nl, .nl, .nl, .nl, .nl, .c (.int .i64 0)] := by kernel_rfl
theorem of30_0 : offA Tryz.prog 30 0 = some (0, 3) := by kernel_rfl
theorem of30_1 : offA Tryz.prog 30 1 = some (1, 28) := by kernel_rfl
theorem pl30 : placesA Tryz.prog 30 = some [(0, 1), (1, 6)] := by kernel_rfl
theorem ag34 : aggA Tryz.prog 34 = some false := by kernel_rfl
theorem sz34 : sizeA Tryz.prog 34 = some 1 := by kernel_rfl
theorem by34 : bytesA Tryz.prog 34 = some 24 := by kernel_rfl
theorem ze34 : zeroA Tryz.prog 34 = some [.nl] := by kernel_rfl
theorem el34 : elemA Tryz.prog 34 = some 96 := by kernel_rfl
theorem st34 : strA Tryz.prog 34 = false := by kernel_rfl
theorem ag35 : aggA Tryz.prog 35 = some false := by kernel_rfl
theorem sz35 : sizeA Tryz.prog 35 = some 1 := by kernel_rfl
theorem by35 : bytesA Tryz.prog 35 = some 24 := by kernel_rfl
theorem ze35 : zeroA Tryz.prog 35 = some [.nl] := by kernel_rfl
theorem el35 : elemA Tryz.prog 35 = some 97 := by kernel_rfl
theorem st35 : strA Tryz.prog 35 = false := by kernel_rfl
theorem ag36 : aggA Tryz.prog 36 = some false := by kernel_rfl
theorem sz36 : sizeA Tryz.prog 36 = some 1 := by kernel_rfl
theorem by36 : bytesA Tryz.prog 36 = some 24 := by kernel_rfl
theorem ze36 : zeroA Tryz.prog 36 = some [.nl] := by kernel_rfl
theorem el36 : elemA Tryz.prog 36 = some 99 := by kernel_rfl
theorem st36 : strA Tryz.prog 36 = false := by kernel_rfl
theorem ag37 : aggA Tryz.prog 37 = some false := by kernel_rfl
theorem sz37 : sizeA Tryz.prog 37 = some 1 := by kernel_rfl
theorem by37 : bytesA Tryz.prog 37 = some 24 := by kernel_rfl
theorem ze37 : zeroA Tryz.prog 37 = some [.nl] := by kernel_rfl
theorem el37 : elemA Tryz.prog 37 = some 101 := by kernel_rfl
theorem st37 : strA Tryz.prog 37 = false := by kernel_rfl
theorem ag38 : aggA Tryz.prog 38 = some false := by kernel_rfl
theorem sz38 : sizeA Tryz.prog 38 = some 1 := by kernel_rfl
theorem by38 : bytesA Tryz.prog 38 = some 24 := by kernel_rfl
theorem ze38 : zeroA Tryz.prog 38 = some [.nl] := by kernel_rfl
theorem el38 : elemA Tryz.prog 38 = some 103 := by kernel_rfl
theorem st38 : strA Tryz.prog 38 = false := by kernel_rfl
theorem ag39 : aggA Tryz.prog 39 = some true := by kernel_rfl
theorem sz39 : sizeA Tryz.prog 39 = some 6 := by kernel_rfl
theorem by39 : bytesA Tryz.prog 39 = some 128 := by kernel_rfl
theorem ze39 : zeroA Tryz.prog 39 = some [.nl, .nl, .nl, .nl, .nl, .c (.int .i64 0)] := by kernel_rfl
theorem of39_0 : offA Tryz.prog 39 0 = some (0, 34) := by kernel_rfl
theorem of39_1 : offA Tryz.prog 39 1 = some (1, 35) := by kernel_rfl
theorem of39_2 : offA Tryz.prog 39 2 = some (2, 36) := by kernel_rfl
theorem of39_3 : offA Tryz.prog 39 3 = some (3, 37) := by kernel_rfl
theorem of39_4 : offA Tryz.prog 39 4 = some (4, 38) := by kernel_rfl
theorem of39_5 : offA Tryz.prog 39 5 = some (5, 3) := by kernel_rfl
theorem pl39 : placesA Tryz.prog 39 = some [(0, 1), (1, 1), (2, 1), (3, 1), (4, 1), (5, 1)] := by kernel_rfl
theorem ag40 : aggA Tryz.prog 40 = some true := by kernel_rfl
theorem sz40 : sizeA Tryz.prog 40 = some 6 := by kernel_rfl
theorem by40 : bytesA Tryz.prog 40 = some 128 := by kernel_rfl
theorem ze40 : zeroA Tryz.prog 40 = some [.nl, .nl, .nl, .nl, .nl, .c (.int .i64 0)] := by kernel_rfl
theorem of40_0 : offA Tryz.prog 40 0 = some (0, 34) := by kernel_rfl
theorem of40_1 : offA Tryz.prog 40 1 = some (1, 35) := by kernel_rfl
theorem of40_2 : offA Tryz.prog 40 2 = some (2, 36) := by kernel_rfl
theorem of40_3 : offA Tryz.prog 40 3 = some (3, 37) := by kernel_rfl
theorem of40_4 : offA Tryz.prog 40 4 = some (4, 38) := by kernel_rfl
theorem of40_5 : offA Tryz.prog 40 5 = some (5, 3) := by kernel_rfl
theorem pl40 : placesA Tryz.prog 40 = some [(0, 1), (1, 1), (2, 1), (3, 1), (4, 1), (5, 1)] := by kernel_rfl
theorem ag41 : aggA Tryz.prog 41 = some true := by kernel_rfl
theorem sz41 : sizeA Tryz.prog 41 = some 7 := by kernel_rfl
theorem by41 : bytesA Tryz.prog 41 = some 136 := by kernel_rfl
theorem ze41 : zeroA Tryz.prog 41 = some [.c (.int .i64 0), .nl, .nl, .nl, .nl, .nl, .c (.int .i64 0)] := by kernel_rfl
theorem of41_0 : offA Tryz.prog 41 0 = some (0, 3) := by kernel_rfl
theorem of41_1 : offA Tryz.prog 41 1 = some (1, 40) := by kernel_rfl
theorem pl41 : placesA Tryz.prog 41 = some [(0, 1), (1, 6)] := by kernel_rfl
theorem ag42 : aggA Tryz.prog 42 = some true := by kernel_rfl
theorem sz42 : sizeA Tryz.prog 42 = some 7 := by kernel_rfl
theorem by42 : bytesA Tryz.prog 42 = some 136 := by kernel_rfl
theorem ze42 : zeroA Tryz.prog 42 = some [.c (.int .i64 0), .nl, .nl, .nl, .nl, .nl, .c (.int .i64 0)] := by kernel_rfl
theorem of42_0 : offA Tryz.prog 42 0 = some (0, 3) := by kernel_rfl
theorem of42_1 : offA Tryz.prog 42 1 = some (1, 40) := by kernel_rfl
theorem pl42 : placesA Tryz.prog 42 = some [(0, 1), (1, 6)] := by kernel_rfl
theorem ag46 : aggA Tryz.prog 46 = some false := by kernel_rfl
theorem sz46 : sizeA Tryz.prog 46 = some 1 := by kernel_rfl
theorem by46 : bytesA Tryz.prog 46 = some 24 := by kernel_rfl
theorem ze46 : zeroA Tryz.prog 46 = some [.nl] := by kernel_rfl
theorem el46 : elemA Tryz.prog 46 = some 142 := by kernel_rfl
theorem st46 : strA Tryz.prog 46 = false := by kernel_rfl
theorem ag47 : aggA Tryz.prog 47 = some true := by kernel_rfl
theorem sz47 : sizeA Tryz.prog 47 = some 2 := by kernel_rfl
theorem by47 : bytesA Tryz.prog 47 = some 32 := by kernel_rfl
theorem ze47 : zeroA Tryz.prog 47 = some [.c (.int .i64 0), .nl] := by kernel_rfl
theorem of47_0 : offA Tryz.prog 47 0 = some (0, 3) := by kernel_rfl
theorem of47_1 : offA Tryz.prog 47 1 = some (1, 46) := by kernel_rfl
theorem pl47 : placesA Tryz.prog 47 = some [(0, 1), (1, 1)] := by kernel_rfl
theorem ag48 : aggA Tryz.prog 48 = some true := by kernel_rfl
theorem sz48 : sizeA Tryz.prog 48 = some 2 := by kernel_rfl
theorem by48 : bytesA Tryz.prog 48 = some 32 := by kernel_rfl
theorem ze48 : zeroA Tryz.prog 48 = some [.c (.int .i64 0), .nl] := by kernel_rfl
theorem of48_0 : offA Tryz.prog 48 0 = some (0, 3) := by kernel_rfl
theorem of48_1 : offA Tryz.prog 48 1 = some (1, 46) := by kernel_rfl
theorem pl48 : placesA Tryz.prog 48 = some [(0, 1), (1, 1)] := by kernel_rfl
theorem ag49 : aggA Tryz.prog 49 = some true := by kernel_rfl
theorem sz49 : sizeA Tryz.prog 49 = some 11 := by kernel_rfl
theorem by49 : bytesA Tryz.prog 49 = some 184 := by kernel_rfl
theorem ze49 : zeroA Tryz.prog 49 = some [.c (.bool false), .c (.int .i64 0), .nl, .nl, .nl, .nl, .nl, .nl, .c (.int .i64 0), .c (.int .i64 0), .c (.int .i64 0)] := by kernel_rfl
theorem of49_0 : offA Tryz.prog 49 0 = some (0, 4) := by kernel_rfl
theorem of49_1 : offA Tryz.prog 49 1 = some (1, 48) := by kernel_rfl
theorem of49_2 : offA Tryz.prog 49 2 = some (3, 28) := by kernel_rfl
theorem of49_3 : offA Tryz.prog 49 3 = some (9, 3) := by kernel_rfl
theorem of49_4 : offA Tryz.prog 49 4 = some (10, 3) := by kernel_rfl
theorem pl49 : placesA Tryz.prog 49 = some [(0, 1), (1, 2), (3, 6), (9, 1), (10, 1)] := by kernel_rfl
theorem ag50 : aggA Tryz.prog 50 = some true := by kernel_rfl
theorem sz50 : sizeA Tryz.prog 50 = some 11 := by kernel_rfl
theorem by50 : bytesA Tryz.prog 50 = some 184 := by kernel_rfl
theorem ze50 : zeroA Tryz.prog 50 = some [.c (.bool false), .c (.int .i64 0), .nl, .nl, .nl, .nl, .nl, .nl, .c (.int .i64 0), .c (.int .i64 0), .c (.int .i64 0)] := by kernel_rfl
theorem of50_0 : offA Tryz.prog 50 0 = some (0, 4) := by kernel_rfl
theorem of50_1 : offA Tryz.prog 50 1 = some (1, 48) := by kernel_rfl
theorem of50_2 : offA Tryz.prog 50 2 = some (3, 28) := by kernel_rfl
theorem of50_3 : offA Tryz.prog 50 3 = some (9, 3) := by kernel_rfl
theorem of50_4 : offA Tryz.prog 50 4 = some (10, 3) := by kernel_rfl
theorem pl50 : placesA Tryz.prog 50 = some [(0, 1), (1, 2), (3, 6), (9, 1), (10, 1)] := by kernel_rfl
theorem ag53 : aggA Tryz.prog 53 = some false := by kernel_rfl
theorem sz53 : sizeA Tryz.prog 53 = some 1 := by kernel_rfl
theorem by53 : bytesA Tryz.prog 53 = some 24 := by kernel_rfl
theorem ze53 : zeroA Tryz.prog 53 = some [.nl] := by kernel_rfl
theorem el53 : elemA Tryz.prog 53 = some 73 := by kernel_rfl
theorem st53 : strA Tryz.prog 53 = false := by kernel_rfl
theorem ag54 : aggA Tryz.prog 54 = some true := by kernel_rfl
theorem sz54 : sizeA Tryz.prog 54 = some 2 := by kernel_rfl
theorem by54 : bytesA Tryz.prog 54 = some 32 := by kernel_rfl
theorem ze54 : zeroA Tryz.prog 54 = some [.c (.int .i64 0), .nl] := by kernel_rfl
theorem of54_0 : offA Tryz.prog 54 0 = some (0, 3) := by kernel_rfl
theorem of54_1 : offA Tryz.prog 54 1 = some (1, 53) := by kernel_rfl
theorem pl54 : placesA Tryz.prog 54 = some [(0, 1), (1, 1)] := by kernel_rfl
theorem ag55 : aggA Tryz.prog 55 = some true := by kernel_rfl
theorem sz55 : sizeA Tryz.prog 55 = some 2 := by kernel_rfl
theorem by55 : bytesA Tryz.prog 55 = some 32 := by kernel_rfl
theorem ze55 : zeroA Tryz.prog 55 = some [.c (.int .i64 0), .nl] := by kernel_rfl
theorem of55_0 : offA Tryz.prog 55 0 = some (0, 3) := by kernel_rfl
theorem of55_1 : offA Tryz.prog 55 1 = some (1, 53) := by kernel_rfl
theorem pl55 : placesA Tryz.prog 55 = some [(0, 1), (1, 1)] := by kernel_rfl
theorem ag56 : aggA Tryz.prog 56 = some true := by kernel_rfl
theorem sz56 : sizeA Tryz.prog 56 = some 11 := by kernel_rfl
theorem by56 : bytesA Tryz.prog 56 = some 184 := by kernel_rfl
theorem ze56 : zeroA Tryz.prog 56 = some [.c (.bool false), .c (.int .i64 0), .nl, .nl, .nl, .nl, .nl, .nl, .c (.int .i64 0), .c (.int .i64 0), .c (.int .i64 0)] := by kernel_rfl
theorem of56_0 : offA Tryz.prog 56 0 = some (0, 4) := by kernel_rfl
theorem of56_1 : offA Tryz.prog 56 1 = some (1, 55) := by kernel_rfl
theorem of56_2 : offA Tryz.prog 56 2 = some (3, 40) := by kernel_rfl
theorem of56_3 : offA Tryz.prog 56 3 = some (9, 3) := by kernel_rfl
theorem of56_4 : offA Tryz.prog 56 4 = some (10, 3) := by kernel_rfl
theorem pl56 : placesA Tryz.prog 56 = some [(0, 1), (1, 2), (3, 6), (9, 1), (10, 1)] := by kernel_rfl
theorem ag57 : aggA Tryz.prog 57 = some true := by kernel_rfl
theorem sz57 : sizeA Tryz.prog 57 = some 11 := by kernel_rfl
theorem by57 : bytesA Tryz.prog 57 = some 184 := by kernel_rfl
theorem ze57 : zeroA Tryz.prog 57 = some [.c (.bool false), .c (.int .i64 0), .nl, .nl, .nl, .nl, .nl, .nl, .c (.int .i64 0), .c (.int .i64 0), .c (.int .i64 0)] := by kernel_rfl
theorem of57_0 : offA Tryz.prog 57 0 = some (0, 4) := by kernel_rfl
theorem of57_1 : offA Tryz.prog 57 1 = some (1, 55) := by kernel_rfl
theorem of57_2 : offA Tryz.prog 57 2 = some (3, 40) := by kernel_rfl
theorem of57_3 : offA Tryz.prog 57 3 = some (9, 3) := by kernel_rfl
theorem of57_4 : offA Tryz.prog 57 4 = some (10, 3) := by kernel_rfl
theorem pl57 : placesA Tryz.prog 57 = some [(0, 1), (1, 2), (3, 6), (9, 1), (10, 1)] := by kernel_rfl
theorem ag62 : aggA Tryz.prog 62 = some false := by kernel_rfl
theorem sz62 : sizeA Tryz.prog 62 = some 1 := by kernel_rfl
theorem by62 : bytesA Tryz.prog 62 = some 24 := by kernel_rfl
theorem ze62 : zeroA Tryz.prog 62 = some [.nl] := by kernel_rfl
theorem el62 : elemA Tryz.prog 62 = some 5 := by kernel_rfl
theorem st62 : strA Tryz.prog 62 = false := by kernel_rfl
theorem ag72 : aggA Tryz.prog 72 = some true := by kernel_rfl
theorem sz72 : sizeA Tryz.prog 72 = some 3 := by kernel_rfl
theorem by72 : bytesA Tryz.prog 72 = some 40 := by kernel_rfl
theorem ze72 : zeroA Tryz.prog 72 = some [.c (.int .i64 0), .c (.string ⟨#[]⟩), .c (.string ⟨#[]⟩)] := by kernel_rfl
theorem of72_0 : offA Tryz.prog 72 0 = some (0, 3) := by kernel_rfl
theorem of72_1 : offA Tryz.prog 72 1 = some (1, 9) := by kernel_rfl
theorem of72_2 : offA Tryz.prog 72 2 = some (2, 9) := by kernel_rfl
theorem pl72 : placesA Tryz.prog 72 = some [(0, 1), (1, 1), (2, 1)] := by kernel_rfl
theorem eq72 : eqTA Tryz.prog 72 = some [(3, 0), (9, 1), (9, 2)] := by kernel_rfl
theorem ag73 : aggA Tryz.prog 73 = some true := by kernel_rfl
theorem sz73 : sizeA Tryz.prog 73 = some 3 := by kernel_rfl
theorem by73 : bytesA Tryz.prog 73 = some 40 := by kernel_rfl
theorem ze73 : zeroA Tryz.prog 73 = some [.c (.int .i64 0), .c (.string ⟨#[]⟩), .c (.string ⟨#[]⟩)] := by kernel_rfl
theorem of73_0 : offA Tryz.prog 73 0 = some (0, 3) := by kernel_rfl
theorem of73_1 : offA Tryz.prog 73 1 = some (1, 9) := by kernel_rfl
theorem of73_2 : offA Tryz.prog 73 2 = some (2, 9) := by kernel_rfl
theorem pl73 : placesA Tryz.prog 73 = some [(0, 1), (1, 1), (2, 1)] := by kernel_rfl
theorem eq73 : eqTA Tryz.prog 73 = some [(3, 0), (9, 1), (9, 2)] := by kernel_rfl
theorem ag86 : aggA Tryz.prog 86 = some false := by kernel_rfl
theorem sz86 : sizeA Tryz.prog 86 = some 1 := by kernel_rfl
theorem by86 : bytesA Tryz.prog 86 = some 24 := by kernel_rfl
theorem ze86 : zeroA Tryz.prog 86 = some [.nl] := by kernel_rfl
theorem el86 : elemA Tryz.prog 86 = some 3 := by kernel_rfl
theorem st86 : strA Tryz.prog 86 = false := by kernel_rfl
theorem ag89 : aggA Tryz.prog 89 = some false := by kernel_rfl
theorem sz89 : sizeA Tryz.prog 89 = some 1 := by kernel_rfl
theorem by89 : bytesA Tryz.prog 89 = some 8 := by kernel_rfl
theorem ze89 : zeroA Tryz.prog 89 = some [.c (.int .u64 0)] := by kernel_rfl
theorem el89 : elemA Tryz.prog 89 = none := by kernel_rfl
theorem st89 : strA Tryz.prog 89 = false := by kernel_rfl
theorem ki89 : kindA Tryz.prog 89 = some .u64 := by kernel_rfl
theorem us89 : (Tryz.prog.underlying 89).isSome = true := by kernel_rfl
theorem ag95 : aggA Tryz.prog 95 = some true := by kernel_rfl
theorem sz95 : sizeA Tryz.prog 95 = some 2 := by kernel_rfl
theorem by95 : bytesA Tryz.prog 95 = some 16 := by kernel_rfl
theorem ze95 : zeroA Tryz.prog 95 = some [.c (.int .i64 0), .c (.int .i64 0)] := by kernel_rfl
theorem of95_0 : offA Tryz.prog 95 0 = some (0, 3) := by kernel_rfl
theorem of95_1 : offA Tryz.prog 95 1 = some (1, 3) := by kernel_rfl
theorem pl95 : placesA Tryz.prog 95 = some [(0, 1), (1, 1)] := by kernel_rfl
theorem eq95 : eqTA Tryz.prog 95 = some [(3, 0), (3, 1)] := by kernel_rfl
theorem ag96 : aggA Tryz.prog 96 = some true := by kernel_rfl
theorem sz96 : sizeA Tryz.prog 96 = some 2 := by kernel_rfl
theorem by96 : bytesA Tryz.prog 96 = some 16 := by kernel_rfl
theorem ze96 : zeroA Tryz.prog 96 = some [.c (.int .i64 0), .c (.int .i64 0)] := by kernel_rfl
theorem of96_0 : offA Tryz.prog 96 0 = some (0, 3) := by kernel_rfl
theorem of96_1 : offA Tryz.prog 96 1 = some (1, 3) := by kernel_rfl
theorem pl96 : placesA Tryz.prog 96 = some [(0, 1), (1, 1)] := by kernel_rfl
theorem eq96 : eqTA Tryz.prog 96 = some [(3, 0), (3, 1)] := by kernel_rfl
theorem ag97 : aggA Tryz.prog 97 = some true := by kernel_rfl
theorem sz97 : sizeA Tryz.prog 97 = some 2 := by kernel_rfl
theorem by97 : bytesA Tryz.prog 97 = some 16 := by kernel_rfl
theorem ze97 : zeroA Tryz.prog 97 = some [.c (.int .i64 0), .c (.int .i64 0)] := by kernel_rfl
theorem of97_0 : offA Tryz.prog 97 0 = some (0, 3) := by kernel_rfl
theorem of97_1 : offA Tryz.prog 97 1 = some (1, 3) := by kernel_rfl
theorem pl97 : placesA Tryz.prog 97 = some [(0, 1), (1, 1)] := by kernel_rfl
theorem eq97 : eqTA Tryz.prog 97 = some [(3, 0), (3, 1)] := by kernel_rfl
theorem ag98 : aggA Tryz.prog 98 = some true := by kernel_rfl
theorem sz98 : sizeA Tryz.prog 98 = some 3 := by kernel_rfl
theorem by98 : bytesA Tryz.prog 98 = some 24 := by kernel_rfl
theorem ze98 : zeroA Tryz.prog 98 = some [.c (.int .i64 0), .c (.int .i64 0), .c (.int .i64 0)] := by kernel_rfl
theorem of98_0 : offA Tryz.prog 98 0 = some (0, 3) := by kernel_rfl
theorem of98_1 : offA Tryz.prog 98 1 = some (1, 3) := by kernel_rfl
theorem of98_2 : offA Tryz.prog 98 2 = some (2, 3) := by kernel_rfl
theorem pl98 : placesA Tryz.prog 98 = some [(0, 1), (1, 1), (2, 1)] := by kernel_rfl
theorem eq98 : eqTA Tryz.prog 98 = some [(3, 0), (3, 1), (3, 2)] := by kernel_rfl
theorem ag99 : aggA Tryz.prog 99 = some true := by kernel_rfl
theorem sz99 : sizeA Tryz.prog 99 = some 3 := by kernel_rfl
theorem by99 : bytesA Tryz.prog 99 = some 24 := by kernel_rfl
theorem ze99 : zeroA Tryz.prog 99 = some [.c (.int .i64 0), .c (.int .i64 0), .c (.int .i64 0)] := by kernel_rfl
theorem of99_0 : offA Tryz.prog 99 0 = some (0, 3) := by kernel_rfl
theorem of99_1 : offA Tryz.prog 99 1 = some (1, 3) := by kernel_rfl
theorem of99_2 : offA Tryz.prog 99 2 = some (2, 3) := by kernel_rfl
theorem pl99 : placesA Tryz.prog 99 = some [(0, 1), (1, 1), (2, 1)] := by kernel_rfl
theorem eq99 : eqTA Tryz.prog 99 = some [(3, 0), (3, 1), (3, 2)] := by kernel_rfl
theorem ag100 : aggA Tryz.prog 100 = some true := by kernel_rfl
theorem sz100 : sizeA Tryz.prog 100 = some 5 := by kernel_rfl
theorem by100 : bytesA Tryz.prog 100 = some 40 := by kernel_rfl
theorem ze100 : zeroA Tryz.prog 100 = some [.c (.int .i64 0), .c (.int .i64 0), .c (.int .i64 0), .c (.int .i64 0), .c (.int .i64 0)] := by kernel_rfl
theorem of100_0 : offA Tryz.prog 100 0 = some (0, 3) := by kernel_rfl
theorem of100_1 : offA Tryz.prog 100 1 = some (1, 3) := by kernel_rfl
theorem of100_2 : offA Tryz.prog 100 2 = some (2, 3) := by kernel_rfl
theorem of100_3 : offA Tryz.prog 100 3 = some (3, 3) := by kernel_rfl
theorem of100_4 : offA Tryz.prog 100 4 = some (4, 3) := by kernel_rfl
theorem pl100 : placesA Tryz.prog 100 = some [(0, 1), (1, 1), (2, 1), (3, 1), (4, 1)] := by kernel_rfl
theorem eq100 : eqTA Tryz.prog 100 = some [(3, 0), (3, 1), (3, 2), (3, 3), (3, 4)] := by kernel_rfl
theorem ag101 : aggA Tryz.prog 101 = some true := by kernel_rfl
theorem sz101 : sizeA Tryz.prog 101 = some 5 := by kernel_rfl
theorem by101 : bytesA Tryz.prog 101 = some 40 := by kernel_rfl
theorem ze101 : zeroA Tryz.prog 101 = some [.c (.int .i64 0), .c (.int .i64 0), .c (.int .i64 0), .c (.int .i64 0), .c (.int .i64 0)] := by kernel_rfl
theorem of101_0 : offA Tryz.prog 101 0 = some (0, 3) := by kernel_rfl
theorem of101_1 : offA Tryz.prog 101 1 = some (1, 3) := by kernel_rfl
theorem of101_2 : offA Tryz.prog 101 2 = some (2, 3) := by kernel_rfl
theorem of101_3 : offA Tryz.prog 101 3 = some (3, 3) := by kernel_rfl
theorem of101_4 : offA Tryz.prog 101 4 = some (4, 3) := by kernel_rfl
theorem pl101 : placesA Tryz.prog 101 = some [(0, 1), (1, 1), (2, 1), (3, 1), (4, 1)] := by kernel_rfl
theorem eq101 : eqTA Tryz.prog 101 = some [(3, 0), (3, 1), (3, 2), (3, 3), (3, 4)] := by kernel_rfl
theorem ag102 : aggA Tryz.prog 102 = some true := by kernel_rfl
theorem sz102 : sizeA Tryz.prog 102 = some 8 := by kernel_rfl
theorem by102 : bytesA Tryz.prog 102 = some 64 := by kernel_rfl
theorem ze102 : zeroA Tryz.prog 102 = some [.c (.int .i64 0), .c (.int .i64 0), .c (.int .i64 0), .c (.int .i64 0), .c (.int .i64 0), .c (.int .i64 0), .c (.int .i64 0), .c (.int .i64 0)] := by kernel_rfl
theorem of102_0 : offA Tryz.prog 102 0 = some (0, 3) := by kernel_rfl
theorem of102_1 : offA Tryz.prog 102 1 = some (1, 3) := by kernel_rfl
theorem of102_2 : offA Tryz.prog 102 2 = some (2, 3) := by kernel_rfl
theorem of102_3 : offA Tryz.prog 102 3 = some (3, 3) := by kernel_rfl
theorem of102_4 : offA Tryz.prog 102 4 = some (4, 3) := by kernel_rfl
theorem of102_5 : offA Tryz.prog 102 5 = some (5, 3) := by kernel_rfl
theorem of102_6 : offA Tryz.prog 102 6 = some (6, 3) := by kernel_rfl
theorem of102_7 : offA Tryz.prog 102 7 = some (7, 3) := by kernel_rfl
theorem pl102 : placesA Tryz.prog 102 = some [(0, 1), (1, 1), (2, 1), (3, 1), (4, 1), (5, 1), (6, 1), (7, 1)] := by kernel_rfl
theorem eq102 : eqTA Tryz.prog 102 = some [(3, 0), (3, 1), (3, 2), (3, 3), (3, 4), (3, 5), (3, 6), (3, 7)] := by kernel_rfl
theorem ag103 : aggA Tryz.prog 103 = some true := by kernel_rfl
theorem sz103 : sizeA Tryz.prog 103 = some 8 := by kernel_rfl
theorem by103 : bytesA Tryz.prog 103 = some 64 := by kernel_rfl
theorem ze103 : zeroA Tryz.prog 103 = some [.c (.int .i64 0), .c (.int .i64 0), .c (.int .i64 0), .c (.int .i64 0), .c (.int .i64 0), .c (.int .i64 0), .c (.int .i64 0), .c (.int .i64 0)] := by kernel_rfl
theorem of103_0 : offA Tryz.prog 103 0 = some (0, 3) := by kernel_rfl
theorem of103_1 : offA Tryz.prog 103 1 = some (1, 3) := by kernel_rfl
theorem of103_2 : offA Tryz.prog 103 2 = some (2, 3) := by kernel_rfl
theorem of103_3 : offA Tryz.prog 103 3 = some (3, 3) := by kernel_rfl
theorem of103_4 : offA Tryz.prog 103 4 = some (4, 3) := by kernel_rfl
theorem of103_5 : offA Tryz.prog 103 5 = some (5, 3) := by kernel_rfl
theorem of103_6 : offA Tryz.prog 103 6 = some (6, 3) := by kernel_rfl
theorem of103_7 : offA Tryz.prog 103 7 = some (7, 3) := by kernel_rfl
theorem pl103 : placesA Tryz.prog 103 = some [(0, 1), (1, 1), (2, 1), (3, 1), (4, 1), (5, 1), (6, 1), (7, 1)] := by kernel_rfl
theorem eq103 : eqTA Tryz.prog 103 = some [(3, 0), (3, 1), (3, 2), (3, 3), (3, 4), (3, 5), (3, 6), (3, 7)] := by kernel_rfl
theorem ag124 : aggA Tryz.prog 124 = some true := by kernel_rfl
theorem sz124 : sizeA Tryz.prog 124 = some 2 := by kernel_rfl
theorem by124 : bytesA Tryz.prog 124 = some 16 := by kernel_rfl
theorem ze124 : zeroA Tryz.prog 124 = some [.c (.int .i64 0), .c (.int .i64 0)] := by kernel_rfl
theorem of124_0 : offA Tryz.prog 124 0 = some (0, 3) := by kernel_rfl
theorem of124_1 : offA Tryz.prog 124 1 = some (1, 3) := by kernel_rfl
theorem pl124 : placesA Tryz.prog 124 = some [(0, 1), (1, 1)] := by kernel_rfl
theorem eq124 : eqTA Tryz.prog 124 = some [(3, 0), (3, 1)] := by kernel_rfl
theorem ag126 : aggA Tryz.prog 126 = some true := by kernel_rfl
theorem sz126 : sizeA Tryz.prog 126 = some 2 := by kernel_rfl
theorem by126 : bytesA Tryz.prog 126 = some 16 := by kernel_rfl
theorem ze126 : zeroA Tryz.prog 126 = some [.c (.int .i64 0), .c (.int .i64 0)] := by kernel_rfl
theorem of126_0 : offA Tryz.prog 126 0 = some (0, 3) := by kernel_rfl
theorem of126_1 : offA Tryz.prog 126 1 = some (1, 3) := by kernel_rfl
theorem pl126 : placesA Tryz.prog 126 = some [(0, 1), (1, 1)] := by kernel_rfl
theorem eq126 : eqTA Tryz.prog 126 = some [(3, 0), (3, 1)] := by kernel_rfl
theorem ag128 : aggA Tryz.prog 128 = some true := by kernel_rfl
theorem sz128 : sizeA Tryz.prog 128 = some 3 := by kernel_rfl
theorem by128 : bytesA Tryz.prog 128 = some 24 := by kernel_rfl
theorem ze128 : zeroA Tryz.prog 128 = some [.c (.int .i64 0), .c (.int .i64 0), .c (.int .i64 0)] := by kernel_rfl
theorem of128_0 : offA Tryz.prog 128 0 = some (0, 3) := by kernel_rfl
theorem of128_1 : offA Tryz.prog 128 1 = some (1, 3) := by kernel_rfl
theorem of128_2 : offA Tryz.prog 128 2 = some (2, 3) := by kernel_rfl
theorem pl128 : placesA Tryz.prog 128 = some [(0, 1), (1, 1), (2, 1)] := by kernel_rfl
theorem eq128 : eqTA Tryz.prog 128 = some [(3, 0), (3, 1), (3, 2)] := by kernel_rfl
theorem ag130 : aggA Tryz.prog 130 = some true := by kernel_rfl
theorem sz130 : sizeA Tryz.prog 130 = some 5 := by kernel_rfl
theorem by130 : bytesA Tryz.prog 130 = some 40 := by kernel_rfl
theorem ze130 : zeroA Tryz.prog 130 = some [.c (.int .i64 0), .c (.int .i64 0), .c (.int .i64 0), .c (.int .i64 0), .c (.int .i64 0)] := by kernel_rfl
theorem of130_0 : offA Tryz.prog 130 0 = some (0, 3) := by kernel_rfl
theorem of130_1 : offA Tryz.prog 130 1 = some (1, 3) := by kernel_rfl
theorem of130_2 : offA Tryz.prog 130 2 = some (2, 3) := by kernel_rfl
theorem of130_3 : offA Tryz.prog 130 3 = some (3, 3) := by kernel_rfl
theorem of130_4 : offA Tryz.prog 130 4 = some (4, 3) := by kernel_rfl
theorem pl130 : placesA Tryz.prog 130 = some [(0, 1), (1, 1), (2, 1), (3, 1), (4, 1)] := by kernel_rfl
theorem eq130 : eqTA Tryz.prog 130 = some [(3, 0), (3, 1), (3, 2), (3, 3), (3, 4)] := by kernel_rfl
theorem ag132 : aggA Tryz.prog 132 = some true := by kernel_rfl
theorem sz132 : sizeA Tryz.prog 132 = some 8 := by kernel_rfl
theorem by132 : bytesA Tryz.prog 132 = some 64 := by kernel_rfl
theorem ze132 : zeroA Tryz.prog 132 = some [.c (.int .i64 0), .c (.int .i64 0), .c (.int .i64 0), .c (.int .i64 0), .c (.int .i64 0), .c (.int .i64 0), .c (.int .i64 0), .c (.int .i64 0)] := by kernel_rfl
theorem of132_0 : offA Tryz.prog 132 0 = some (0, 3) := by kernel_rfl
theorem of132_1 : offA Tryz.prog 132 1 = some (1, 3) := by kernel_rfl
theorem of132_2 : offA Tryz.prog 132 2 = some (2, 3) := by kernel_rfl
theorem of132_3 : offA Tryz.prog 132 3 = some (3, 3) := by kernel_rfl
theorem of132_4 : offA Tryz.prog 132 4 = some (4, 3) := by kernel_rfl
theorem of132_5 : offA Tryz.prog 132 5 = some (5, 3) := by kernel_rfl
theorem of132_6 : offA Tryz.prog 132 6 = some (6, 3) := by kernel_rfl
theorem of132_7 : offA Tryz.prog 132 7 = some (7, 3) := by kernel_rfl
theorem pl132 : placesA Tryz.prog 132 = some [(0, 1), (1, 1), (2, 1), (3, 1), (4, 1), (5, 1), (6, 1), (7, 1)] := by kernel_rfl
theorem eq132 : eqTA Tryz.prog 132 = some [(3, 0), (3, 1), (3, 2), (3, 3), (3, 4), (3, 5), (3, 6), (3, 7)] := by kernel_rfl
theorem ag134 : aggA Tryz.prog 134 = some false := by kernel_rfl
theorem sz134 : sizeA Tryz.prog 134 = some 1 := by kernel_rfl
theorem by134 : bytesA Tryz.prog 134 = some 24 := by kernel_rfl
theorem ze134 : zeroA Tryz.prog 134 = some [.nl] := by kernel_rfl
theorem el134 : elemA Tryz.prog 134 = some 62 := by kernel_rfl
theorem st134 : strA Tryz.prog 134 = false := by kernel_rfl
theorem ag142 : aggA Tryz.prog 142 = some true := by kernel_rfl
theorem sz142 : sizeA Tryz.prog 142 = some 3 := by kernel_rfl
theorem by142 : bytesA Tryz.prog 142 = some 40 := by kernel_rfl
theorem ze142 : zeroA Tryz.prog 142 = some [.c (.int .i64 0), .c (.string ⟨#[]⟩), .c (.string ⟨#[]⟩)] := by kernel_rfl
theorem of142_0 : offA Tryz.prog 142 0 = some (0, 3) := by kernel_rfl
theorem of142_1 : offA Tryz.prog 142 1 = some (1, 9) := by kernel_rfl
theorem of142_2 : offA Tryz.prog 142 2 = some (2, 9) := by kernel_rfl
theorem pl142 : placesA Tryz.prog 142 = some [(0, 1), (1, 1), (2, 1)] := by kernel_rfl
theorem eq142 : eqTA Tryz.prog 142 = some [(3, 0), (9, 1), (9, 2)] := by kernel_rfl
theorem ag172 : aggA Tryz.prog 172 = some true := by kernel_rfl
theorem sz172 : sizeA Tryz.prog 172 = some 4 := by kernel_rfl
theorem by172 : bytesA Tryz.prog 172 = some 40 := by kernel_rfl
theorem of172_0 : offA Tryz.prog 172 0 = some (0, 17) := by kernel_rfl
theorem of172_1 : offA Tryz.prog 172 1 = some (1, 17) := by kernel_rfl
theorem of172_2 : offA Tryz.prog 172 2 = some (2, 17) := by kernel_rfl
theorem of172_3 : offA Tryz.prog 172 3 = some (3, 9) := by kernel_rfl
theorem pl172 : placesA Tryz.prog 172 = some [(0, 1), (1, 1), (2, 1), (3, 1)] := by kernel_rfl
theorem ag173 : aggA Tryz.prog 173 = some true := by kernel_rfl
theorem sz173 : sizeA Tryz.prog 173 = some 4 := by kernel_rfl
theorem by173 : bytesA Tryz.prog 173 = some 40 := by kernel_rfl
theorem of173_0 : offA Tryz.prog 173 0 = some (0, 17) := by kernel_rfl
theorem of173_1 : offA Tryz.prog 173 1 = some (1, 17) := by kernel_rfl
theorem of173_2 : offA Tryz.prog 173 2 = some (2, 17) := by kernel_rfl
theorem of173_3 : offA Tryz.prog 173 3 = some (3, 9) := by kernel_rfl
theorem pl173 : placesA Tryz.prog 173 = some [(0, 1), (1, 1), (2, 1), (3, 1)] := by kernel_rfl
theorem ag178 : aggA Tryz.prog 178 = some false := by kernel_rfl
theorem sz178 : sizeA Tryz.prog 178 = some 1 := by kernel_rfl
theorem by178 : bytesA Tryz.prog 178 = some 4 := by kernel_rfl
theorem ze178 : zeroA Tryz.prog 178 = some [.c (.int .u32 0)] := by kernel_rfl
theorem el178 : elemA Tryz.prog 178 = none := by kernel_rfl
theorem st178 : strA Tryz.prog 178 = false := by kernel_rfl
theorem ki178 : kindA Tryz.prog 178 = some .u32 := by kernel_rfl
theorem us178 : (Tryz.prog.underlying 178).isSome = true := by kernel_rfl
theorem ag179 : aggA Tryz.prog 179 = some false := by kernel_rfl
theorem sz179 : sizeA Tryz.prog 179 = some 1 := by kernel_rfl
theorem by179 : bytesA Tryz.prog 179 = some 1 := by kernel_rfl
theorem ze179 : zeroA Tryz.prog 179 = some [.c (.int .u8 0)] := by kernel_rfl
theorem el179 : elemA Tryz.prog 179 = none := by kernel_rfl
theorem st179 : strA Tryz.prog 179 = false := by kernel_rfl
theorem ki179 : kindA Tryz.prog 179 = some .u8 := by kernel_rfl
theorem us179 : (Tryz.prog.underlying 179).isSome = true := by kernel_rfl
theorem ag180 : aggA Tryz.prog 180 = some false := by kernel_rfl
theorem sz180 : sizeA Tryz.prog 180 = some 1 := by kernel_rfl
theorem by180 : bytesA Tryz.prog 180 = some 1 := by kernel_rfl
theorem ze180 : zeroA Tryz.prog 180 = some [.c (.int .u8 0)] := by kernel_rfl
theorem el180 : elemA Tryz.prog 180 = none := by kernel_rfl
theorem st180 : strA Tryz.prog 180 = false := by kernel_rfl
theorem ki180 : kindA Tryz.prog 180 = some .u8 := by kernel_rfl
theorem us180 : (Tryz.prog.underlying 180).isSome = true := by kernel_rfl
theorem ag182 : aggA Tryz.prog 182 = some false := by kernel_rfl
theorem sz182 : sizeA Tryz.prog 182 = some 1 := by kernel_rfl
theorem by182 : bytesA Tryz.prog 182 = some 8 := by kernel_rfl
theorem ag183 : aggA Tryz.prog 183 = some false := by kernel_rfl
theorem sz183 : sizeA Tryz.prog 183 = some 1 := by kernel_rfl
theorem by183 : bytesA Tryz.prog 183 = some 4 := by kernel_rfl
theorem ze183 : zeroA Tryz.prog 183 = some [.c (.int .i32 0)] := by kernel_rfl
theorem el183 : elemA Tryz.prog 183 = none := by kernel_rfl
theorem st183 : strA Tryz.prog 183 = false := by kernel_rfl
theorem ki183 : kindA Tryz.prog 183 = some .i32 := by kernel_rfl
theorem us183 : (Tryz.prog.underlying 183).isSome = true := by kernel_rfl
theorem ag184 : aggA Tryz.prog 184 = some false := by kernel_rfl
theorem sz184 : sizeA Tryz.prog 184 = some 1 := by kernel_rfl
theorem by184 : bytesA Tryz.prog 184 = some 4 := by kernel_rfl
theorem ze184 : zeroA Tryz.prog 184 = some [.c (.int .i32 0)] := by kernel_rfl
theorem el184 : elemA Tryz.prog 184 = none := by kernel_rfl
theorem st184 : strA Tryz.prog 184 = false := by kernel_rfl
theorem ki184 : kindA Tryz.prog 184 = some .i32 := by kernel_rfl
theorem us184 : (Tryz.prog.underlying 184).isSome = true := by kernel_rfl
theorem ag185 : aggA Tryz.prog 185 = some true := by kernel_rfl
theorem sz185 : sizeA Tryz.prog 185 = some 11 := by kernel_rfl
theorem by185 : bytesA Tryz.prog 185 = some 48 := by kernel_rfl
theorem of185_0 : offA Tryz.prog 185 0 = some (0, 12) := by kernel_rfl
theorem of185_1 : offA Tryz.prog 185 1 = some (1, 12) := by kernel_rfl
theorem of185_2 : offA Tryz.prog 185 2 = some (2, 178) := by kernel_rfl
theorem of185_3 : offA Tryz.prog 185 3 = some (3, 179) := by kernel_rfl
theorem of185_4 : offA Tryz.prog 185 4 = some (4, 5) := by kernel_rfl
theorem of185_5 : offA Tryz.prog 185 5 = some (5, 5) := by kernel_rfl
theorem of185_6 : offA Tryz.prog 185 6 = some (6, 180) := by kernel_rfl
theorem of185_7 : offA Tryz.prog 185 7 = some (7, 181) := by kernel_rfl
theorem of185_8 : offA Tryz.prog 185 8 = some (8, 182) := by kernel_rfl
theorem of185_9 : offA Tryz.prog 185 9 = some (9, 183) := by kernel_rfl
theorem of185_10 : offA Tryz.prog 185 10 = some (10, 184) := by kernel_rfl
theorem pl185 : placesA Tryz.prog 185 = some [(0, 1), (1, 1), (2, 1), (3, 1), (4, 1), (5, 1), (6, 1), (7, 1), (8, 1), (9, 1), (10, 1)] := by kernel_rfl
theorem ag186 : aggA Tryz.prog 186 = some true := by kernel_rfl
theorem sz186 : sizeA Tryz.prog 186 = some 11 := by kernel_rfl
theorem by186 : bytesA Tryz.prog 186 = some 48 := by kernel_rfl
theorem of186_0 : offA Tryz.prog 186 0 = some (0, 12) := by kernel_rfl
theorem of186_1 : offA Tryz.prog 186 1 = some (1, 12) := by kernel_rfl
theorem of186_2 : offA Tryz.prog 186 2 = some (2, 178) := by kernel_rfl
theorem of186_3 : offA Tryz.prog 186 3 = some (3, 179) := by kernel_rfl
theorem of186_4 : offA Tryz.prog 186 4 = some (4, 5) := by kernel_rfl
theorem of186_5 : offA Tryz.prog 186 5 = some (5, 5) := by kernel_rfl
theorem of186_6 : offA Tryz.prog 186 6 = some (6, 180) := by kernel_rfl
theorem of186_7 : offA Tryz.prog 186 7 = some (7, 181) := by kernel_rfl
theorem of186_8 : offA Tryz.prog 186 8 = some (8, 182) := by kernel_rfl
theorem of186_9 : offA Tryz.prog 186 9 = some (9, 183) := by kernel_rfl
theorem of186_10 : offA Tryz.prog 186 10 = some (10, 184) := by kernel_rfl
theorem pl186 : placesA Tryz.prog 186 = some [(0, 1), (1, 1), (2, 1), (3, 1), (4, 1), (5, 1), (6, 1), (7, 1), (8, 1), (9, 1), (10, 1)] := by kernel_rfl
attribute [go_sem] ag2 sz2 by2 ze2 el2 st2 ki2 us2 ag3 sz3 by3 ze3 el3 st3 ki3 us3 ag4 sz4 by4 ze4 bo4 ag5 sz5 by5 ze5 el5 st5 ki5 us5 ag6 sz6 by6 ze6 el6 st6 ki6 us6 ag7 sz7 by7 ze7 of7_0 of7_1 of7_2 of7_3 pl7 eq7 ag8 sz8 by8 ze8 of8_0 of8_1 of8_2 of8_3 pl8 eq8 ag9 sz9 by9 ze9 el9 st9 ag10 sz10 by10 ze10 el10 st10 ag11 sz11 by11 ze11 el11 st11 ag12 sz12 by12 ze12 el12 st12 ki12 us12 ag13 sz13 by13 ze13 of13_0 of13_1 pl13 ag14 sz14 by14 ze14 of14_0 of14_1 pl14 ag15 sz15 by15 ag16 sz16 by16 ag17 sz17 by17 ag18 sz18 by18 of18_0 pl18 ag19 sz19 by19 of19_0 pl19 ag21 sz21 by21 ze21 el21 st21 ki21 us21 ag22 sz22 by22 ze22 el22 st22 ag23 sz23 by23 ze23 el23 st23 ag24 sz24 by24 ze24 el24 st24 ag25 sz25 by25 ze25 el25 st25 ag26 sz26 by26 ze26 el26 st26 ag27 sz27 by27 ze27 of27_0 of27_1 of27_2 of27_3 of27_4 of27_5 pl27 ag28 sz28 by28 ze28 of28_0 of28_1 of28_2 of28_3 of28_4 of28_5 pl28 ag29 sz29 by29 ze29 of29_0 of29_1 pl29 ag30 sz30 by30 ze30 of30_0 of30_1 pl30 ag34 sz34 by34 ze34 el34 st34 ag35 sz35 by35 ze35 el35 st35 ag36 sz36 by36 ze36 el36 st36 ag37 sz37 by37 ze37 el37 st37 ag38 sz38 by38 ze38 el38 st38 ag39 sz39 by39 ze39 of39_0 of39_1 of39_2 of39_3 of39_4 of39_5 pl39 ag40 sz40 by40 ze40 of40_0 of40_1 of40_2 of40_3 of40_4 of40_5 pl40 ag41 sz41 by41 ze41 of41_0 of41_1 pl41 ag42 sz42 by42 ze42 of42_0 of42_1 pl42 ag46 sz46 by46 ze46 el46 st46 ag47 sz47 by47 ze47 of47_0 of47_1 pl47 ag48 sz48 by48 ze48 of48_0 of48_1 pl48 ag49 sz49 by49 ze49 of49_0 of49_1 of49_2 of49_3 of49_4 pl49 ag50 sz50 by50 ze50 of50_0 of50_1 of50_2 of50_3 of50_4 pl50 ag53 sz53 by53 ze53 el53 st53 ag54 sz54 by54 ze54 of54_0 of54_1 pl54 ag55 sz55 by55 ze55 of55_0 of55_1 pl55 ag56 sz56 by56 ze56 of56_0 of56_1 of56_2 of56_3 of56_4 pl56 ag57 sz57 by57 ze57 of57_0 of57_1 of57_2 of57_3 of57_4 pl57 ag62 sz62 by62 ze62 el62 st62 ag72 sz72 by72 ze72 of72_0 of72_1 of72_2 pl72 eq72 ag73 sz73 by73 ze73 of73_0 of73_1 of73_2 pl73 eq73 ag86 sz86 by86 ze86 el86 st86 ag89 sz89 by89 ze89 el89 st89 ki89 us89 ag95 sz95 by95 ze95 of95_0 of95_1 pl95 eq95 ag96 sz96 by96 ze96 of96_0 of96_1 pl96 eq96 ag97 sz97 by97 ze97 of97_0 of97_1 pl97 eq97 ag98 sz98 by98 ze98 of98_0 of98_1 of98_2 pl98 eq98 ag99 sz99 by99 ze99 of99_0 of99_1 of99_2 pl99 eq99 ag100 sz100 by100 ze100 of100_0 of100_1 of100_2 of100_3 of100_4 pl100 eq100 ag101 sz101 by101 ze101 of101_0 of101_1 of101_2 of101_3 of101_4 pl101 eq101 ag102 sz102 by102 ze102 of102_0 of102_1 of102_2 of102_3 of102_4 of102_5 of102_6 of102_7 pl102 eq102 ag103 sz103 by103 ze103 of103_0 of103_1 of103_2 of103_3 of103_4 of103_5 of103_6 of103_7 pl103 eq103 ag124 sz124 by124 ze124 of124_0 of124_1 pl124 eq124 ag126 sz126 by126 ze126 of126_0 of126_1 pl126 eq126 ag128 sz128 by128 ze128 of128_0 of128_1 of128_2 pl128 eq128 ag130 sz130 by130 ze130 of130_0 of130_1 of130_2 of130_3 of130_4 pl130 eq130 ag132 sz132 by132 ze132 of132_0 of132_1 of132_2 of132_3 of132_4 of132_5 of132_6 of132_7 pl132 eq132 ag134 sz134 by134 ze134 el134 st134 ag142 sz142 by142 ze142 of142_0 of142_1 of142_2 pl142 eq142 ag172 sz172 by172 of172_0 of172_1 of172_2 of172_3 pl172 ag173 sz173 by173 of173_0 of173_1 of173_2 of173_3 pl173 ag178 sz178 by178 ze178 el178 st178 ki178 us178 ag179 sz179 by179 ze179 el179 st179 ki179 us179 ag180 sz180 by180 ze180 el180 st180 ki180 us180 ag182 sz182 by182 ag183 sz183 by183 ze183 el183 st183 ki183 us183 ag184 sz184 by184 ze184 el184 st184 ki184 us184 ag185 sz185 by185 of185_0 of185_1 of185_2 of185_3 of185_4 of185_5 of185_6 of185_7 of185_8 of185_9 of185_10 pl185 ag186 sz186 by186 of186_0 of186_1 of186_2 of186_3 of186_4 of186_5 of186_6 of186_7 of186_8 of186_9 of186_10 pl186
end Go.Proofs.YtedkpjaojdkpcaaGreat
