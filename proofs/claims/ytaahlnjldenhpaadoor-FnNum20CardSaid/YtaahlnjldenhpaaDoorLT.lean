/- What the program says of its types. Conditions: none; printed by a program, checked by Lean. -/
import Derived.Test.YtaahlnjldenhpaaDoorL2
import Derived.Test.YtaahlnjldenhpaaDoorProg
namespace Go.Proofs.YtaahlnjldenhpaaDoor
open Go.BL
theorem ag2 : aggA Tryd.prog 2 = some false := by kernel_rfl
theorem sz2 : sizeA Tryd.prog 2 = some 1 := by kernel_rfl
theorem by2 : bytesA Tryd.prog 2 = some 8 := by kernel_rfl
theorem ze2 : zeroA Tryd.prog 2 = some [.c (.int .i64 0)] := by kernel_rfl
theorem el2 : elemA Tryd.prog 2 = none := by kernel_rfl
theorem st2 : strA Tryd.prog 2 = false := by kernel_rfl
theorem ki2 : kindA Tryd.prog 2 = some .i64 := by kernel_rfl
theorem us2 : (Tryd.prog.underlying 2).isSome = true := by kernel_rfl
theorem ag3 : aggA Tryd.prog 3 = some false := by kernel_rfl
theorem sz3 : sizeA Tryd.prog 3 = some 1 := by kernel_rfl
theorem by3 : bytesA Tryd.prog 3 = some 8 := by kernel_rfl
theorem ze3 : zeroA Tryd.prog 3 = some [.c (.int .i64 0)] := by kernel_rfl
theorem el3 : elemA Tryd.prog 3 = none := by kernel_rfl
theorem st3 : strA Tryd.prog 3 = false := by kernel_rfl
theorem ki3 : kindA Tryd.prog 3 = some .i64 := by kernel_rfl
theorem us3 : (Tryd.prog.underlying 3).isSome = true := by kernel_rfl
theorem ag4 : aggA Tryd.prog 4 = some false := by kernel_rfl
theorem sz4 : sizeA Tryd.prog 4 = some 1 := by kernel_rfl
theorem by4 : bytesA Tryd.prog 4 = some 1 := by kernel_rfl
theorem ze4 : zeroA Tryd.prog 4 = some [.c (.bool false)] := by kernel_rfl
theorem bo4 : boolA Tryd.prog 4 = true := by kernel_rfl
theorem ag5 : aggA Tryd.prog 5 = some false := by kernel_rfl
theorem sz5 : sizeA Tryd.prog 5 = some 1 := by kernel_rfl
theorem by5 : bytesA Tryd.prog 5 = some 1 := by kernel_rfl
theorem ze5 : zeroA Tryd.prog 5 = some [.c (.int .u8 0)] := by kernel_rfl
theorem el5 : elemA Tryd.prog 5 = none := by kernel_rfl
theorem st5 : strA Tryd.prog 5 = false := by kernel_rfl
theorem ki5 : kindA Tryd.prog 5 = some .u8 := by kernel_rfl
theorem us5 : (Tryd.prog.underlying 5).isSome = true := by kernel_rfl
theorem ag6 : aggA Tryd.prog 6 = some false := by kernel_rfl
theorem sz6 : sizeA Tryd.prog 6 = some 1 := by kernel_rfl
theorem by6 : bytesA Tryd.prog 6 = some 1 := by kernel_rfl
theorem ze6 : zeroA Tryd.prog 6 = some [.c (.int .u8 0)] := by kernel_rfl
theorem el6 : elemA Tryd.prog 6 = none := by kernel_rfl
theorem st6 : strA Tryd.prog 6 = false := by kernel_rfl
theorem ki6 : kindA Tryd.prog 6 = some .u8 := by kernel_rfl
theorem us6 : (Tryd.prog.underlying 6).isSome = true := by kernel_rfl
theorem ag7 : aggA Tryd.prog 7 = some true := by kernel_rfl
theorem sz7 : sizeA Tryd.prog 7 = some 4 := by kernel_rfl
theorem by7 : bytesA Tryd.prog 7 = some 24 := by kernel_rfl
theorem ze7 : zeroA Tryd.prog 7 = some [.c (.int .i64 0), .c (.int .i64 0), .c (.bool false), .c (.int .u8 0)] := by kernel_rfl
theorem of7_0 : offA Tryd.prog 7 0 = some (0, 2) := by kernel_rfl
theorem of7_1 : offA Tryd.prog 7 1 = some (1, 3) := by kernel_rfl
theorem of7_2 : offA Tryd.prog 7 2 = some (2, 4) := by kernel_rfl
theorem of7_3 : offA Tryd.prog 7 3 = some (3, 6) := by kernel_rfl
theorem pl7 : placesA Tryd.prog 7 = some [(0, 1), (1, 1), (2, 1), (3, 1)] := by kernel_rfl
theorem eq7 : eqTA Tryd.prog 7 = some [(2, 0), (3, 1), (4, 2), (6, 3)] := by kernel_rfl
theorem ag8 : aggA Tryd.prog 8 = some true := by kernel_rfl
theorem sz8 : sizeA Tryd.prog 8 = some 4 := by kernel_rfl
theorem by8 : bytesA Tryd.prog 8 = some 24 := by kernel_rfl
theorem ze8 : zeroA Tryd.prog 8 = some [.c (.int .i64 0), .c (.int .i64 0), .c (.bool false), .c (.int .u8 0)] := by kernel_rfl
theorem of8_0 : offA Tryd.prog 8 0 = some (0, 2) := by kernel_rfl
theorem of8_1 : offA Tryd.prog 8 1 = some (1, 3) := by kernel_rfl
theorem of8_2 : offA Tryd.prog 8 2 = some (2, 4) := by kernel_rfl
theorem of8_3 : offA Tryd.prog 8 3 = some (3, 6) := by kernel_rfl
theorem pl8 : placesA Tryd.prog 8 = some [(0, 1), (1, 1), (2, 1), (3, 1)] := by kernel_rfl
theorem eq8 : eqTA Tryd.prog 8 = some [(2, 0), (3, 1), (4, 2), (6, 3)] := by kernel_rfl
theorem ag9 : aggA Tryd.prog 9 = some false := by kernel_rfl
theorem sz9 : sizeA Tryd.prog 9 = some 1 := by kernel_rfl
theorem by9 : bytesA Tryd.prog 9 = some 16 := by kernel_rfl
theorem ze9 : zeroA Tryd.prog 9 = some [.c (.string ⟨#[]⟩)] := by kernel_rfl
theorem el9 : elemA Tryd.prog 9 = none := by kernel_rfl
theorem st9 : strA Tryd.prog 9 = true := by kernel_rfl
theorem ag10 : aggA Tryd.prog 10 = some false := by kernel_rfl
theorem sz10 : sizeA Tryd.prog 10 = some 1 := by kernel_rfl
theorem by10 : bytesA Tryd.prog 10 = some 16 := by kernel_rfl
theorem ze10 : zeroA Tryd.prog 10 = some [.c (.string ⟨#[]⟩)] := by kernel_rfl
theorem el10 : elemA Tryd.prog 10 = none := by kernel_rfl
theorem st10 : strA Tryd.prog 10 = true := by kernel_rfl
theorem ag11 : aggA Tryd.prog 11 = some false := by kernel_rfl
theorem sz11 : sizeA Tryd.prog 11 = some 1 := by kernel_rfl
theorem by11 : bytesA Tryd.prog 11 = some 16 := by kernel_rfl
theorem ze11 : zeroA Tryd.prog 11 = some [.c (.string ⟨#[]⟩)] := by kernel_rfl
theorem el11 : elemA Tryd.prog 11 = none := by kernel_rfl
theorem st11 : strA Tryd.prog 11 = true := by kernel_rfl
theorem ag12 : aggA Tryd.prog 12 = some false := by kernel_rfl
theorem sz12 : sizeA Tryd.prog 12 = some 1 := by kernel_rfl
theorem by12 : bytesA Tryd.prog 12 = some 8 := by kernel_rfl
theorem ze12 : zeroA Tryd.prog 12 = some [.c (.int .u64 0)] := by kernel_rfl
theorem el12 : elemA Tryd.prog 12 = none := by kernel_rfl
theorem st12 : strA Tryd.prog 12 = false := by kernel_rfl
theorem ki12 : kindA Tryd.prog 12 = some .u64 := by kernel_rfl
theorem us12 : (Tryd.prog.underlying 12).isSome = true := by kernel_rfl
theorem ag13 : aggA Tryd.prog 13 = some true := by kernel_rfl
theorem sz13 : sizeA Tryd.prog 13 = some 2 := by kernel_rfl
theorem by13 : bytesA Tryd.prog 13 = some 24 := by kernel_rfl
theorem ze13 : zeroA Tryd.prog 13 = some [.c (.string ⟨#[]⟩), .c (.int .u64 0)] := by kernel_rfl
theorem of13_0 : offA Tryd.prog 13 0 = some (0, 9) := by kernel_rfl
theorem of13_1 : offA Tryd.prog 13 1 = some (1, 12) := by kernel_rfl
theorem pl13 : placesA Tryd.prog 13 = some [(0, 1), (1, 1)] := by kernel_rfl
theorem ag14 : aggA Tryd.prog 14 = some true := by kernel_rfl
theorem sz14 : sizeA Tryd.prog 14 = some 2 := by kernel_rfl
theorem by14 : bytesA Tryd.prog 14 = some 24 := by kernel_rfl
theorem ze14 : zeroA Tryd.prog 14 = some [.c (.string ⟨#[]⟩), .c (.int .u64 0)] := by kernel_rfl
theorem of14_0 : offA Tryd.prog 14 0 = some (0, 9) := by kernel_rfl
theorem of14_1 : offA Tryd.prog 14 1 = some (1, 12) := by kernel_rfl
theorem pl14 : placesA Tryd.prog 14 = some [(0, 1), (1, 1)] := by kernel_rfl
theorem ag15 : aggA Tryd.prog 15 = some false := by kernel_rfl
theorem sz15 : sizeA Tryd.prog 15 = some 1 := by kernel_rfl
theorem by15 : bytesA Tryd.prog 15 = some 8 := by kernel_rfl
theorem ag16 : aggA Tryd.prog 16 = some false := by kernel_rfl
theorem sz16 : sizeA Tryd.prog 16 = some 1 := by kernel_rfl
theorem by16 : bytesA Tryd.prog 16 = some 8 := by kernel_rfl
theorem ag17 : aggA Tryd.prog 17 = some false := by kernel_rfl
theorem sz17 : sizeA Tryd.prog 17 = some 1 := by kernel_rfl
theorem by17 : bytesA Tryd.prog 17 = some 8 := by kernel_rfl
theorem ag18 : aggA Tryd.prog 18 = some true := by kernel_rfl
theorem sz18 : sizeA Tryd.prog 18 = some 1 := by kernel_rfl
theorem by18 : bytesA Tryd.prog 18 = some 8 := by kernel_rfl
theorem of18_0 : offA Tryd.prog 18 0 = some (0, 17) := by kernel_rfl
theorem pl18 : placesA Tryd.prog 18 = some [(0, 1)] := by kernel_rfl
theorem ag19 : aggA Tryd.prog 19 = some true := by kernel_rfl
theorem sz19 : sizeA Tryd.prog 19 = some 1 := by kernel_rfl
theorem by19 : bytesA Tryd.prog 19 = some 8 := by kernel_rfl
theorem of19_0 : offA Tryd.prog 19 0 = some (0, 17) := by kernel_rfl
theorem pl19 : placesA Tryd.prog 19 = some [(0, 1)] := by kernel_rfl
theorem ag21 : aggA Tryd.prog 21 = some false := by kernel_rfl
theorem sz21 : sizeA Tryd.prog 21 = some 1 := by kernel_rfl
theorem by21 : bytesA Tryd.prog 21 = some 4 := by kernel_rfl
theorem ze21 : zeroA Tryd.prog 21 = some [.c (.int .i32 0)] := by kernel_rfl
theorem el21 : elemA Tryd.prog 21 = none := by kernel_rfl
theorem st21 : strA Tryd.prog 21 = false := by kernel_rfl
theorem ki21 : kindA Tryd.prog 21 = some .i32 := by kernel_rfl
theorem us21 : (Tryd.prog.underlying 21).isSome = true := by kernel_rfl
theorem ag24 : aggA Tryd.prog 24 = some false := by kernel_rfl
theorem sz24 : sizeA Tryd.prog 24 = some 1 := by kernel_rfl
theorem by24 : bytesA Tryd.prog 24 = some 24 := by kernel_rfl
theorem ze24 : zeroA Tryd.prog 24 = some [.nl] := by kernel_rfl
theorem el24 : elemA Tryd.prog 24 = some 3 := by kernel_rfl
theorem st24 : strA Tryd.prog 24 = false := by kernel_rfl
theorem ag25 : aggA Tryd.prog 25 = some true := by kernel_rfl
theorem sz25 : sizeA Tryd.prog 25 = some 2 := by kernel_rfl
theorem by25 : bytesA Tryd.prog 25 = some 32 := by kernel_rfl
theorem ze25 : zeroA Tryd.prog 25 = some [.c (.int .i64 0), .nl] := by kernel_rfl
theorem of25_0 : offA Tryd.prog 25 0 = some (0, 3) := by kernel_rfl
theorem of25_1 : offA Tryd.prog 25 1 = some (1, 24) := by kernel_rfl
theorem pl25 : placesA Tryd.prog 25 = some [(0, 1), (1, 1)] := by kernel_rfl
theorem ag26 : aggA Tryd.prog 26 = some true := by kernel_rfl
theorem sz26 : sizeA Tryd.prog 26 = some 2 := by kernel_rfl
theorem by26 : bytesA Tryd.prog 26 = some 32 := by kernel_rfl
theorem ze26 : zeroA Tryd.prog 26 = some [.c (.int .i64 0), .nl] := by kernel_rfl
theorem of26_0 : offA Tryd.prog 26 0 = some (0, 3) := by kernel_rfl
theorem of26_1 : offA Tryd.prog 26 1 = some (1, 24) := by kernel_rfl
theorem pl26 : placesA Tryd.prog 26 = some [(0, 1), (1, 1)] := by kernel_rfl
theorem ag30 : aggA Tryd.prog 30 = some true := by kernel_rfl
theorem sz30 : sizeA Tryd.prog 30 = some 2 := by kernel_rfl
theorem by30 : bytesA Tryd.prog 30 = some 32 := by kernel_rfl
theorem ze30 : zeroA Tryd.prog 30 = some [.c (.int .i64 0), .nl] := by kernel_rfl
theorem of30_0 : offA Tryd.prog 30 0 = some (0, 3) := by kernel_rfl
theorem of30_1 : offA Tryd.prog 30 1 = some (1, 24) := by kernel_rfl
theorem pl30 : placesA Tryd.prog 30 = some [(0, 1), (1, 1)] := by kernel_rfl
theorem ag37 : aggA Tryd.prog 37 = some false := by kernel_rfl
theorem sz37 : sizeA Tryd.prog 37 = some 1 := by kernel_rfl
theorem by37 : bytesA Tryd.prog 37 = some 24 := by kernel_rfl
theorem ze37 : zeroA Tryd.prog 37 = some [.nl] := by kernel_rfl
theorem el37 : elemA Tryd.prog 37 = some 5 := by kernel_rfl
theorem st37 : strA Tryd.prog 37 = false := by kernel_rfl
theorem ag44 : aggA Tryd.prog 44 = some false := by kernel_rfl
theorem sz44 : sizeA Tryd.prog 44 = some 1 := by kernel_rfl
theorem by44 : bytesA Tryd.prog 44 = some 24 := by kernel_rfl
theorem ze44 : zeroA Tryd.prog 44 = some [.nl] := by kernel_rfl
theorem el44 : elemA Tryd.prog 44 = some 9 := by kernel_rfl
theorem st44 : strA Tryd.prog 44 = false := by kernel_rfl
theorem ag53 : aggA Tryd.prog 53 = some false := by kernel_rfl
theorem sz53 : sizeA Tryd.prog 53 = some 1 := by kernel_rfl
theorem by53 : bytesA Tryd.prog 53 = some 8 := by kernel_rfl
theorem ag62 : aggA Tryd.prog 62 = some true := by kernel_rfl
theorem sz62 : sizeA Tryd.prog 62 = some 3 := by kernel_rfl
theorem by62 : bytesA Tryd.prog 62 = some 40 := by kernel_rfl
theorem ze62 : zeroA Tryd.prog 62 = some [.nl, .c (.int .i64 0), .c (.int .i64 0)] := by kernel_rfl
theorem of62_0 : offA Tryd.prog 62 0 = some (0, 37) := by kernel_rfl
theorem of62_1 : offA Tryd.prog 62 1 = some (1, 3) := by kernel_rfl
theorem of62_2 : offA Tryd.prog 62 2 = some (2, 3) := by kernel_rfl
theorem pl62 : placesA Tryd.prog 62 = some [(0, 1), (1, 1), (2, 1)] := by kernel_rfl
theorem ag63 : aggA Tryd.prog 63 = some true := by kernel_rfl
theorem sz63 : sizeA Tryd.prog 63 = some 3 := by kernel_rfl
theorem by63 : bytesA Tryd.prog 63 = some 40 := by kernel_rfl
theorem ze63 : zeroA Tryd.prog 63 = some [.nl, .c (.int .i64 0), .c (.int .i64 0)] := by kernel_rfl
theorem of63_0 : offA Tryd.prog 63 0 = some (0, 37) := by kernel_rfl
theorem of63_1 : offA Tryd.prog 63 1 = some (1, 3) := by kernel_rfl
theorem of63_2 : offA Tryd.prog 63 2 = some (2, 3) := by kernel_rfl
theorem pl63 : placesA Tryd.prog 63 = some [(0, 1), (1, 1), (2, 1)] := by kernel_rfl
theorem ag67 : aggA Tryd.prog 67 = some false := by kernel_rfl
theorem sz67 : sizeA Tryd.prog 67 = some 1 := by kernel_rfl
theorem by67 : bytesA Tryd.prog 67 = some 8 := by kernel_rfl
theorem ze67 : zeroA Tryd.prog 67 = some [.c (.int .i64 0)] := by kernel_rfl
theorem el67 : elemA Tryd.prog 67 = none := by kernel_rfl
theorem st67 : strA Tryd.prog 67 = false := by kernel_rfl
theorem ki67 : kindA Tryd.prog 67 = some .i64 := by kernel_rfl
theorem us67 : (Tryd.prog.underlying 67).isSome = true := by kernel_rfl
theorem ag70 : aggA Tryd.prog 70 = some false := by kernel_rfl
theorem sz70 : sizeA Tryd.prog 70 = some 1 := by kernel_rfl
theorem by70 : bytesA Tryd.prog 70 = some 8 := by kernel_rfl
theorem ag74 : aggA Tryd.prog 74 = some false := by kernel_rfl
theorem sz74 : sizeA Tryd.prog 74 = some 1 := by kernel_rfl
theorem by74 : bytesA Tryd.prog 74 = some 8 := by kernel_rfl
theorem ze74 : zeroA Tryd.prog 74 = some [.c (.int .u64 0)] := by kernel_rfl
theorem el74 : elemA Tryd.prog 74 = none := by kernel_rfl
theorem st74 : strA Tryd.prog 74 = false := by kernel_rfl
theorem ki74 : kindA Tryd.prog 74 = some .u64 := by kernel_rfl
theorem us74 : (Tryd.prog.underlying 74).isSome = true := by kernel_rfl
theorem ag76 : aggA Tryd.prog 76 = some false := by kernel_rfl
theorem sz76 : sizeA Tryd.prog 76 = some 1 := by kernel_rfl
theorem by76 : bytesA Tryd.prog 76 = some 8 := by kernel_rfl
theorem ze76 : zeroA Tryd.prog 76 = some [.c (.int .u64 0)] := by kernel_rfl
theorem el76 : elemA Tryd.prog 76 = none := by kernel_rfl
theorem st76 : strA Tryd.prog 76 = false := by kernel_rfl
theorem ki76 : kindA Tryd.prog 76 = some .u64 := by kernel_rfl
theorem us76 : (Tryd.prog.underlying 76).isSome = true := by kernel_rfl
theorem ag89 : aggA Tryd.prog 89 = some false := by kernel_rfl
theorem sz89 : sizeA Tryd.prog 89 = some 1 := by kernel_rfl
theorem by89 : bytesA Tryd.prog 89 = some 4 := by kernel_rfl
theorem ze89 : zeroA Tryd.prog 89 = some [.c (.int .u32 0)] := by kernel_rfl
theorem el89 : elemA Tryd.prog 89 = none := by kernel_rfl
theorem st89 : strA Tryd.prog 89 = false := by kernel_rfl
theorem ki89 : kindA Tryd.prog 89 = some .u32 := by kernel_rfl
theorem us89 : (Tryd.prog.underlying 89).isSome = true := by kernel_rfl
theorem ag93 : aggA Tryd.prog 93 = some false := by kernel_rfl
theorem sz93 : sizeA Tryd.prog 93 = some 1 := by kernel_rfl
theorem by93 : bytesA Tryd.prog 93 = some 8 := by kernel_rfl
theorem ag94 : aggA Tryd.prog 94 = some false := by kernel_rfl
theorem sz94 : sizeA Tryd.prog 94 = some 1 := by kernel_rfl
theorem by94 : bytesA Tryd.prog 94 = some 8 := by kernel_rfl
theorem ag95 : aggA Tryd.prog 95 = some true := by kernel_rfl
theorem sz95 : sizeA Tryd.prog 95 = some 1 := by kernel_rfl
theorem by95 : bytesA Tryd.prog 95 = some 16 := by kernel_rfl
theorem ze95 : zeroA Tryd.prog 95 = some [.c (.string ⟨#[]⟩)] := by kernel_rfl
theorem of95_0 : offA Tryd.prog 95 0 = some (0, 9) := by kernel_rfl
theorem pl95 : placesA Tryd.prog 95 = some [(0, 1)] := by kernel_rfl
theorem eq95 : eqTA Tryd.prog 95 = some [(9, 0)] := by kernel_rfl
theorem ag96 : aggA Tryd.prog 96 = some true := by kernel_rfl
theorem sz96 : sizeA Tryd.prog 96 = some 1 := by kernel_rfl
theorem by96 : bytesA Tryd.prog 96 = some 16 := by kernel_rfl
theorem ze96 : zeroA Tryd.prog 96 = some [.c (.string ⟨#[]⟩)] := by kernel_rfl
theorem of96_0 : offA Tryd.prog 96 0 = some (0, 9) := by kernel_rfl
theorem pl96 : placesA Tryd.prog 96 = some [(0, 1)] := by kernel_rfl
theorem eq96 : eqTA Tryd.prog 96 = some [(9, 0)] := by kernel_rfl
theorem ag101 : aggA Tryd.prog 101 = some true := by kernel_rfl
theorem sz101 : sizeA Tryd.prog 101 = some 4 := by kernel_rfl
theorem by101 : bytesA Tryd.prog 101 = some 40 := by kernel_rfl
theorem of101_0 : offA Tryd.prog 101 0 = some (0, 17) := by kernel_rfl
theorem of101_1 : offA Tryd.prog 101 1 = some (1, 17) := by kernel_rfl
theorem of101_2 : offA Tryd.prog 101 2 = some (2, 17) := by kernel_rfl
theorem of101_3 : offA Tryd.prog 101 3 = some (3, 9) := by kernel_rfl
theorem pl101 : placesA Tryd.prog 101 = some [(0, 1), (1, 1), (2, 1), (3, 1)] := by kernel_rfl
theorem ag102 : aggA Tryd.prog 102 = some true := by kernel_rfl
theorem sz102 : sizeA Tryd.prog 102 = some 4 := by kernel_rfl
theorem by102 : bytesA Tryd.prog 102 = some 40 := by kernel_rfl
theorem of102_0 : offA Tryd.prog 102 0 = some (0, 17) := by kernel_rfl
theorem of102_1 : offA Tryd.prog 102 1 = some (1, 17) := by kernel_rfl
theorem of102_2 : offA Tryd.prog 102 2 = some (2, 17) := by kernel_rfl
theorem of102_3 : offA Tryd.prog 102 3 = some (3, 9) := by kernel_rfl
theorem pl102 : placesA Tryd.prog 102 = some [(0, 1), (1, 1), (2, 1), (3, 1)] := by kernel_rfl
theorem ag107 : aggA Tryd.prog 107 = some false := by kernel_rfl
theorem sz107 : sizeA Tryd.prog 107 = some 1 := by kernel_rfl
theorem by107 : bytesA Tryd.prog 107 = some 1 := by kernel_rfl
theorem ze107 : zeroA Tryd.prog 107 = some [.c (.int .u8 0)] := by kernel_rfl
theorem el107 : elemA Tryd.prog 107 = none := by kernel_rfl
theorem st107 : strA Tryd.prog 107 = false := by kernel_rfl
theorem ki107 : kindA Tryd.prog 107 = some .u8 := by kernel_rfl
theorem us107 : (Tryd.prog.underlying 107).isSome = true := by kernel_rfl
theorem ag108 : aggA Tryd.prog 108 = some false := by kernel_rfl
theorem sz108 : sizeA Tryd.prog 108 = some 1 := by kernel_rfl
theorem by108 : bytesA Tryd.prog 108 = some 1 := by kernel_rfl
theorem ze108 : zeroA Tryd.prog 108 = some [.c (.int .u8 0)] := by kernel_rfl
theorem el108 : elemA Tryd.prog 108 = none := by kernel_rfl
theorem st108 : strA Tryd.prog 108 = false := by kernel_rfl
theorem ki108 : kindA Tryd.prog 108 = some .u8 := by kernel_rfl
theorem us108 : (Tryd.prog.underlying 108).isSome = true := by kernel_rfl
theorem ag110 : aggA Tryd.prog 110 = some false := by kernel_rfl
theorem sz110 : sizeA Tryd.prog 110 = some 1 := by kernel_rfl
theorem by110 : bytesA Tryd.prog 110 = some 4 := by kernel_rfl
theorem ze110 : zeroA Tryd.prog 110 = some [.c (.int .i32 0)] := by kernel_rfl
theorem el110 : elemA Tryd.prog 110 = none := by kernel_rfl
theorem st110 : strA Tryd.prog 110 = false := by kernel_rfl
theorem ki110 : kindA Tryd.prog 110 = some .i32 := by kernel_rfl
theorem us110 : (Tryd.prog.underlying 110).isSome = true := by kernel_rfl
theorem ag111 : aggA Tryd.prog 111 = some false := by kernel_rfl
theorem sz111 : sizeA Tryd.prog 111 = some 1 := by kernel_rfl
theorem by111 : bytesA Tryd.prog 111 = some 4 := by kernel_rfl
theorem ze111 : zeroA Tryd.prog 111 = some [.c (.int .i32 0)] := by kernel_rfl
theorem el111 : elemA Tryd.prog 111 = none := by kernel_rfl
theorem st111 : strA Tryd.prog 111 = false := by kernel_rfl
theorem ki111 : kindA Tryd.prog 111 = some .i32 := by kernel_rfl
theorem us111 : (Tryd.prog.underlying 111).isSome = true := by kernel_rfl
theorem ag112 : aggA Tryd.prog 112 = some true := by kernel_rfl
theorem sz112 : sizeA Tryd.prog 112 = some 11 := by kernel_rfl
theorem by112 : bytesA Tryd.prog 112 = some 48 := by kernel_rfl
theorem of112_0 : offA Tryd.prog 112 0 = some (0, 12) := by kernel_rfl
theorem of112_1 : offA Tryd.prog 112 1 = some (1, 12) := by kernel_rfl
theorem of112_2 : offA Tryd.prog 112 2 = some (2, 89) := by kernel_rfl
theorem of112_3 : offA Tryd.prog 112 3 = some (3, 107) := by kernel_rfl
theorem of112_4 : offA Tryd.prog 112 4 = some (4, 5) := by kernel_rfl
theorem of112_5 : offA Tryd.prog 112 5 = some (5, 5) := by kernel_rfl
theorem of112_6 : offA Tryd.prog 112 6 = some (6, 108) := by kernel_rfl
theorem of112_7 : offA Tryd.prog 112 7 = some (7, 109) := by kernel_rfl
theorem of112_8 : offA Tryd.prog 112 8 = some (8, 93) := by kernel_rfl
theorem of112_9 : offA Tryd.prog 112 9 = some (9, 110) := by kernel_rfl
theorem of112_10 : offA Tryd.prog 112 10 = some (10, 111) := by kernel_rfl
theorem pl112 : placesA Tryd.prog 112 = some [(0, 1), (1, 1), (2, 1), (3, 1), (4, 1), (5, 1), (6, 1), (7, 1), (8, 1), (9, 1), (10, 1)] := by kernel_rfl
theorem ag113 : aggA Tryd.prog 113 = some true := by kernel_rfl
theorem sz113 : sizeA Tryd.prog 113 = some 11 := by kernel_rfl
theorem by113 : bytesA Tryd.prog 113 = some 48 := by kernel_rfl
theorem of113_0 : offA Tryd.prog 113 0 = some (0, 12) := by kernel_rfl
theorem of113_1 : offA Tryd.prog 113 1 = some (1, 12) := by kernel_rfl
theorem of113_2 : offA Tryd.prog 113 2 = some (2, 89) := by kernel_rfl
theorem of113_3 : offA Tryd.prog 113 3 = some (3, 107) := by kernel_rfl
theorem of113_4 : offA Tryd.prog 113 4 = some (4, 5) := by kernel_rfl
theorem of113_5 : offA Tryd.prog 113 5 = some (5, 5) := by kernel_rfl
theorem of113_6 : offA Tryd.prog 113 6 = some (6, 108) := by kernel_rfl
theorem of113_7 : offA Tryd.prog 113 7 = some (7, 109) := by kernel_rfl
theorem of113_8 : offA Tryd.prog 113 8 = some (8, 93) := by kernel_rfl
theorem of113_9 : offA Tryd.prog 113 9 = some (9, 110) := by kernel_rfl
theorem of113_10 : offA Tryd.prog 113 10 = some (10, 111) := by kernel_rfl
theorem pl113 : placesA Tryd.prog 113 = some [(0, 1), (1, 1), (2, 1), (3, 1), (4, 1), (5, 1), (6, 1), (7, 1), (8, 1), (9, 1), (10, 1)] := by kernel_rfl
attribute [go_sem] ag2 sz2 by2 ze2 el2 st2 ki2 us2 ag3 sz3 by3 ze3 el3 st3 ki3 us3 ag4 sz4 by4 ze4 bo4 ag5 sz5 by5 ze5 el5 st5 ki5 us5 ag6 sz6 by6 ze6 el6 st6 ki6 us6 ag7 sz7 by7 ze7 of7_0 of7_1 of7_2 of7_3 pl7 eq7 ag8 sz8 by8 ze8 of8_0 of8_1 of8_2 of8_3 pl8 eq8 ag9 sz9 by9 ze9 el9 st9 ag10 sz10 by10 ze10 el10 st10 ag11 sz11 by11 ze11 el11 st11 ag12 sz12 by12 ze12 el12 st12 ki12 us12 ag13 sz13 by13 ze13 of13_0 of13_1 pl13 ag14 sz14 by14 ze14 of14_0 of14_1 pl14 ag15 sz15 by15 ag16 sz16 by16 ag17 sz17 by17 ag18 sz18 by18 of18_0 pl18 ag19 sz19 by19 of19_0 pl19 ag21 sz21 by21 ze21 el21 st21 ki21 us21 ag24 sz24 by24 ze24 el24 st24 ag25 sz25 by25 ze25 of25_0 of25_1 pl25 ag26 sz26 by26 ze26 of26_0 of26_1 pl26 ag30 sz30 by30 ze30 of30_0 of30_1 pl30 ag37 sz37 by37 ze37 el37 st37 ag44 sz44 by44 ze44 el44 st44 ag53 sz53 by53 ag62 sz62 by62 ze62 of62_0 of62_1 of62_2 pl62 ag63 sz63 by63 ze63 of63_0 of63_1 of63_2 pl63 ag67 sz67 by67 ze67 el67 st67 ki67 us67 ag70 sz70 by70 ag74 sz74 by74 ze74 el74 st74 ki74 us74 ag76 sz76 by76 ze76 el76 st76 ki76 us76 ag89 sz89 by89 ze89 el89 st89 ki89 us89 ag93 sz93 by93 ag94 sz94 by94 ag95 sz95 by95 ze95 of95_0 pl95 eq95 ag96 sz96 by96 ze96 of96_0 pl96 eq96 ag101 sz101 by101 of101_0 of101_1 of101_2 of101_3 pl101 ag102 sz102 by102 of102_0 of102_1 of102_2 of102_3 pl102 ag107 sz107 by107 ze107 el107 st107 ki107 us107 ag108 sz108 by108 ze108 el108 st108 ki108 us108 ag110 sz110 by110 ze110 el110 st110 ki110 us110 ag111 sz111 by111 ze111 el111 st111 ki111 us111 ag112 sz112 by112 of112_0 of112_1 of112_2 of112_3 of112_4 of112_5 of112_6 of112_7 of112_8 of112_9 of112_10 pl112 ag113 sz113 by113 of113_0 of113_1 of113_2 of113_3 of113_4 of113_5 of113_6 of113_7 of113_8 of113_9 of113_10 pl113
end Go.Proofs.YtaahlnjldenhpaaDoor
