/- What the program says of its types. Conditions: none; printed by a program, checked by Lean. -/
import Derived.Test.YtaahlnjldenhpaaL2
import Derived.Test.YtaahlnjldenhpaaProg
namespace Go.Proofs.Ytaahlnjldenhpaa
open Go.BL
theorem ag2 : aggA Try.prog 2 = some false := by kernel_rfl
theorem sz2 : sizeA Try.prog 2 = some 1 := by kernel_rfl
theorem by2 : bytesA Try.prog 2 = some 8 := by kernel_rfl
theorem ze2 : zeroA Try.prog 2 = some [.c (.int .i64 0)] := by kernel_rfl
theorem el2 : elemA Try.prog 2 = none := by kernel_rfl
theorem st2 : strA Try.prog 2 = false := by kernel_rfl
theorem ki2 : kindA Try.prog 2 = some .i64 := by kernel_rfl
theorem us2 : (Try.prog.underlying 2).isSome = true := by kernel_rfl
theorem ag3 : aggA Try.prog 3 = some false := by kernel_rfl
theorem sz3 : sizeA Try.prog 3 = some 1 := by kernel_rfl
theorem by3 : bytesA Try.prog 3 = some 8 := by kernel_rfl
theorem ze3 : zeroA Try.prog 3 = some [.c (.int .i64 0)] := by kernel_rfl
theorem el3 : elemA Try.prog 3 = none := by kernel_rfl
theorem st3 : strA Try.prog 3 = false := by kernel_rfl
theorem ki3 : kindA Try.prog 3 = some .i64 := by kernel_rfl
theorem us3 : (Try.prog.underlying 3).isSome = true := by kernel_rfl
theorem ag4 : aggA Try.prog 4 = some false := by kernel_rfl
theorem sz4 : sizeA Try.prog 4 = some 1 := by kernel_rfl
theorem by4 : bytesA Try.prog 4 = some 1 := by kernel_rfl
theorem ze4 : zeroA Try.prog 4 = some [.c (.bool false)] := by kernel_rfl
theorem bo4 : boolA Try.prog 4 = true := by kernel_rfl
theorem ag5 : aggA Try.prog 5 = some false := by kernel_rfl
theorem sz5 : sizeA Try.prog 5 = some 1 := by kernel_rfl
theorem by5 : bytesA Try.prog 5 = some 1 := by kernel_rfl
theorem ze5 : zeroA Try.prog 5 = some [.c (.int .u8 0)] := by kernel_rfl
theorem el5 : elemA Try.prog 5 = none := by kernel_rfl
theorem st5 : strA Try.prog 5 = false := by kernel_rfl
theorem ki5 : kindA Try.prog 5 = some .u8 := by kernel_rfl
theorem us5 : (Try.prog.underlying 5).isSome = true := by kernel_rfl
theorem ag6 : aggA Try.prog 6 = some false := by kernel_rfl
theorem sz6 : sizeA Try.prog 6 = some 1 := by kernel_rfl
theorem by6 : bytesA Try.prog 6 = some 1 := by kernel_rfl
theorem ze6 : zeroA Try.prog 6 = some [.c (.int .u8 0)] := by kernel_rfl
theorem el6 : elemA Try.prog 6 = none := by kernel_rfl
theorem st6 : strA Try.prog 6 = false := by kernel_rfl
theorem ki6 : kindA Try.prog 6 = some .u8 := by kernel_rfl
theorem us6 : (Try.prog.underlying 6).isSome = true := by kernel_rfl
theorem ag7 : aggA Try.prog 7 = some true := by kernel_rfl
theorem sz7 : sizeA Try.prog 7 = some 4 := by kernel_rfl
theorem by7 : bytesA Try.prog 7 = some 24 := by kernel_rfl
theorem ze7 : zeroA Try.prog 7 = some [.c (.int .i64 0), .c (.int .i64 0), .c (.bool false), .c (.int .u8 0)] := by kernel_rfl
theorem of7_0 : offA Try.prog 7 0 = some (0, 2) := by kernel_rfl
theorem of7_1 : offA Try.prog 7 1 = some (1, 3) := by kernel_rfl
theorem of7_2 : offA Try.prog 7 2 = some (2, 4) := by kernel_rfl
theorem of7_3 : offA Try.prog 7 3 = some (3, 6) := by kernel_rfl
theorem pl7 : placesA Try.prog 7 = some [(0, 1), (1, 1), (2, 1), (3, 1)] := by kernel_rfl
theorem eq7 : eqTA Try.prog 7 = some [(2, 0), (3, 1), (4, 2), (6, 3)] := by kernel_rfl
theorem ag8 : aggA Try.prog 8 = some true := by kernel_rfl
theorem sz8 : sizeA Try.prog 8 = some 4 := by kernel_rfl
theorem by8 : bytesA Try.prog 8 = some 24 := by kernel_rfl
theorem ze8 : zeroA Try.prog 8 = some [.c (.int .i64 0), .c (.int .i64 0), .c (.bool false), .c (.int .u8 0)] := by kernel_rfl
theorem of8_0 : offA Try.prog 8 0 = some (0, 2) := by kernel_rfl
theorem of8_1 : offA Try.prog 8 1 = some (1, 3) := by kernel_rfl
theorem of8_2 : offA Try.prog 8 2 = some (2, 4) := by kernel_rfl
theorem of8_3 : offA Try.prog 8 3 = some (3, 6) := by kernel_rfl
theorem pl8 : placesA Try.prog 8 = some [(0, 1), (1, 1), (2, 1), (3, 1)] := by kernel_rfl
theorem eq8 : eqTA Try.prog 8 = some [(2, 0), (3, 1), (4, 2), (6, 3)] := by kernel_rfl
theorem ag9 : aggA Try.prog 9 = some false := by kernel_rfl
theorem sz9 : sizeA Try.prog 9 = some 1 := by kernel_rfl
theorem by9 : bytesA Try.prog 9 = some 16 := by kernel_rfl
theorem ze9 : zeroA Try.prog 9 = some [.c (.string ⟨#[]⟩)] := by kernel_rfl
theorem el9 : elemA Try.prog 9 = none := by kernel_rfl
theorem st9 : strA Try.prog 9 = true := by kernel_rfl
theorem ag10 : aggA Try.prog 10 = some false := by kernel_rfl
theorem sz10 : sizeA Try.prog 10 = some 1 := by kernel_rfl
theorem by10 : bytesA Try.prog 10 = some 16 := by kernel_rfl
theorem ze10 : zeroA Try.prog 10 = some [.c (.string ⟨#[]⟩)] := by kernel_rfl
theorem el10 : elemA Try.prog 10 = none := by kernel_rfl
theorem st10 : strA Try.prog 10 = true := by kernel_rfl
theorem ag11 : aggA Try.prog 11 = some false := by kernel_rfl
theorem sz11 : sizeA Try.prog 11 = some 1 := by kernel_rfl
theorem by11 : bytesA Try.prog 11 = some 16 := by kernel_rfl
theorem ze11 : zeroA Try.prog 11 = some [.c (.string ⟨#[]⟩)] := by kernel_rfl
theorem el11 : elemA Try.prog 11 = none := by kernel_rfl
theorem st11 : strA Try.prog 11 = true := by kernel_rfl
theorem ag12 : aggA Try.prog 12 = some false := by kernel_rfl
theorem sz12 : sizeA Try.prog 12 = some 1 := by kernel_rfl
theorem by12 : bytesA Try.prog 12 = some 8 := by kernel_rfl
theorem ze12 : zeroA Try.prog 12 = some [.c (.int .u64 0)] := by kernel_rfl
theorem el12 : elemA Try.prog 12 = none := by kernel_rfl
theorem st12 : strA Try.prog 12 = false := by kernel_rfl
theorem ki12 : kindA Try.prog 12 = some .u64 := by kernel_rfl
theorem us12 : (Try.prog.underlying 12).isSome = true := by kernel_rfl
theorem ag13 : aggA Try.prog 13 = some true := by kernel_rfl
theorem sz13 : sizeA Try.prog 13 = some 2 := by kernel_rfl
theorem by13 : bytesA Try.prog 13 = some 24 := by kernel_rfl
theorem ze13 : zeroA Try.prog 13 = some [.c (.string ⟨#[]⟩), .c (.int .u64 0)] := by kernel_rfl
theorem of13_0 : offA Try.prog 13 0 = some (0, 9) := by kernel_rfl
theorem of13_1 : offA Try.prog 13 1 = some (1, 12) := by kernel_rfl
theorem pl13 : placesA Try.prog 13 = some [(0, 1), (1, 1)] := by kernel_rfl
theorem ag14 : aggA Try.prog 14 = some true := by kernel_rfl
theorem sz14 : sizeA Try.prog 14 = some 2 := by kernel_rfl
theorem by14 : bytesA Try.prog 14 = some 24 := by kernel_rfl
theorem ze14 : zeroA Try.prog 14 = some [.c (.string ⟨#[]⟩), .c (.int .u64 0)] := by kernel_rfl
theorem of14_0 : offA Try.prog 14 0 = some (0, 9) := by kernel_rfl
theorem of14_1 : offA Try.prog 14 1 = some (1, 12) := by kernel_rfl
theorem pl14 : placesA Try.prog 14 = some [(0, 1), (1, 1)] := by kernel_rfl
theorem ag15 : aggA Try.prog 15 = some false := by kernel_rfl
theorem sz15 : sizeA Try.prog 15 = some 1 := by kernel_rfl
theorem by15 : bytesA Try.prog 15 = some 8 := by kernel_rfl
theorem ag16 : aggA Try.prog 16 = some false := by kernel_rfl
theorem sz16 : sizeA Try.prog 16 = some 1 := by kernel_rfl
theorem by16 : bytesA Try.prog 16 = some 8 := by kernel_rfl
theorem ag17 : aggA Try.prog 17 = some false := by kernel_rfl
theorem sz17 : sizeA Try.prog 17 = some 1 := by kernel_rfl
theorem by17 : bytesA Try.prog 17 = some 8 := by kernel_rfl
theorem ag18 : aggA Try.prog 18 = some true := by kernel_rfl
theorem sz18 : sizeA Try.prog 18 = some 1 := by kernel_rfl
theorem by18 : bytesA Try.prog 18 = some 8 := by kernel_rfl
theorem of18_0 : offA Try.prog 18 0 = some (0, 17) := by kernel_rfl
theorem pl18 : placesA Try.prog 18 = some [(0, 1)] := by kernel_rfl
theorem ag19 : aggA Try.prog 19 = some true := by kernel_rfl
theorem sz19 : sizeA Try.prog 19 = some 1 := by kernel_rfl
theorem by19 : bytesA Try.prog 19 = some 8 := by kernel_rfl
theorem of19_0 : offA Try.prog 19 0 = some (0, 17) := by kernel_rfl
theorem pl19 : placesA Try.prog 19 = some [(0, 1)] := by kernel_rfl
theorem ag21 : aggA Try.prog 21 = some false := by kernel_rfl
theorem sz21 : sizeA Try.prog 21 = some 1 := by kernel_rfl
theorem by21 : bytesA Try.prog 21 = some 4 := by kernel_rfl
theorem ze21 : zeroA Try.prog 21 = some [.c (.int .i32 0)] := by kernel_rfl
theorem el21 : elemA Try.prog 21 = none := by kernel_rfl
theorem st21 : strA Try.prog 21 = false := by kernel_rfl
theorem ki21 : kindA Try.prog 21 = some .i32 := by kernel_rfl
theorem us21 : (Try.prog.underlying 21).isSome = true := by kernel_rfl
theorem ag22 : aggA Try.prog 22 = some false := by kernel_rfl
theorem sz22 : sizeA Try.prog 22 = some 1 := by kernel_rfl
theorem by22 : bytesA Try.prog 22 = some 24 := by kernel_rfl
theorem ze22 : zeroA Try.prog 22 = some [.nl] := by kernel_rfl
theorem el22 : elemA Try.prog 22 = some 5 := by kernel_rfl
theorem st22 : strA Try.prog 22 = false := by kernel_rfl
theorem ag24 : aggA Try.prog 24 = some false := by kernel_rfl
theorem sz24 : sizeA Try.prog 24 = some 1 := by kernel_rfl
theorem by24 : bytesA Try.prog 24 = some 24 := by kernel_rfl
theorem ze24 : zeroA Try.prog 24 = some [.nl] := by kernel_rfl
theorem el24 : elemA Try.prog 24 = some 55 := by kernel_rfl
theorem st24 : strA Try.prog 24 = false := by kernel_rfl
theorem ag25 : aggA Try.prog 25 = some true := by kernel_rfl
theorem sz25 : sizeA Try.prog 25 = some 2 := by kernel_rfl
theorem by25 : bytesA Try.prog 25 = some 32 := by kernel_rfl
theorem ze25 : zeroA Try.prog 25 = some [.c (.int .i64 0), .nl] := by kernel_rfl
theorem of25_0 : offA Try.prog 25 0 = some (0, 3) := by kernel_rfl
theorem of25_1 : offA Try.prog 25 1 = some (1, 24) := by kernel_rfl
theorem pl25 : placesA Try.prog 25 = some [(0, 1), (1, 1)] := by kernel_rfl
theorem ag26 : aggA Try.prog 26 = some true := by kernel_rfl
theorem sz26 : sizeA Try.prog 26 = some 2 := by kernel_rfl
theorem by26 : bytesA Try.prog 26 = some 32 := by kernel_rfl
theorem ze26 : zeroA Try.prog 26 = some [.c (.int .i64 0), .nl] := by kernel_rfl
theorem of26_0 : offA Try.prog 26 0 = some (0, 3) := by kernel_rfl
theorem of26_1 : offA Try.prog 26 1 = some (1, 24) := by kernel_rfl
theorem pl26 : placesA Try.prog 26 = some [(0, 1), (1, 1)] := by kernel_rfl
theorem ag27 : aggA Try.prog 27 = some false := by kernel_rfl
theorem sz27 : sizeA Try.prog 27 = some 1 := by kernel_rfl
theorem by27 : bytesA Try.prog 27 = some 24 := by kernel_rfl
theorem ze27 : zeroA Try.prog 27 = some [.nl] := by kernel_rfl
theorem el27 : elemA Try.prog 27 = some 3 := by kernel_rfl
theorem st27 : strA Try.prog 27 = false := by kernel_rfl
theorem ag41 : aggA Try.prog 41 = some false := by kernel_rfl
theorem sz41 : sizeA Try.prog 41 = some 1 := by kernel_rfl
theorem by41 : bytesA Try.prog 41 = some 24 := by kernel_rfl
theorem ze41 : zeroA Try.prog 41 = some [.nl] := by kernel_rfl
theorem el41 : elemA Try.prog 41 = some 9 := by kernel_rfl
theorem st41 : strA Try.prog 41 = false := by kernel_rfl
theorem ag46 : aggA Try.prog 46 = some false := by kernel_rfl
theorem sz46 : sizeA Try.prog 46 = some 1 := by kernel_rfl
theorem by46 : bytesA Try.prog 46 = some 8 := by kernel_rfl
theorem ag54 : aggA Try.prog 54 = some true := by kernel_rfl
theorem sz54 : sizeA Try.prog 54 = some 3 := by kernel_rfl
theorem by54 : bytesA Try.prog 54 = some 40 := by kernel_rfl
theorem ze54 : zeroA Try.prog 54 = some [.c (.int .i64 0), .c (.string ⟨#[]⟩), .c (.string ⟨#[]⟩)] := by kernel_rfl
theorem of54_0 : offA Try.prog 54 0 = some (0, 3) := by kernel_rfl
theorem of54_1 : offA Try.prog 54 1 = some (1, 9) := by kernel_rfl
theorem of54_2 : offA Try.prog 54 2 = some (2, 9) := by kernel_rfl
theorem pl54 : placesA Try.prog 54 = some [(0, 1), (1, 1), (2, 1)] := by kernel_rfl
theorem eq54 : eqTA Try.prog 54 = some [(3, 0), (9, 1), (9, 2)] := by kernel_rfl
theorem ag55 : aggA Try.prog 55 = some true := by kernel_rfl
theorem sz55 : sizeA Try.prog 55 = some 3 := by kernel_rfl
theorem by55 : bytesA Try.prog 55 = some 40 := by kernel_rfl
theorem ze55 : zeroA Try.prog 55 = some [.c (.int .i64 0), .c (.string ⟨#[]⟩), .c (.string ⟨#[]⟩)] := by kernel_rfl
theorem of55_0 : offA Try.prog 55 0 = some (0, 3) := by kernel_rfl
theorem of55_1 : offA Try.prog 55 1 = some (1, 9) := by kernel_rfl
theorem of55_2 : offA Try.prog 55 2 = some (2, 9) := by kernel_rfl
theorem pl55 : placesA Try.prog 55 = some [(0, 1), (1, 1), (2, 1)] := by kernel_rfl
theorem eq55 : eqTA Try.prog 55 = some [(3, 0), (9, 1), (9, 2)] := by kernel_rfl
theorem ag67 : aggA Try.prog 67 = some true := by kernel_rfl
theorem sz67 : sizeA Try.prog 67 = some 3 := by kernel_rfl
theorem by67 : bytesA Try.prog 67 = some 40 := by kernel_rfl
theorem ze67 : zeroA Try.prog 67 = some [.nl, .c (.int .i64 0), .c (.int .i64 0)] := by kernel_rfl
theorem of67_0 : offA Try.prog 67 0 = some (0, 22) := by kernel_rfl
theorem of67_1 : offA Try.prog 67 1 = some (1, 3) := by kernel_rfl
theorem of67_2 : offA Try.prog 67 2 = some (2, 3) := by kernel_rfl
theorem pl67 : placesA Try.prog 67 = some [(0, 1), (1, 1), (2, 1)] := by kernel_rfl
theorem ag68 : aggA Try.prog 68 = some true := by kernel_rfl
theorem sz68 : sizeA Try.prog 68 = some 3 := by kernel_rfl
theorem by68 : bytesA Try.prog 68 = some 40 := by kernel_rfl
theorem ze68 : zeroA Try.prog 68 = some [.nl, .c (.int .i64 0), .c (.int .i64 0)] := by kernel_rfl
theorem of68_0 : offA Try.prog 68 0 = some (0, 22) := by kernel_rfl
theorem of68_1 : offA Try.prog 68 1 = some (1, 3) := by kernel_rfl
theorem of68_2 : offA Try.prog 68 2 = some (2, 3) := by kernel_rfl
theorem pl68 : placesA Try.prog 68 = some [(0, 1), (1, 1), (2, 1)] := by kernel_rfl
theorem ag86 : aggA Try.prog 86 = some false := by kernel_rfl
theorem sz86 : sizeA Try.prog 86 = some 1 := by kernel_rfl
theorem by86 : bytesA Try.prog 86 = some 8 := by kernel_rfl
theorem ze86 : zeroA Try.prog 86 = some [.c (.int .u64 0)] := by kernel_rfl
theorem el86 : elemA Try.prog 86 = none := by kernel_rfl
theorem st86 : strA Try.prog 86 = false := by kernel_rfl
theorem ki86 : kindA Try.prog 86 = some .u64 := by kernel_rfl
theorem us86 : (Try.prog.underlying 86).isSome = true := by kernel_rfl
theorem ag88 : aggA Try.prog 88 = some false := by kernel_rfl
theorem sz88 : sizeA Try.prog 88 = some 1 := by kernel_rfl
theorem by88 : bytesA Try.prog 88 = some 24 := by kernel_rfl
theorem ze88 : zeroA Try.prog 88 = some [.nl] := by kernel_rfl
theorem el88 : elemA Try.prog 88 = some 22 := by kernel_rfl
theorem st88 : strA Try.prog 88 = false := by kernel_rfl
theorem ag90 : aggA Try.prog 90 = some false := by kernel_rfl
theorem sz90 : sizeA Try.prog 90 = some 1 := by kernel_rfl
theorem by90 : bytesA Try.prog 90 = some 8 := by kernel_rfl
theorem ag96 : aggA Try.prog 96 = some true := by kernel_rfl
theorem sz96 : sizeA Try.prog 96 = some 4 := by kernel_rfl
theorem by96 : bytesA Try.prog 96 = some 40 := by kernel_rfl
theorem of96_0 : offA Try.prog 96 0 = some (0, 17) := by kernel_rfl
theorem of96_1 : offA Try.prog 96 1 = some (1, 17) := by kernel_rfl
theorem of96_2 : offA Try.prog 96 2 = some (2, 17) := by kernel_rfl
theorem of96_3 : offA Try.prog 96 3 = some (3, 9) := by kernel_rfl
theorem pl96 : placesA Try.prog 96 = some [(0, 1), (1, 1), (2, 1), (3, 1)] := by kernel_rfl
theorem ag97 : aggA Try.prog 97 = some true := by kernel_rfl
theorem sz97 : sizeA Try.prog 97 = some 4 := by kernel_rfl
theorem by97 : bytesA Try.prog 97 = some 40 := by kernel_rfl
theorem of97_0 : offA Try.prog 97 0 = some (0, 17) := by kernel_rfl
theorem of97_1 : offA Try.prog 97 1 = some (1, 17) := by kernel_rfl
theorem of97_2 : offA Try.prog 97 2 = some (2, 17) := by kernel_rfl
theorem of97_3 : offA Try.prog 97 3 = some (3, 9) := by kernel_rfl
theorem pl97 : placesA Try.prog 97 = some [(0, 1), (1, 1), (2, 1), (3, 1)] := by kernel_rfl
theorem ag102 : aggA Try.prog 102 = some false := by kernel_rfl
theorem sz102 : sizeA Try.prog 102 = some 1 := by kernel_rfl
theorem by102 : bytesA Try.prog 102 = some 4 := by kernel_rfl
theorem ze102 : zeroA Try.prog 102 = some [.c (.int .u32 0)] := by kernel_rfl
theorem el102 : elemA Try.prog 102 = none := by kernel_rfl
theorem st102 : strA Try.prog 102 = false := by kernel_rfl
theorem ki102 : kindA Try.prog 102 = some .u32 := by kernel_rfl
theorem us102 : (Try.prog.underlying 102).isSome = true := by kernel_rfl
theorem ag103 : aggA Try.prog 103 = some false := by kernel_rfl
theorem sz103 : sizeA Try.prog 103 = some 1 := by kernel_rfl
theorem by103 : bytesA Try.prog 103 = some 1 := by kernel_rfl
theorem ze103 : zeroA Try.prog 103 = some [.c (.int .u8 0)] := by kernel_rfl
theorem el103 : elemA Try.prog 103 = none := by kernel_rfl
theorem st103 : strA Try.prog 103 = false := by kernel_rfl
theorem ki103 : kindA Try.prog 103 = some .u8 := by kernel_rfl
theorem us103 : (Try.prog.underlying 103).isSome = true := by kernel_rfl
theorem ag104 : aggA Try.prog 104 = some false := by kernel_rfl
theorem sz104 : sizeA Try.prog 104 = some 1 := by kernel_rfl
theorem by104 : bytesA Try.prog 104 = some 1 := by kernel_rfl
theorem ze104 : zeroA Try.prog 104 = some [.c (.int .u8 0)] := by kernel_rfl
theorem el104 : elemA Try.prog 104 = none := by kernel_rfl
theorem st104 : strA Try.prog 104 = false := by kernel_rfl
theorem ki104 : kindA Try.prog 104 = some .u8 := by kernel_rfl
theorem us104 : (Try.prog.underlying 104).isSome = true := by kernel_rfl
theorem ag106 : aggA Try.prog 106 = some false := by kernel_rfl
theorem sz106 : sizeA Try.prog 106 = some 1 := by kernel_rfl
theorem by106 : bytesA Try.prog 106 = some 8 := by kernel_rfl
theorem ag107 : aggA Try.prog 107 = some false := by kernel_rfl
theorem sz107 : sizeA Try.prog 107 = some 1 := by kernel_rfl
theorem by107 : bytesA Try.prog 107 = some 4 := by kernel_rfl
theorem ze107 : zeroA Try.prog 107 = some [.c (.int .i32 0)] := by kernel_rfl
theorem el107 : elemA Try.prog 107 = none := by kernel_rfl
theorem st107 : strA Try.prog 107 = false := by kernel_rfl
theorem ki107 : kindA Try.prog 107 = some .i32 := by kernel_rfl
theorem us107 : (Try.prog.underlying 107).isSome = true := by kernel_rfl
theorem ag108 : aggA Try.prog 108 = some false := by kernel_rfl
theorem sz108 : sizeA Try.prog 108 = some 1 := by kernel_rfl
theorem by108 : bytesA Try.prog 108 = some 4 := by kernel_rfl
theorem ze108 : zeroA Try.prog 108 = some [.c (.int .i32 0)] := by kernel_rfl
theorem el108 : elemA Try.prog 108 = none := by kernel_rfl
theorem st108 : strA Try.prog 108 = false := by kernel_rfl
theorem ki108 : kindA Try.prog 108 = some .i32 := by kernel_rfl
theorem us108 : (Try.prog.underlying 108).isSome = true := by kernel_rfl
theorem ag109 : aggA Try.prog 109 = some true := by kernel_rfl
theorem sz109 : sizeA Try.prog 109 = some 11 := by kernel_rfl
theorem by109 : bytesA Try.prog 109 = some 48 := by kernel_rfl
theorem of109_0 : offA Try.prog 109 0 = some (0, 12) := by kernel_rfl
theorem of109_1 : offA Try.prog 109 1 = some (1, 12) := by kernel_rfl
theorem of109_2 : offA Try.prog 109 2 = some (2, 102) := by kernel_rfl
theorem of109_3 : offA Try.prog 109 3 = some (3, 103) := by kernel_rfl
theorem of109_4 : offA Try.prog 109 4 = some (4, 5) := by kernel_rfl
theorem of109_5 : offA Try.prog 109 5 = some (5, 5) := by kernel_rfl
theorem of109_6 : offA Try.prog 109 6 = some (6, 104) := by kernel_rfl
theorem of109_7 : offA Try.prog 109 7 = some (7, 105) := by kernel_rfl
theorem of109_8 : offA Try.prog 109 8 = some (8, 106) := by kernel_rfl
theorem of109_9 : offA Try.prog 109 9 = some (9, 107) := by kernel_rfl
theorem of109_10 : offA Try.prog 109 10 = some (10, 108) := by kernel_rfl
theorem pl109 : placesA Try.prog 109 = some [(0, 1), (1, 1), (2, 1), (3, 1), (4, 1), (5, 1), (6, 1), (7, 1), (8, 1), (9, 1), (10, 1)] := by kernel_rfl
theorem ag110 : aggA Try.prog 110 = some true := by kernel_rfl
theorem sz110 : sizeA Try.prog 110 = some 11 := by kernel_rfl
theorem by110 : bytesA Try.prog 110 = some 48 := by kernel_rfl
theorem of110_0 : offA Try.prog 110 0 = some (0, 12) := by kernel_rfl
theorem of110_1 : offA Try.prog 110 1 = some (1, 12) := by kernel_rfl
theorem of110_2 : offA Try.prog 110 2 = some (2, 102) := by kernel_rfl
theorem of110_3 : offA Try.prog 110 3 = some (3, 103) := by kernel_rfl
theorem of110_4 : offA Try.prog 110 4 = some (4, 5) := by kernel_rfl
theorem of110_5 : offA Try.prog 110 5 = some (5, 5) := by kernel_rfl
theorem of110_6 : offA Try.prog 110 6 = some (6, 104) := by kernel_rfl
theorem of110_7 : offA Try.prog 110 7 = some (7, 105) := by kernel_rfl
theorem of110_8 : offA Try.prog 110 8 = some (8, 106) := by kernel_rfl
theorem of110_9 : offA Try.prog 110 9 = some (9, 107) := by kernel_rfl
theorem of110_10 : offA Try.prog 110 10 = some (10, 108) := by kernel_rfl
theorem pl110 : placesA Try.prog 110 = some [(0, 1), (1, 1), (2, 1), (3, 1), (4, 1), (5, 1), (6, 1), (7, 1), (8, 1), (9, 1), (10, 1)] := by kernel_rfl
attribute [go_sem] ag2 sz2 by2 ze2 el2 st2 ki2 us2 ag3 sz3 by3 ze3 el3 st3 ki3 us3 ag4 sz4 by4 ze4 bo4 ag5 sz5 by5 ze5 el5 st5 ki5 us5 ag6 sz6 by6 ze6 el6 st6 ki6 us6 ag7 sz7 by7 ze7 of7_0 of7_1 of7_2 of7_3 pl7 eq7 ag8 sz8 by8 ze8 of8_0 of8_1 of8_2 of8_3 pl8 eq8 ag9 sz9 by9 ze9 el9 st9 ag10 sz10 by10 ze10 el10 st10 ag11 sz11 by11 ze11 el11 st11 ag12 sz12 by12 ze12 el12 st12 ki12 us12 ag13 sz13 by13 ze13 of13_0 of13_1 pl13 ag14 sz14 by14 ze14 of14_0 of14_1 pl14 ag15 sz15 by15 ag16 sz16 by16 ag17 sz17 by17 ag18 sz18 by18 of18_0 pl18 ag19 sz19 by19 of19_0 pl19 ag21 sz21 by21 ze21 el21 st21 ki21 us21 ag22 sz22 by22 ze22 el22 st22 ag24 sz24 by24 ze24 el24 st24 ag25 sz25 by25 ze25 of25_0 of25_1 pl25 ag26 sz26 by26 ze26 of26_0 of26_1 pl26 ag27 sz27 by27 ze27 el27 st27 ag41 sz41 by41 ze41 el41 st41 ag46 sz46 by46 ag54 sz54 by54 ze54 of54_0 of54_1 of54_2 pl54 eq54 ag55 sz55 by55 ze55 of55_0 of55_1 of55_2 pl55 eq55 ag67 sz67 by67 ze67 of67_0 of67_1 of67_2 pl67 ag68 sz68 by68 ze68 of68_0 of68_1 of68_2 pl68 ag86 sz86 by86 ze86 el86 st86 ki86 us86 ag88 sz88 by88 ze88 el88 st88 ag90 sz90 by90 ag96 sz96 by96 of96_0 of96_1 of96_2 of96_3 pl96 ag97 sz97 by97 of97_0 of97_1 of97_2 of97_3 pl97 ag102 sz102 by102 ze102 el102 st102 ki102 us102 ag103 sz103 by103 ze103 el103 st103 ki103 us103 ag104 sz104 by104 ze104 el104 st104 ki104 us104 ag106 sz106 by106 ag107 sz107 by107 ze107 el107 st107 ki107 us107 ag108 sz108 by108 ze108 el108 st108 ki108 us108 ag109 sz109 by109 of109_0 of109_1 of109_2 of109_3 of109_4 of109_5 of109_6 of109_7 of109_8 of109_9 of109_10 pl109 ag110 sz110 by110 of110_0 of110_1 of110_2 of110_3 of110_4 of110_5 of110_6 of110_7 of110_8 of110_9 of110_10 pl110
end Go.Proofs.Ytaahlnjldenhpaa
