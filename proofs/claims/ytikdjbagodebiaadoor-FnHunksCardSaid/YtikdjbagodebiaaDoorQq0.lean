/- The evaluator of the claim and what it says, part Qq0 (several texts in one). -/
import Derived.Test.YtikdjbagodebiaaDoorProg
import Derived.Test.YtikdjbagodebiaaDoorQm0
import Derived.KernelRfl
namespace Go.Qz
open Go.Proofs
@[simp] theorem ty_size2 : sizeT Tryd.prog 2 = some 1 := by kernel_rfl
@[simp] theorem ty_agg2 : isAggT Tryd.prog 2 = false := by kernel_rfl
@[simp] theorem ty_bld2 : builderT Tryd.prog 2 = none := by kernel_rfl
@[simp] theorem ty_zero2 : zeroA Tryd.prog 2 = some [.ro (.int .i64 0)] := by kernel_rfl
@[simp] theorem ty_size3 : sizeT Tryd.prog 3 = some 1 := by kernel_rfl
@[simp] theorem ty_agg3 : isAggT Tryd.prog 3 = false := by kernel_rfl
@[simp] theorem ty_bld3 : builderT Tryd.prog 3 = none := by kernel_rfl
@[simp] theorem ty_zero3 : zeroA Tryd.prog 3 = some [.ro (.int .i64 0)] := by kernel_rfl
@[simp] theorem ty_size4 : sizeT Tryd.prog 4 = some 1 := by kernel_rfl
@[simp] theorem ty_agg4 : isAggT Tryd.prog 4 = false := by kernel_rfl
@[simp] theorem ty_bld4 : builderT Tryd.prog 4 = none := by kernel_rfl
@[simp] theorem ty_zero4 : zeroA Tryd.prog 4 = some [.ro (.bool false)] := by kernel_rfl
@[simp] theorem ty_size5 : sizeT Tryd.prog 5 = some 1 := by kernel_rfl
@[simp] theorem ty_agg5 : isAggT Tryd.prog 5 = false := by kernel_rfl
@[simp] theorem ty_bld5 : builderT Tryd.prog 5 = none := by kernel_rfl
@[simp] theorem ty_zero5 : zeroA Tryd.prog 5 = some [.ro (.int .u8 0)] := by kernel_rfl
@[simp] theorem ty_size6 : sizeT Tryd.prog 6 = some 1 := by kernel_rfl
@[simp] theorem ty_agg6 : isAggT Tryd.prog 6 = false := by kernel_rfl
@[simp] theorem ty_bld6 : builderT Tryd.prog 6 = none := by kernel_rfl
@[simp] theorem ty_zero6 : zeroA Tryd.prog 6 = some [.ro (.int .u8 0)] := by kernel_rfl
@[simp] theorem ty_size7 : sizeT Tryd.prog 7 = some 4 := by kernel_rfl
@[simp] theorem ty_agg7 : isAggT Tryd.prog 7 = true := by kernel_rfl
@[simp] theorem ty_bld7 : builderT Tryd.prog 7 = none := by kernel_rfl
@[simp] theorem ty_f7_0 : fieldAt Tryd.prog 7 0 = some (0, 2) := by kernel_rfl
@[simp] theorem ty_f7_1 : fieldAt Tryd.prog 7 1 = some (1, 3) := by kernel_rfl
@[simp] theorem ty_f7_2 : fieldAt Tryd.prog 7 2 = some (2, 4) := by kernel_rfl
@[simp] theorem ty_f7_3 : fieldAt Tryd.prog 7 3 = some (3, 6) := by kernel_rfl
@[simp] theorem ty_pl7 : placesOk Tryd.prog 7 = true := by kernel_rfl
@[simp] theorem ty_zero7 : zeroA Tryd.prog 7 = some [.ro (.int .i64 0), .ro (.int .i64 0), .ro (.bool false), .ro (.int .u8 0)] := by kernel_rfl
@[simp] theorem ty_size8 : sizeT Tryd.prog 8 = some 4 := by kernel_rfl
@[simp] theorem ty_agg8 : isAggT Tryd.prog 8 = true := by kernel_rfl
@[simp] theorem ty_bld8 : builderT Tryd.prog 8 = none := by kernel_rfl
@[simp] theorem ty_f8_0 : fieldAt Tryd.prog 8 0 = some (0, 2) := by kernel_rfl
@[simp] theorem ty_f8_1 : fieldAt Tryd.prog 8 1 = some (1, 3) := by kernel_rfl
@[simp] theorem ty_f8_2 : fieldAt Tryd.prog 8 2 = some (2, 4) := by kernel_rfl
@[simp] theorem ty_f8_3 : fieldAt Tryd.prog 8 3 = some (3, 6) := by kernel_rfl
@[simp] theorem ty_pl8 : placesOk Tryd.prog 8 = true := by kernel_rfl
@[simp] theorem ty_zero8 : zeroA Tryd.prog 8 = some [.ro (.int .i64 0), .ro (.int .i64 0), .ro (.bool false), .ro (.int .u8 0)] := by kernel_rfl
@[simp] theorem ty_size9 : sizeT Tryd.prog 9 = some 1 := by kernel_rfl
@[simp] theorem ty_agg9 : isAggT Tryd.prog 9 = false := by kernel_rfl
@[simp] theorem ty_bld9 : builderT Tryd.prog 9 = none := by kernel_rfl
@[simp] theorem ty_zero9 : zeroA Tryd.prog 9 = some [.ro (.str ⟨#[]⟩)] := by kernel_rfl
@[simp] theorem ty_size10 : sizeT Tryd.prog 10 = some 1 := by kernel_rfl
@[simp] theorem ty_agg10 : isAggT Tryd.prog 10 = false := by kernel_rfl
@[simp] theorem ty_bld10 : builderT Tryd.prog 10 = none := by kernel_rfl
@[simp] theorem ty_zero10 : zeroA Tryd.prog 10 = some [.ro (.str ⟨#[]⟩)] := by kernel_rfl
@[simp] theorem ty_size11 : sizeT Tryd.prog 11 = some 1 := by kernel_rfl
@[simp] theorem ty_agg11 : isAggT Tryd.prog 11 = false := by kernel_rfl
@[simp] theorem ty_bld11 : builderT Tryd.prog 11 = none := by kernel_rfl
@[simp] theorem ty_zero11 : zeroA Tryd.prog 11 = some [.ro (.str ⟨#[]⟩)] := by kernel_rfl
@[simp] theorem ty_size12 : sizeT Tryd.prog 12 = some 1 := by kernel_rfl
@[simp] theorem ty_agg12 : isAggT Tryd.prog 12 = false := by kernel_rfl
@[simp] theorem ty_bld12 : builderT Tryd.prog 12 = none := by kernel_rfl
@[simp] theorem ty_zero12 : zeroA Tryd.prog 12 = some [.ro (.int .u64 0)] := by kernel_rfl
@[simp] theorem ty_size13 : sizeT Tryd.prog 13 = some 2 := by kernel_rfl
@[simp] theorem ty_agg13 : isAggT Tryd.prog 13 = true := by kernel_rfl
@[simp] theorem ty_bld13 : builderT Tryd.prog 13 = none := by kernel_rfl
@[simp] theorem ty_f13_0 : fieldAt Tryd.prog 13 0 = some (0, 9) := by kernel_rfl
@[simp] theorem ty_f13_1 : fieldAt Tryd.prog 13 1 = some (1, 12) := by kernel_rfl
@[simp] theorem ty_pl13 : placesOk Tryd.prog 13 = true := by kernel_rfl
@[simp] theorem ty_zero13 : zeroA Tryd.prog 13 = some [.ro (.str ⟨#[]⟩), .ro (.int .u64 0)] := by kernel_rfl
@[simp] theorem ty_size14 : sizeT Tryd.prog 14 = some 2 := by kernel_rfl
@[simp] theorem ty_agg14 : isAggT Tryd.prog 14 = true := by kernel_rfl
@[simp] theorem ty_bld14 : builderT Tryd.prog 14 = none := by kernel_rfl
@[simp] theorem ty_f14_0 : fieldAt Tryd.prog 14 0 = some (0, 9) := by kernel_rfl
@[simp] theorem ty_f14_1 : fieldAt Tryd.prog 14 1 = some (1, 12) := by kernel_rfl
@[simp] theorem ty_pl14 : placesOk Tryd.prog 14 = true := by kernel_rfl
@[simp] theorem ty_zero14 : zeroA Tryd.prog 14 = some [.ro (.str ⟨#[]⟩), .ro (.int .u64 0)] := by kernel_rfl
@[simp] theorem ty_size15 : sizeT Tryd.prog 15 = some 1 := by kernel_rfl
@[simp] theorem ty_agg15 : isAggT Tryd.prog 15 = false := by kernel_rfl
@[simp] theorem ty_bld15 : builderT Tryd.prog 15 = none := by kernel_rfl
@[simp] theorem ty_zero15 : zeroA Tryd.prog 15 = some [.ro (.nilp)] := by kernel_rfl
@[simp] theorem ty_size16 : sizeT Tryd.prog 16 = some 1 := by kernel_rfl
@[simp] theorem ty_agg16 : isAggT Tryd.prog 16 = false := by kernel_rfl
@[simp] theorem ty_bld16 : builderT Tryd.prog 16 = none := by kernel_rfl
@[simp] theorem ty_zero16 : zeroA Tryd.prog 16 = some [.ro (.nilp)] := by kernel_rfl
@[simp] theorem ty_size17 : sizeT Tryd.prog 17 = some 1 := by kernel_rfl
@[simp] theorem ty_agg17 : isAggT Tryd.prog 17 = false := by kernel_rfl
@[simp] theorem ty_bld17 : builderT Tryd.prog 17 = none := by kernel_rfl
@[simp] theorem ty_zero17 : zeroA Tryd.prog 17 = some [.ro (.nilp)] := by kernel_rfl
@[simp] theorem ty_size18 : sizeT Tryd.prog 18 = some 1 := by kernel_rfl
@[simp] theorem ty_agg18 : isAggT Tryd.prog 18 = true := by kernel_rfl
@[simp] theorem ty_bld18 : builderT Tryd.prog 18 = none := by kernel_rfl
@[simp] theorem ty_f18_0 : fieldAt Tryd.prog 18 0 = some (0, 17) := by kernel_rfl
@[simp] theorem ty_pl18 : placesOk Tryd.prog 18 = true := by kernel_rfl
@[simp] theorem ty_zero18 : zeroA Tryd.prog 18 = some [.ro (.nilp)] := by kernel_rfl
@[simp] theorem ty_size19 : sizeT Tryd.prog 19 = some 1 := by kernel_rfl
@[simp] theorem ty_agg19 : isAggT Tryd.prog 19 = true := by kernel_rfl
@[simp] theorem ty_bld19 : builderT Tryd.prog 19 = none := by kernel_rfl
@[simp] theorem ty_f19_0 : fieldAt Tryd.prog 19 0 = some (0, 17) := by kernel_rfl
@[simp] theorem ty_pl19 : placesOk Tryd.prog 19 = true := by kernel_rfl
@[simp] theorem ty_zero19 : zeroA Tryd.prog 19 = some [.ro (.nilp)] := by kernel_rfl
@[simp] theorem ty_size20 : sizeT Tryd.prog 20 = some 1 := by kernel_rfl
@[simp] theorem ty_agg20 : isAggT Tryd.prog 20 = false := by kernel_rfl
@[simp] theorem ty_bld20 : builderT Tryd.prog 20 = none := by kernel_rfl
@[simp] theorem ty_zero20 : zeroA Tryd.prog 20 = some [.ro (.nili)] := by kernel_rfl
@[simp] theorem ty_size21 : sizeT Tryd.prog 21 = some 1 := by kernel_rfl
@[simp] theorem ty_agg21 : isAggT Tryd.prog 21 = false := by kernel_rfl
@[simp] theorem ty_bld21 : builderT Tryd.prog 21 = none := by kernel_rfl
@[simp] theorem ty_zero21 : zeroA Tryd.prog 21 = some [.ro (.int .i32 0)] := by kernel_rfl
@[simp] theorem ty_size22 : sizeT Tryd.prog 22 = some 1 := by kernel_rfl
@[simp] theorem ty_agg22 : isAggT Tryd.prog 22 = false := by kernel_rfl
@[simp] theorem ty_bld22 : builderT Tryd.prog 22 = none := by kernel_rfl
@[simp] theorem ty_byte22 : byteT Tryd.prog 22 = some 5 := by kernel_rfl
@[simp] theorem ty_z22 : zOf Tryd.prog 22 = some 1 := by kernel_rfl
@[simp] theorem ty_elem22 : elemT Tryd.prog 5 = some 1 := by kernel_rfl
@[simp] theorem ty_zd22 : zeroD Tryd.prog 5 = some (.int .u8 0) := by kernel_rfl
@[simp] theorem ty_zero22 : zeroA Tryd.prog 22 = some [.own (.sl 1 [])] := by kernel_rfl
@[simp] theorem ty_size23 : sizeT Tryd.prog 23 = some 1 := by kernel_rfl
@[simp] theorem ty_agg23 : isAggT Tryd.prog 23 = false := by kernel_rfl
@[simp] theorem ty_bld23 : builderT Tryd.prog 23 = none := by kernel_rfl
@[simp] theorem ty_byte23 : byteT Tryd.prog 23 = none := by kernel_rfl
@[simp] theorem ty_z23 : zOf Tryd.prog 23 = some 2 := by kernel_rfl
@[simp] theorem ty_elem23 : elemT Tryd.prog 40 = some 2 := by kernel_rfl
@[simp] theorem ty_zd23 : zeroD Tryd.prog 40 = some (.agg [.int .i64 0, .sl 1 []]) := by kernel_rfl
@[simp] theorem ty_zero23 : zeroA Tryd.prog 23 = some [.own (.sl 2 [])] := by kernel_rfl
@[simp] theorem ty_size33 : sizeT Tryd.prog 33 = some 1 := by kernel_rfl
@[simp] theorem ty_agg33 : isAggT Tryd.prog 33 = false := by kernel_rfl
@[simp] theorem ty_bld33 : builderT Tryd.prog 33 = none := by kernel_rfl
@[simp] theorem ty_zero33 : zeroA Tryd.prog 33 = some [.ro (.nilp)] := by kernel_rfl
@[simp] theorem ty_size35 : sizeT Tryd.prog 35 = some 1 := by kernel_rfl
@[simp] theorem ty_agg35 : isAggT Tryd.prog 35 = false := by kernel_rfl
@[simp] theorem ty_bld35 : builderT Tryd.prog 35 = none := by kernel_rfl
@[simp] theorem ty_zero35 : zeroA Tryd.prog 35 = some [.ro (.nilp)] := by kernel_rfl
@[simp] theorem ty_size36 : sizeT Tryd.prog 36 = some 2 := by kernel_rfl
@[simp] theorem ty_agg36 : isAggT Tryd.prog 36 = true := by kernel_rfl
@[simp] theorem ty_bld36 : builderT Tryd.prog 36 = some 5 := by kernel_rfl
@[simp] theorem ty_f36_0 : fieldAt Tryd.prog 36 0 = some (0, 35) := by kernel_rfl
@[simp] theorem ty_f36_1 : fieldAt Tryd.prog 36 1 = some (1, 22) := by kernel_rfl
@[simp] theorem ty_pl36 : placesOk Tryd.prog 36 = true := by kernel_rfl
@[simp] theorem ty_zero36 : zeroA Tryd.prog 36 = some [.ro (.nilp), .own (.sl 1 [])] := by kernel_rfl
@[simp] theorem ty_size37 : sizeT Tryd.prog 37 = some 2 := by kernel_rfl
@[simp] theorem ty_agg37 : isAggT Tryd.prog 37 = true := by kernel_rfl
@[simp] theorem ty_bld37 : builderT Tryd.prog 37 = some 5 := by kernel_rfl
@[simp] theorem ty_f37_0 : fieldAt Tryd.prog 37 0 = some (0, 35) := by kernel_rfl
@[simp] theorem ty_f37_1 : fieldAt Tryd.prog 37 1 = some (1, 22) := by kernel_rfl
@[simp] theorem ty_pl37 : placesOk Tryd.prog 37 = true := by kernel_rfl
@[simp] theorem ty_zero37 : zeroA Tryd.prog 37 = some [.ro (.nilp), .own (.sl 1 [])] := by kernel_rfl
@[simp] theorem ty_size38 : sizeT Tryd.prog 38 = some 1 := by kernel_rfl
@[simp] theorem ty_agg38 : isAggT Tryd.prog 38 = false := by kernel_rfl
@[simp] theorem ty_bld38 : builderT Tryd.prog 38 = none := by kernel_rfl
@[simp] theorem ty_byte38 : byteT Tryd.prog 38 = none := by kernel_rfl
@[simp] theorem ty_z38 : zOf Tryd.prog 38 = some 1 := by kernel_rfl
@[simp] theorem ty_elem38 : elemT Tryd.prog 9 = some 1 := by kernel_rfl
@[simp] theorem ty_zd38 : zeroD Tryd.prog 9 = some (.str ⟨#[]⟩) := by kernel_rfl
@[simp] theorem ty_zero38 : zeroA Tryd.prog 38 = some [.own (.sl 1 [])] := by kernel_rfl
@[simp] theorem ty_size39 : sizeT Tryd.prog 39 = some 2 := by kernel_rfl
@[simp] theorem ty_agg39 : isAggT Tryd.prog 39 = true := by kernel_rfl
@[simp] theorem ty_bld39 : builderT Tryd.prog 39 = none := by kernel_rfl
@[simp] theorem ty_f39_0 : fieldAt Tryd.prog 39 0 = some (0, 3) := by kernel_rfl
@[simp] theorem ty_f39_1 : fieldAt Tryd.prog 39 1 = some (1, 38) := by kernel_rfl
@[simp] theorem ty_pl39 : placesOk Tryd.prog 39 = true := by kernel_rfl
@[simp] theorem ty_zero39 : zeroA Tryd.prog 39 = some [.ro (.int .i64 0), .own (.sl 1 [])] := by kernel_rfl
@[simp] theorem ty_size40 : sizeT Tryd.prog 40 = some 2 := by kernel_rfl
@[simp] theorem ty_agg40 : isAggT Tryd.prog 40 = true := by kernel_rfl
@[simp] theorem ty_bld40 : builderT Tryd.prog 40 = none := by kernel_rfl
@[simp] theorem ty_f40_0 : fieldAt Tryd.prog 40 0 = some (0, 3) := by kernel_rfl
@[simp] theorem ty_f40_1 : fieldAt Tryd.prog 40 1 = some (1, 38) := by kernel_rfl
@[simp] theorem ty_pl40 : placesOk Tryd.prog 40 = true := by kernel_rfl
@[simp] theorem ty_zero40 : zeroA Tryd.prog 40 = some [.ro (.int .i64 0), .own (.sl 1 [])] := by kernel_rfl
@[simp] theorem ty_size41 : sizeT Tryd.prog 41 = some 1 := by kernel_rfl
@[simp] theorem ty_agg41 : isAggT Tryd.prog 41 = false := by kernel_rfl
@[simp] theorem ty_bld41 : builderT Tryd.prog 41 = none := by kernel_rfl
@[simp] theorem ty_zero41 : zeroA Tryd.prog 41 = some [.ro (.nili)] := by kernel_rfl
@[simp] theorem ty_size42 : sizeT Tryd.prog 42 = some 1 := by kernel_rfl
@[simp] theorem ty_agg42 : isAggT Tryd.prog 42 = false := by kernel_rfl
@[simp] theorem ty_bld42 : builderT Tryd.prog 42 = none := by kernel_rfl
@[simp] theorem ty_zero42 : zeroA Tryd.prog 42 = some [.ro (.nili)] := by kernel_rfl
@[simp] theorem ty_size47 : sizeT Tryd.prog 47 = some 1 := by kernel_rfl
@[simp] theorem ty_agg47 : isAggT Tryd.prog 47 = true := by kernel_rfl
@[simp] theorem ty_bld47 : builderT Tryd.prog 47 = none := by kernel_rfl
@[simp] theorem ty_f47_0 : fieldAt Tryd.prog 47 0 = some (0, 9) := by kernel_rfl
@[simp] theorem ty_pl47 : placesOk Tryd.prog 47 = true := by kernel_rfl
@[simp] theorem ty_zero47 : zeroA Tryd.prog 47 = some [.ro (.str ⟨#[]⟩)] := by kernel_rfl
@[simp] theorem ty_size48 : sizeT Tryd.prog 48 = some 1 := by kernel_rfl
@[simp] theorem ty_agg48 : isAggT Tryd.prog 48 = true := by kernel_rfl
@[simp] theorem ty_bld48 : builderT Tryd.prog 48 = none := by kernel_rfl
@[simp] theorem ty_f48_0 : fieldAt Tryd.prog 48 0 = some (0, 9) := by kernel_rfl
@[simp] theorem ty_pl48 : placesOk Tryd.prog 48 = true := by kernel_rfl
@[simp] theorem ty_zero48 : zeroA Tryd.prog 48 = some [.ro (.str ⟨#[]⟩)] := by kernel_rfl
@[simp] theorem ty_size49 : sizeT Tryd.prog 49 = some 1 := by kernel_rfl
@[simp] theorem ty_agg49 : isAggT Tryd.prog 49 = true := by kernel_rfl
@[simp] theorem ty_bld49 : builderT Tryd.prog 49 = none := by kernel_rfl
@[simp] theorem ty_f49_0 : fieldAt Tryd.prog 49 0 = some (0, 48) := by kernel_rfl
@[simp] theorem ty_pl49 : placesOk Tryd.prog 49 = true := by kernel_rfl
@[simp] theorem ty_zero49 : zeroA Tryd.prog 49 = some [.ro (.str ⟨#[]⟩)] := by kernel_rfl
@[simp] theorem ty_size50 : sizeT Tryd.prog 50 = some 1 := by kernel_rfl
@[simp] theorem ty_agg50 : isAggT Tryd.prog 50 = true := by kernel_rfl
@[simp] theorem ty_bld50 : builderT Tryd.prog 50 = none := by kernel_rfl
@[simp] theorem ty_f50_0 : fieldAt Tryd.prog 50 0 = some (0, 48) := by kernel_rfl
@[simp] theorem ty_pl50 : placesOk Tryd.prog 50 = true := by kernel_rfl
@[simp] theorem ty_zero50 : zeroA Tryd.prog 50 = some [.ro (.str ⟨#[]⟩)] := by kernel_rfl
@[simp] theorem ty_size63 : sizeT Tryd.prog 63 = some 1 := by kernel_rfl
@[simp] theorem ty_agg63 : isAggT Tryd.prog 63 = false := by kernel_rfl
@[simp] theorem ty_bld63 : builderT Tryd.prog 63 = none := by kernel_rfl
@[simp] theorem ty_byte63 : byteT Tryd.prog 63 = none := by kernel_rfl
@[simp] theorem ty_z63 : zOf Tryd.prog 63 = some 1 := by kernel_rfl
@[simp] theorem ty_elem63 : elemT Tryd.prog 3 = some 1 := by kernel_rfl
@[simp] theorem ty_zd63 : zeroD Tryd.prog 3 = some (.int .i64 0) := by kernel_rfl
@[simp] theorem ty_zero63 : zeroA Tryd.prog 63 = some [.own (.sl 1 [])] := by kernel_rfl
@[simp] theorem ty_size65 : sizeT Tryd.prog 65 = some 2 := by kernel_rfl
@[simp] theorem ty_agg65 : isAggT Tryd.prog 65 = true := by kernel_rfl
@[simp] theorem ty_bld65 : builderT Tryd.prog 65 = none := by kernel_rfl
@[simp] theorem ty_f65_0 : fieldAt Tryd.prog 65 0 = some (0, 22) := by kernel_rfl
@[simp] theorem ty_f65_1 : fieldAt Tryd.prog 65 1 = some (1, 3) := by kernel_rfl
@[simp] theorem ty_pl65 : placesOk Tryd.prog 65 = true := by kernel_rfl
@[simp] theorem ty_zero65 : zeroA Tryd.prog 65 = some [.own (.sl 1 []), .ro (.int .i64 0)] := by kernel_rfl
@[simp] theorem ty_size66 : sizeT Tryd.prog 66 = some 2 := by kernel_rfl
@[simp] theorem ty_agg66 : isAggT Tryd.prog 66 = true := by kernel_rfl
@[simp] theorem ty_bld66 : builderT Tryd.prog 66 = none := by kernel_rfl
@[simp] theorem ty_f66_0 : fieldAt Tryd.prog 66 0 = some (0, 22) := by kernel_rfl
@[simp] theorem ty_f66_1 : fieldAt Tryd.prog 66 1 = some (1, 3) := by kernel_rfl
@[simp] theorem ty_pl66 : placesOk Tryd.prog 66 = true := by kernel_rfl
@[simp] theorem ty_zero66 : zeroA Tryd.prog 66 = some [.own (.sl 1 []), .ro (.int .i64 0)] := by kernel_rfl
@[simp] theorem ty_size67 : sizeT Tryd.prog 67 = some 1 := by kernel_rfl
@[simp] theorem ty_agg67 : isAggT Tryd.prog 67 = false := by kernel_rfl
@[simp] theorem ty_bld67 : builderT Tryd.prog 67 = none := by kernel_rfl
@[simp] theorem ty_zero67 : zeroA Tryd.prog 67 = some [.ro (.nilp)] := by kernel_rfl
@[simp] theorem ty_size68 : sizeT Tryd.prog 68 = some 1 := by kernel_rfl
@[simp] theorem ty_agg68 : isAggT Tryd.prog 68 = false := by kernel_rfl
@[simp] theorem ty_bld68 : builderT Tryd.prog 68 = none := by kernel_rfl
@[simp] theorem ty_zero68 : zeroA Tryd.prog 68 = some [.ro (.nilp)] := by kernel_rfl
@[simp] theorem ty_size80 : sizeT Tryd.prog 80 = some 1 := by kernel_rfl
@[simp] theorem ty_agg80 : isAggT Tryd.prog 80 = false := by kernel_rfl
@[simp] theorem ty_bld80 : builderT Tryd.prog 80 = none := by kernel_rfl
@[simp] theorem ty_zero80 : zeroA Tryd.prog 80 = some [.ro (.nilp)] := by kernel_rfl
@[simp] theorem ty_size83 : sizeT Tryd.prog 83 = some 1 := by kernel_rfl
@[simp] theorem ty_agg83 : isAggT Tryd.prog 83 = false := by kernel_rfl
@[simp] theorem ty_bld83 : builderT Tryd.prog 83 = none := by kernel_rfl
@[simp] theorem ty_zero83 : zeroA Tryd.prog 83 = some [.ro (.nilp)] := by kernel_rfl
@[simp] theorem ty_size90 : sizeT Tryd.prog 90 = some 24 := by kernel_rfl
@[simp] theorem ty_agg90 : isAggT Tryd.prog 90 = true := by kernel_rfl
@[simp] theorem ty_bld90 : builderT Tryd.prog 90 = none := by kernel_rfl
@[simp] theorem ty_pl90 : placesOk Tryd.prog 90 = true := by kernel_rfl
@[simp] theorem ty_zero90 : zeroA Tryd.prog 90 = some [.ro (.int .u8 0), .ro (.int .u8 0), .ro (.int .u8 0), .ro (.int .u8 0), .ro (.int .u8 0), .ro (.int .u8 0), .ro (.int .u8 0), .ro (.int .u8 0), .ro (.int .u8 0), .ro (.int .u8 0), .ro (.int .u8 0), .ro (.int .u8 0), .ro (.int .u8 0), .ro (.int .u8 0), .ro (.int .u8 0), .ro (.int .u8 0), .ro (.int .u8 0), .ro (.int .u8 0), .ro (.int .u8 0), .ro (.int .u8 0), .ro (.int .u8 0), .ro (.int .u8 0), .ro (.int .u8 0), .ro (.int .u8 0)] := by kernel_rfl
@[simp] theorem ty_size91 : sizeT Tryd.prog 91 = some 1 := by kernel_rfl
@[simp] theorem ty_agg91 : isAggT Tryd.prog 91 = false := by kernel_rfl
@[simp] theorem ty_bld91 : builderT Tryd.prog 91 = none := by kernel_rfl
@[simp] theorem ty_zero91 : zeroA Tryd.prog 91 = some [.ro (.int .u64 0)] := by kernel_rfl
@[simp] theorem ty_size99 : sizeT Tryd.prog 99 = some 20 := by kernel_rfl
@[simp] theorem ty_agg99 : isAggT Tryd.prog 99 = true := by kernel_rfl
@[simp] theorem ty_bld99 : builderT Tryd.prog 99 = none := by kernel_rfl
@[simp] theorem ty_pl99 : placesOk Tryd.prog 99 = true := by kernel_rfl
@[simp] theorem ty_zero99 : zeroA Tryd.prog 99 = some [.ro (.int .u64 0), .ro (.int .u64 0), .ro (.int .u64 0), .ro (.int .u64 0), .ro (.int .u64 0), .ro (.int .u64 0), .ro (.int .u64 0), .ro (.int .u64 0), .ro (.int .u64 0), .ro (.int .u64 0), .ro (.int .u64 0), .ro (.int .u64 0), .ro (.int .u64 0), .ro (.int .u64 0), .ro (.int .u64 0), .ro (.int .u64 0), .ro (.int .u64 0), .ro (.int .u64 0), .ro (.int .u64 0), .ro (.int .u64 0)] := by kernel_rfl
@[simp] theorem ty_size100 : sizeT Tryd.prog 100 = some 1 := by kernel_rfl
@[simp] theorem ty_agg100 : isAggT Tryd.prog 100 = false := by kernel_rfl
@[simp] theorem ty_bld100 : builderT Tryd.prog 100 = none := by kernel_rfl
@[simp] theorem ty_zero100 : zeroA Tryd.prog 100 = some [.ro (.int .u32 0)] := by kernel_rfl
@[simp] theorem ty_size101 : sizeT Tryd.prog 101 = some 65 := by kernel_rfl
@[simp] theorem ty_agg101 : isAggT Tryd.prog 101 = true := by kernel_rfl
@[simp] theorem ty_bld101 : builderT Tryd.prog 101 = none := by kernel_rfl
@[simp] theorem ty_pl101 : placesOk Tryd.prog 101 = true := by kernel_rfl
@[simp] theorem ty_zero101 : zeroA Tryd.prog 101 = some [.ro (.int .u8 0), .ro (.int .u8 0), .ro (.int .u8 0), .ro (.int .u8 0), .ro (.int .u8 0), .ro (.int .u8 0), .ro (.int .u8 0), .ro (.int .u8 0), .ro (.int .u8 0), .ro (.int .u8 0), .ro (.int .u8 0), .ro (.int .u8 0), .ro (.int .u8 0), .ro (.int .u8 0), .ro (.int .u8 0), .ro (.int .u8 0), .ro (.int .u8 0), .ro (.int .u8 0), .ro (.int .u8 0), .ro (.int .u8 0), .ro (.int .u8 0), .ro (.int .u8 0), .ro (.int .u8 0), .ro (.int .u8 0), .ro (.int .u8 0), .ro (.int .u8 0), .ro (.int .u8 0), .ro (.int .u8 0), .ro (.int .u8 0), .ro (.int .u8 0), .ro (.int .u8 0), .ro (.int .u8 0), .ro (.int .u8 0), .ro (.int .u8 0), .ro (.int .u8 0), .ro (.int .u8 0), .ro (.int .u8 0), .ro (.int .u8 0), .ro (.int .u8 0), .ro (.int .u8 0), .ro (.int .u8 0), .ro (.int .u8 0), .ro (.int .u8 0), .ro (.int .u8 0), .ro (.int .u8 0), .ro (.int .u8 0), .ro (.int .u8 0), .ro (.int .u8 0), .ro (.int .u8 0), .ro (.int .u8 0), .ro (.int .u8 0), .ro (.int .u8 0), .ro (.int .u8 0), .ro (.int .u8 0), .ro (.int .u8 0), .ro (.int .u8 0), .ro (.int .u8 0), .ro (.int .u8 0), .ro (.int .u8 0), .ro (.int .u8 0), .ro (.int .u8 0), .ro (.int .u8 0), .ro (.int .u8 0), .ro (.int .u8 0), .ro (.int .u8 0)] := by kernel_rfl
@[simp] theorem ty_size103 : sizeT Tryd.prog 103 = some 1 := by kernel_rfl
@[simp] theorem ty_agg103 : isAggT Tryd.prog 103 = false := by kernel_rfl
@[simp] theorem ty_bld103 : builderT Tryd.prog 103 = none := by kernel_rfl
@[simp] theorem ty_zero103 : zeroA Tryd.prog 103 = some [.ro (.int .u64 0)] := by kernel_rfl
@[simp] theorem ty_size109 : sizeT Tryd.prog 109 = some 32 := by kernel_rfl
@[simp] theorem ty_agg109 : isAggT Tryd.prog 109 = true := by kernel_rfl
@[simp] theorem ty_bld109 : builderT Tryd.prog 109 = none := by kernel_rfl
@[simp] theorem ty_pl109 : placesOk Tryd.prog 109 = true := by kernel_rfl
@[simp] theorem ty_zero109 : zeroA Tryd.prog 109 = some [.ro (.int .u8 0), .ro (.int .u8 0), .ro (.int .u8 0), .ro (.int .u8 0), .ro (.int .u8 0), .ro (.int .u8 0), .ro (.int .u8 0), .ro (.int .u8 0), .ro (.int .u8 0), .ro (.int .u8 0), .ro (.int .u8 0), .ro (.int .u8 0), .ro (.int .u8 0), .ro (.int .u8 0), .ro (.int .u8 0), .ro (.int .u8 0), .ro (.int .u8 0), .ro (.int .u8 0), .ro (.int .u8 0), .ro (.int .u8 0), .ro (.int .u8 0), .ro (.int .u8 0), .ro (.int .u8 0), .ro (.int .u8 0), .ro (.int .u8 0), .ro (.int .u8 0), .ro (.int .u8 0), .ro (.int .u8 0), .ro (.int .u8 0), .ro (.int .u8 0), .ro (.int .u8 0), .ro (.int .u8 0)] := by kernel_rfl
@[simp] theorem ty_size110 : sizeT Tryd.prog 110 = some 64 := by kernel_rfl
@[simp] theorem ty_agg110 : isAggT Tryd.prog 110 = true := by kernel_rfl
@[simp] theorem ty_bld110 : builderT Tryd.prog 110 = none := by kernel_rfl
@[simp] theorem ty_pl110 : placesOk Tryd.prog 110 = true := by kernel_rfl
@[simp] theorem ty_zero110 : zeroA Tryd.prog 110 = some [.ro (.int .u8 0), .ro (.int .u8 0), .ro (.int .u8 0), .ro (.int .u8 0), .ro (.int .u8 0), .ro (.int .u8 0), .ro (.int .u8 0), .ro (.int .u8 0), .ro (.int .u8 0), .ro (.int .u8 0), .ro (.int .u8 0), .ro (.int .u8 0), .ro (.int .u8 0), .ro (.int .u8 0), .ro (.int .u8 0), .ro (.int .u8 0), .ro (.int .u8 0), .ro (.int .u8 0), .ro (.int .u8 0), .ro (.int .u8 0), .ro (.int .u8 0), .ro (.int .u8 0), .ro (.int .u8 0), .ro (.int .u8 0), .ro (.int .u8 0), .ro (.int .u8 0), .ro (.int .u8 0), .ro (.int .u8 0), .ro (.int .u8 0), .ro (.int .u8 0), .ro (.int .u8 0), .ro (.int .u8 0), .ro (.int .u8 0), .ro (.int .u8 0), .ro (.int .u8 0), .ro (.int .u8 0), .ro (.int .u8 0), .ro (.int .u8 0), .ro (.int .u8 0), .ro (.int .u8 0), .ro (.int .u8 0), .ro (.int .u8 0), .ro (.int .u8 0), .ro (.int .u8 0), .ro (.int .u8 0), .ro (.int .u8 0), .ro (.int .u8 0), .ro (.int .u8 0), .ro (.int .u8 0), .ro (.int .u8 0), .ro (.int .u8 0), .ro (.int .u8 0), .ro (.int .u8 0), .ro (.int .u8 0), .ro (.int .u8 0), .ro (.int .u8 0), .ro (.int .u8 0), .ro (.int .u8 0), .ro (.int .u8 0), .ro (.int .u8 0), .ro (.int .u8 0), .ro (.int .u8 0), .ro (.int .u8 0), .ro (.int .u8 0)] := by kernel_rfl
@[simp] theorem ty_size113 : sizeT Tryd.prog 113 = some 256 := by kernel_rfl
@[simp] theorem ty_agg113 : isAggT Tryd.prog 113 = true := by kernel_rfl
@[simp] theorem ty_bld113 : builderT Tryd.prog 113 = none := by kernel_rfl
@[simp] theorem ty_pl113 : placesOk Tryd.prog 113 = true := by kernel_rfl
@[simp] theorem ty_zero113 : zeroA Tryd.prog 113 = some [.ro (.int .u8 0), .ro (.int .u8 0), .ro (.int .u8 0), .ro (.int .u8 0), .ro (.int .u8 0), .ro (.int .u8 0), .ro (.int .u8 0), .ro (.int .u8 0), .ro (.int .u8 0), .ro (.int .u8 0), .ro (.int .u8 0), .ro (.int .u8 0), .ro (.int .u8 0), .ro (.int .u8 0), .ro (.int .u8 0), .ro (.int .u8 0), .ro (.int .u8 0), .ro (.int .u8 0), .ro (.int .u8 0), .ro (.int .u8 0), .ro (.int .u8 0), .ro (.int .u8 0), .ro (.int .u8 0), .ro (.int .u8 0), .ro (.int .u8 0), .ro (.int .u8 0), .ro (.int .u8 0), .ro (.int .u8 0), .ro (.int .u8 0), .ro (.int .u8 0), .ro (.int .u8 0), .ro (.int .u8 0), .ro (.int .u8 0), .ro (.int .u8 0), .ro (.int .u8 0), .ro (.int .u8 0), .ro (.int .u8 0), .ro (.int .u8 0), .ro (.int .u8 0), .ro (.int .u8 0), .ro (.int .u8 0), .ro (.int .u8 0), .ro (.int .u8 0), .ro (.int .u8 0), .ro (.int .u8 0), .ro (.int .u8 0), .ro (.int .u8 0), .ro (.int .u8 0), .ro (.int .u8 0), .ro (.int .u8 0), .ro (.int .u8 0), .ro (.int .u8 0), .ro (.int .u8 0), .ro (.int .u8 0), .ro (.int .u8 0), .ro (.int .u8 0), .ro (.int .u8 0), .ro (.int .u8 0), .ro (.int .u8 0), .ro (.int .u8 0), .ro (.int .u8 0), .ro (.int .u8 0), .ro (.int .u8 0), .ro (.int .u8 0), .ro (.int .u8 0), .ro (.int .u8 0), .ro (.int .u8 0), .ro (.int .u8 0), .ro (.int .u8 0), .ro (.int .u8 0), .ro (.int .u8 0), .ro (.int .u8 0), .ro (.int .u8 0), .ro (.int .u8 0), .ro (.int .u8 0), .ro (.int .u8 0), .ro (.int .u8 0), .ro (.int .u8 0), .ro (.int .u8 0), .ro (.int .u8 0), .ro (.int .u8 0), .ro (.int .u8 0), .ro (.int .u8 0), .ro (.int .u8 0), .ro (.int .u8 0), .ro (.int .u8 0), .ro (.int .u8 0), .ro (.int .u8 0), .ro (.int .u8 0), .ro (.int .u8 0), .ro (.int .u8 0), .ro (.int .u8 0), .ro (.int .u8 0), .ro (.int .u8 0), .ro (.int .u8 0), .ro (.int .u8 0), .ro (.int .u8 0), .ro (.int .u8 0), .ro (.int .u8 0), .ro (.int .u8 0), .ro (.int .u8 0), .ro (.int .u8 0), .ro (.int .u8 0), .ro (.int .u8 0), .ro (.int .u8 0), .ro (.int .u8 0), .ro (.int .u8 0), .ro (.int .u8 0), .ro (.int .u8 0), .ro (.int .u8 0), .ro (.int .u8 0), .ro (.int .u8 0), .ro (.int .u8 0), .ro (.int .u8 0), .ro (.int .u8 0), .ro (.int .u8 0), .ro (.int .u8 0), .ro (.int .u8 0), .ro (.int .u8 0), .ro (.int .u8 0), .ro (.int .u8 0), .ro (.int .u8 0), .ro (.int .u8 0), .ro (.int .u8 0), .ro (.int .u8 0), .ro (.int .u8 0), .ro (.int .u8 0), .ro (.int .u8 0), .ro (.int .u8 0), .ro (.int .u8 0), .ro (.int .u8 0), .ro (.int .u8 0), .ro (.int .u8 0), .ro (.int .u8 0), .ro (.int .u8 0), .ro (.int .u8 0), .ro (.int .u8 0), .ro (.int .u8 0), .ro (.int .u8 0), .ro (.int .u8 0), .ro (.int .u8 0), .ro (.int .u8 0), .ro (.int .u8 0), .ro (.int .u8 0), .ro (.int .u8 0), .ro (.int .u8 0), .ro (.int .u8 0), .ro (.int .u8 0), .ro (.int .u8 0), .ro (.int .u8 0), .ro (.int .u8 0), .ro (.int .u8 0), .ro (.int .u8 0), .ro (.int .u8 0), .ro (.int .u8 0), .ro (.int .u8 0), .ro (.int .u8 0), .ro (.int .u8 0), .ro (.int .u8 0), .ro (.int .u8 0), .ro (.int .u8 0), .ro (.int .u8 0), .ro (.int .u8 0), .ro (.int .u8 0), .ro (.int .u8 0), .ro (.int .u8 0), .ro (.int .u8 0), .ro (.int .u8 0), .ro (.int .u8 0), .ro (.int .u8 0), .ro (.int .u8 0), .ro (.int .u8 0), .ro (.int .u8 0), .ro (.int .u8 0), .ro (.int .u8 0), .ro (.int .u8 0), .ro (.int .u8 0), .ro (.int .u8 0), .ro (.int .u8 0), .ro (.int .u8 0), .ro (.int .u8 0), .ro (.int .u8 0), .ro (.int .u8 0), .ro (.int .u8 0), .ro (.int .u8 0), .ro (.int .u8 0), .ro (.int .u8 0), .ro (.int .u8 0), .ro (.int .u8 0), .ro (.int .u8 0), .ro (.int .u8 0), .ro (.int .u8 0), .ro (.int .u8 0), .ro (.int .u8 0), .ro (.int .u8 0), .ro (.int .u8 0), .ro (.int .u8 0), .ro (.int .u8 0), .ro (.int .u8 0), .ro (.int .u8 0), .ro (.int .u8 0), .ro (.int .u8 0), .ro (.int .u8 0), .ro (.int .u8 0), .ro (.int .u8 0), .ro (.int .u8 0), .ro (.int .u8 0), .ro (.int .u8 0), .ro (.int .u8 0), .ro (.int .u8 0), .ro (.int .u8 0), .ro (.int .u8 0), .ro (.int .u8 0), .ro (.int .u8 0), .ro (.int .u8 0), .ro (.int .u8 0), .ro (.int .u8 0), .ro (.int .u8 0), .ro (.int .u8 0), .ro (.int .u8 0), .ro (.int .u8 0), .ro (.int .u8 0), .ro (.int .u8 0), .ro (.int .u8 0), .ro (.int .u8 0), .ro (.int .u8 0), .ro (.int .u8 0), .ro (.int .u8 0), .ro (.int .u8 0), .ro (.int .u8 0), .ro (.int .u8 0), .ro (.int .u8 0), .ro (.int .u8 0), .ro (.int .u8 0), .ro (.int .u8 0), .ro (.int .u8 0), .ro (.int .u8 0), .ro (.int .u8 0), .ro (.int .u8 0), .ro (.int .u8 0), .ro (.int .u8 0), .ro (.int .u8 0), .ro (.int .u8 0), .ro (.int .u8 0), .ro (.int .u8 0), .ro (.int .u8 0), .ro (.int .u8 0), .ro (.int .u8 0), .ro (.int .u8 0), .ro (.int .u8 0), .ro (.int .u8 0), .ro (.int .u8 0), .ro (.int .u8 0), .ro (.int .u8 0), .ro (.int .u8 0), .ro (.int .u8 0)] := by kernel_rfl
@[simp] theorem ty_size114 : sizeT Tryd.prog 114 = some 2 := by kernel_rfl
@[simp] theorem ty_agg114 : isAggT Tryd.prog 114 = true := by kernel_rfl
@[simp] theorem ty_bld114 : builderT Tryd.prog 114 = none := by kernel_rfl
@[simp] theorem ty_f114_0 : fieldAt Tryd.prog 114 0 = some (0, 5) := by kernel_rfl
@[simp] theorem ty_f114_1 : fieldAt Tryd.prog 114 1 = some (1, 5) := by kernel_rfl
@[simp] theorem ty_pl114 : placesOk Tryd.prog 114 = true := by kernel_rfl
@[simp] theorem ty_zero114 : zeroA Tryd.prog 114 = some [.ro (.int .u8 0), .ro (.int .u8 0)] := by kernel_rfl
@[simp] theorem ty_size115 : sizeT Tryd.prog 115 = some 2 := by kernel_rfl
@[simp] theorem ty_agg115 : isAggT Tryd.prog 115 = true := by kernel_rfl
@[simp] theorem ty_bld115 : builderT Tryd.prog 115 = none := by kernel_rfl
@[simp] theorem ty_f115_0 : fieldAt Tryd.prog 115 0 = some (0, 5) := by kernel_rfl
@[simp] theorem ty_f115_1 : fieldAt Tryd.prog 115 1 = some (1, 5) := by kernel_rfl
@[simp] theorem ty_pl115 : placesOk Tryd.prog 115 = true := by kernel_rfl
@[simp] theorem ty_zero115 : zeroA Tryd.prog 115 = some [.ro (.int .u8 0), .ro (.int .u8 0)] := by kernel_rfl
@[simp] theorem ty_size116 : sizeT Tryd.prog 116 = some 32 := by kernel_rfl
@[simp] theorem ty_agg116 : isAggT Tryd.prog 116 = true := by kernel_rfl
@[simp] theorem ty_bld116 : builderT Tryd.prog 116 = none := by kernel_rfl
@[simp] theorem ty_pl116 : placesOk Tryd.prog 116 = true := by kernel_rfl
@[simp] theorem ty_zero116 : zeroA Tryd.prog 116 = some [.ro (.int .u8 0), .ro (.int .u8 0), .ro (.int .u8 0), .ro (.int .u8 0), .ro (.int .u8 0), .ro (.int .u8 0), .ro (.int .u8 0), .ro (.int .u8 0), .ro (.int .u8 0), .ro (.int .u8 0), .ro (.int .u8 0), .ro (.int .u8 0), .ro (.int .u8 0), .ro (.int .u8 0), .ro (.int .u8 0), .ro (.int .u8 0), .ro (.int .u8 0), .ro (.int .u8 0), .ro (.int .u8 0), .ro (.int .u8 0), .ro (.int .u8 0), .ro (.int .u8 0), .ro (.int .u8 0), .ro (.int .u8 0), .ro (.int .u8 0), .ro (.int .u8 0), .ro (.int .u8 0), .ro (.int .u8 0), .ro (.int .u8 0), .ro (.int .u8 0), .ro (.int .u8 0), .ro (.int .u8 0)] := by kernel_rfl
@[simp] theorem ty_size117 : sizeT Tryd.prog 117 = some 4 := by kernel_rfl
@[simp] theorem ty_agg117 : isAggT Tryd.prog 117 = true := by kernel_rfl
@[simp] theorem ty_bld117 : builderT Tryd.prog 117 = none := by kernel_rfl
@[simp] theorem ty_f117_0 : fieldAt Tryd.prog 117 0 = some (0, 17) := by kernel_rfl
@[simp] theorem ty_f117_1 : fieldAt Tryd.prog 117 1 = some (1, 17) := by kernel_rfl
@[simp] theorem ty_f117_2 : fieldAt Tryd.prog 117 2 = some (2, 17) := by kernel_rfl
@[simp] theorem ty_f117_3 : fieldAt Tryd.prog 117 3 = some (3, 9) := by kernel_rfl
@[simp] theorem ty_pl117 : placesOk Tryd.prog 117 = true := by kernel_rfl
@[simp] theorem ty_zero117 : zeroA Tryd.prog 117 = some [.ro (.nilp), .ro (.nilp), .ro (.nilp), .ro (.str ⟨#[]⟩)] := by kernel_rfl
@[simp] theorem ty_size118 : sizeT Tryd.prog 118 = some 4 := by kernel_rfl
@[simp] theorem ty_agg118 : isAggT Tryd.prog 118 = true := by kernel_rfl
@[simp] theorem ty_bld118 : builderT Tryd.prog 118 = none := by kernel_rfl
@[simp] theorem ty_f118_0 : fieldAt Tryd.prog 118 0 = some (0, 17) := by kernel_rfl
@[simp] theorem ty_f118_1 : fieldAt Tryd.prog 118 1 = some (1, 17) := by kernel_rfl
@[simp] theorem ty_f118_2 : fieldAt Tryd.prog 118 2 = some (2, 17) := by kernel_rfl
@[simp] theorem ty_f118_3 : fieldAt Tryd.prog 118 3 = some (3, 9) := by kernel_rfl
@[simp] theorem ty_pl118 : placesOk Tryd.prog 118 = true := by kernel_rfl
@[simp] theorem ty_zero118 : zeroA Tryd.prog 118 = some [.ro (.nilp), .ro (.nilp), .ro (.nilp), .ro (.str ⟨#[]⟩)] := by kernel_rfl
@[simp] theorem ty_size119 : sizeT Tryd.prog 119 = some 0 := by kernel_rfl
@[simp] theorem ty_agg119 : isAggT Tryd.prog 119 = true := by kernel_rfl
@[simp] theorem ty_bld119 : builderT Tryd.prog 119 = none := by kernel_rfl
@[simp] theorem ty_pl119 : placesOk Tryd.prog 119 = true := by kernel_rfl
@[simp] theorem ty_zero119 : zeroA Tryd.prog 119 = some [] := by kernel_rfl
@[simp] theorem ty_size120 : sizeT Tryd.prog 120 = some 0 := by kernel_rfl
@[simp] theorem ty_agg120 : isAggT Tryd.prog 120 = true := by kernel_rfl
@[simp] theorem ty_bld120 : builderT Tryd.prog 120 = none := by kernel_rfl
@[simp] theorem ty_f120_0 : fieldAt Tryd.prog 120 0 = some (0, 119) := by kernel_rfl
@[simp] theorem ty_pl120 : placesOk Tryd.prog 120 = true := by kernel_rfl
@[simp] theorem ty_zero120 : zeroA Tryd.prog 120 = some [] := by kernel_rfl
@[simp] theorem ty_size121 : sizeT Tryd.prog 121 = some 0 := by kernel_rfl
@[simp] theorem ty_agg121 : isAggT Tryd.prog 121 = true := by kernel_rfl
@[simp] theorem ty_bld121 : builderT Tryd.prog 121 = none := by kernel_rfl
@[simp] theorem ty_f121_0 : fieldAt Tryd.prog 121 0 = some (0, 119) := by kernel_rfl
@[simp] theorem ty_pl121 : placesOk Tryd.prog 121 = true := by kernel_rfl
@[simp] theorem ty_zero121 : zeroA Tryd.prog 121 = some [] := by kernel_rfl
@[simp] theorem ty_size123 : sizeT Tryd.prog 123 = some 1 := by kernel_rfl
@[simp] theorem ty_agg123 : isAggT Tryd.prog 123 = false := by kernel_rfl
@[simp] theorem ty_bld123 : builderT Tryd.prog 123 = none := by kernel_rfl
@[simp] theorem ty_zero123 : zeroA Tryd.prog 123 = some [.ro (.int .u8 0)] := by kernel_rfl
@[simp] theorem ty_size124 : sizeT Tryd.prog 124 = some 1 := by kernel_rfl
@[simp] theorem ty_agg124 : isAggT Tryd.prog 124 = false := by kernel_rfl
@[simp] theorem ty_bld124 : builderT Tryd.prog 124 = none := by kernel_rfl
@[simp] theorem ty_zero124 : zeroA Tryd.prog 124 = some [.ro (.int .u8 0)] := by kernel_rfl
@[simp] theorem ty_size126 : sizeT Tryd.prog 126 = some 1 := by kernel_rfl
@[simp] theorem ty_agg126 : isAggT Tryd.prog 126 = false := by kernel_rfl
@[simp] theorem ty_bld126 : builderT Tryd.prog 126 = none := by kernel_rfl
@[simp] theorem ty_zero126 : zeroA Tryd.prog 126 = some [.ro (.int .i32 0)] := by kernel_rfl
@[simp] theorem ty_size127 : sizeT Tryd.prog 127 = some 1 := by kernel_rfl
@[simp] theorem ty_agg127 : isAggT Tryd.prog 127 = false := by kernel_rfl
@[simp] theorem ty_bld127 : builderT Tryd.prog 127 = none := by kernel_rfl
@[simp] theorem ty_zero127 : zeroA Tryd.prog 127 = some [.ro (.int .i32 0)] := by kernel_rfl
@[simp] theorem ty_size128 : sizeT Tryd.prog 128 = some 11 := by kernel_rfl
@[simp] theorem ty_agg128 : isAggT Tryd.prog 128 = true := by kernel_rfl
@[simp] theorem ty_bld128 : builderT Tryd.prog 128 = none := by kernel_rfl
@[simp] theorem ty_f128_0 : fieldAt Tryd.prog 128 0 = some (0, 12) := by kernel_rfl
@[simp] theorem ty_f128_1 : fieldAt Tryd.prog 128 1 = some (1, 12) := by kernel_rfl
@[simp] theorem ty_f128_2 : fieldAt Tryd.prog 128 2 = some (2, 100) := by kernel_rfl
@[simp] theorem ty_f128_3 : fieldAt Tryd.prog 128 3 = some (3, 123) := by kernel_rfl
@[simp] theorem ty_f128_4 : fieldAt Tryd.prog 128 4 = some (4, 5) := by kernel_rfl
@[simp] theorem ty_f128_5 : fieldAt Tryd.prog 128 5 = some (5, 5) := by kernel_rfl
@[simp] theorem ty_f128_6 : fieldAt Tryd.prog 128 6 = some (6, 124) := by kernel_rfl
@[simp] theorem ty_f128_7 : fieldAt Tryd.prog 128 7 = some (7, 125) := by kernel_rfl
@[simp] theorem ty_f128_8 : fieldAt Tryd.prog 128 8 = some (8, 67) := by kernel_rfl
@[simp] theorem ty_f128_9 : fieldAt Tryd.prog 128 9 = some (9, 126) := by kernel_rfl
@[simp] theorem ty_f128_10 : fieldAt Tryd.prog 128 10 = some (10, 127) := by kernel_rfl
@[simp] theorem ty_pl128 : placesOk Tryd.prog 128 = true := by kernel_rfl
@[simp] theorem ty_zero128 : zeroA Tryd.prog 128 = some [.ro (.int .u64 0), .ro (.int .u64 0), .ro (.int .u32 0), .ro (.int .u8 0), .ro (.int .u8 0), .ro (.int .u8 0), .ro (.int .u8 0), .ro (.nilf), .ro (.nilp), .ro (.int .i32 0), .ro (.int .i32 0)] := by kernel_rfl
@[simp] theorem ty_size129 : sizeT Tryd.prog 129 = some 11 := by kernel_rfl
@[simp] theorem ty_agg129 : isAggT Tryd.prog 129 = true := by kernel_rfl
@[simp] theorem ty_bld129 : builderT Tryd.prog 129 = none := by kernel_rfl
@[simp] theorem ty_f129_0 : fieldAt Tryd.prog 129 0 = some (0, 12) := by kernel_rfl
@[simp] theorem ty_f129_1 : fieldAt Tryd.prog 129 1 = some (1, 12) := by kernel_rfl
@[simp] theorem ty_f129_2 : fieldAt Tryd.prog 129 2 = some (2, 100) := by kernel_rfl
@[simp] theorem ty_f129_3 : fieldAt Tryd.prog 129 3 = some (3, 123) := by kernel_rfl
@[simp] theorem ty_f129_4 : fieldAt Tryd.prog 129 4 = some (4, 5) := by kernel_rfl
@[simp] theorem ty_f129_5 : fieldAt Tryd.prog 129 5 = some (5, 5) := by kernel_rfl
@[simp] theorem ty_f129_6 : fieldAt Tryd.prog 129 6 = some (6, 124) := by kernel_rfl
@[simp] theorem ty_f129_7 : fieldAt Tryd.prog 129 7 = some (7, 125) := by kernel_rfl
@[simp] theorem ty_f129_8 : fieldAt Tryd.prog 129 8 = some (8, 67) := by kernel_rfl
@[simp] theorem ty_f129_9 : fieldAt Tryd.prog 129 9 = some (9, 126) := by kernel_rfl
@[simp] theorem ty_f129_10 : fieldAt Tryd.prog 129 10 = some (10, 127) := by kernel_rfl
@[simp] theorem ty_pl129 : placesOk Tryd.prog 129 = true := by kernel_rfl
@[simp] theorem ty_zero129 : zeroA Tryd.prog 129 = some [.ro (.int .u64 0), .ro (.int .u64 0), .ro (.int .u32 0), .ro (.int .u8 0), .ro (.int .u8 0), .ro (.int .u8 0), .ro (.int .u8 0), .ro (.nilf), .ro (.nilp), .ro (.int .i32 0), .ro (.int .i32 0)] := by kernel_rfl
attribute [simp] Tryd.underlying10
attribute [simp] Tryd.underlying100
attribute [simp] Tryd.underlying101
attribute [simp] Tryd.underlying103
attribute [simp] Tryd.underlying109
attribute [simp] Tryd.underlying11
attribute [simp] Tryd.underlying110
attribute [simp] Tryd.underlying113
attribute [simp] Tryd.underlying114
attribute [simp] Tryd.underlying115
attribute [simp] Tryd.underlying116
attribute [simp] Tryd.underlying117
attribute [simp] Tryd.underlying118
attribute [simp] Tryd.underlying119
attribute [simp] Tryd.underlying12
attribute [simp] Tryd.underlying120
attribute [simp] Tryd.underlying121
attribute [simp] Tryd.underlying123
attribute [simp] Tryd.underlying124
attribute [simp] Tryd.underlying126
attribute [simp] Tryd.underlying127
attribute [simp] Tryd.underlying128
attribute [simp] Tryd.underlying129
attribute [simp] Tryd.underlying13
attribute [simp] Tryd.underlying14
attribute [simp] Tryd.underlying15
attribute [simp] Tryd.underlying16
attribute [simp] Tryd.underlying17
attribute [simp] Tryd.underlying18
attribute [simp] Tryd.underlying19
attribute [simp] Tryd.underlying2
attribute [simp] Tryd.underlying20
attribute [simp] Tryd.underlying21
attribute [simp] Tryd.underlying22
attribute [simp] Tryd.underlying23
attribute [simp] Tryd.underlying3
attribute [simp] Tryd.underlying33
attribute [simp] Tryd.underlying35
attribute [simp] Tryd.underlying36
attribute [simp] Tryd.underlying37
attribute [simp] Tryd.underlying38
attribute [simp] Tryd.underlying39
attribute [simp] Tryd.underlying4
attribute [simp] Tryd.underlying40
attribute [simp] Tryd.underlying41
attribute [simp] Tryd.underlying42
attribute [simp] Tryd.underlying47
attribute [simp] Tryd.underlying48
attribute [simp] Tryd.underlying49
attribute [simp] Tryd.underlying5
attribute [simp] Tryd.underlying50
attribute [simp] Tryd.underlying6
attribute [simp] Tryd.underlying63
attribute [simp] Tryd.underlying65
attribute [simp] Tryd.underlying66
attribute [simp] Tryd.underlying67
attribute [simp] Tryd.underlying68
attribute [simp] Tryd.underlying7
attribute [simp] Tryd.underlying8
attribute [simp] Tryd.underlying80
attribute [simp] Tryd.underlying83
attribute [simp] Tryd.underlying9
attribute [simp] Tryd.underlying90
attribute [simp] Tryd.underlying91
attribute [simp] Tryd.underlying99
end Go.Qz
namespace Go.Qz
open Go.Proofs
theorem run_is {q r : QCode} (h : q = r) (c : Ctx) (e : Env) (ks : List Fr) : Run c q e ks = Run c r e ks := h ▸ rfl
abbrev fn_w_FnHunks : FuncId := 3
def q_w_FnHunks_c0 : QCode := .seq (.ops [⟨some 56, .move (.tmp 1), 22, none⟩, ⟨some 57, .call { callee := .value (.func 11), args := #[.tmp 56], argTypes := #[22] }, 9, none⟩, ⟨some 9, .assign (.tmp 57), 9, none⟩]) (.seq (.ops [⟨some 59, .move (.tmp 9), 9, none⟩, ⟨some 60, .call { callee := .value (.func 6), args := #[.tmp 59], argTypes := #[9] }, 26, none⟩, ⟨some 58, .move (.tmp 60), 26, none⟩, ⟨some 61, .extract (.tmp 58) 0, 23, none⟩, ⟨some 62, .extract (.tmp 58) 1, 4, none⟩, ⟨some 10, .assign (.tmp 61), 23, none⟩, ⟨some 11, .assign (.tmp 62), 4, none⟩]) (.seq (.ops [⟨some 64, .move (.tmp 9), 9, none⟩, ⟨some 65, .call { callee := .value (.func 12), args := #[.tmp 64], argTypes := #[9] }, 26, none⟩, ⟨some 63, .move (.tmp 65), 26, none⟩, ⟨some 66, .extract (.tmp 63) 0, 23, none⟩, ⟨some 67, .extract (.tmp 63) 1, 4, none⟩, ⟨some 12, .assign (.tmp 66), 23, none⟩, ⟨some 13, .assign (.tmp 67), 4, none⟩]) (.seq (.ops [⟨some 68, .move (.tmp 11), 4, none⟩, ⟨some 69, .move (.tmp 13), 4, none⟩, ⟨some 70, .binOp .eql 4 (.tmp 68) (.tmp 69) 4, 4, none⟩, ⟨some 71, .move (.tmp 70), 4, none⟩, ⟨some 72, .move (.tmp 10), 23, some (71, true)⟩, ⟨some 73, .move (.tmp 12), 23, some (71, true)⟩, ⟨some 74, .call { callee := .value (.func 10), args := #[.tmp 72, .tmp 73], argTypes := #[23, 23] }, 4, some (71, true)⟩, ⟨some 75, .pick (.tmp 71) (.tmp 74) (.const (.bool false)), 4, none⟩, ⟨some 76, .move (.tmp 75), 4, none⟩, ⟨some 77, .move (.tmp 11), 4, some (76, true)⟩, ⟨some 78, .unOp .not 4 (.tmp 77), 4, some (76, true)⟩, ⟨some 79, .move (.tmp 78), 4, some (76, true)⟩, ⟨some 80, .move (.tmp 10), 23, some (79, false)⟩, ⟨some 81, .call { callee := .value (.func 5), args := #[.tmp 80], argTypes := #[23] }, 9, some (79, false)⟩, ⟨some 82, .move (.tmp 9), 9, some (79, false)⟩, ⟨some 83, .binOp .eql 9 (.tmp 81) (.tmp 82) 9, 4, some (79, false)⟩, ⟨some 84, .pick (.tmp 79) (.const (.bool true)) (.tmp 83), 4, some (76, true)⟩, ⟨some 85, .pick (.tmp 76) (.tmp 84) (.const (.bool false)), 4, none⟩, ⟨some 4, .assign (.tmp 85), 4, none⟩]) (.ret))))
@[simp] theorem q_w_FnHunks_c0_run : type_of% (run_is q_w_FnHunks_c0.eq_1) := run_is q_w_FnHunks_c0.eq_1
def q_w_FnHunks_c1 : QCode := .seq (.ops [⟨some 22, .move (.tmp 0), 22, none⟩, ⟨some 23, .call { callee := .value (.func 4), args := #[.tmp 22], argTypes := #[22] }, 23, none⟩, ⟨some 5, .assign (.tmp 23), 23, none⟩]) (.seq (.ops [⟨some 24, .move (.tmp 5), 23, none⟩, ⟨some 25, .call { callee := .value (.func 5), args := #[.tmp 24], argTypes := #[23] }, 9, none⟩, ⟨some 6, .assign (.tmp 25), 9, none⟩]) (.seq (.ops [⟨some 27, .move (.tmp 6), 9, none⟩, ⟨some 28, .call { callee := .value (.func 6), args := #[.tmp 27], argTypes := #[9] }, 26, none⟩, ⟨some 26, .move (.tmp 28), 26, none⟩, ⟨some 29, .extract (.tmp 26) 0, 23, none⟩, ⟨some 30, .extract (.tmp 26) 1, 4, none⟩, ⟨some 7, .assign (.tmp 29), 23, none⟩, ⟨some 8, .assign (.tmp 30), 4, none⟩]) (.seq (.seq (.ops [⟨some 31, .move (.tmp 6), 9, none⟩, ⟨some 32, .move (.tmp 5), 23, none⟩, ⟨some 33, .call { callee := .value (.func 7), args := #[.tmp 32], argTypes := #[23] }, 9, none⟩, ⟨some 34, .binOp .neq 9 (.tmp 31) (.tmp 33) 9, 4, none⟩, ⟨some 35, .move (.tmp 34), 4, none⟩, ⟨some 36, .move (.tmp 5), 23, some (35, false)⟩, ⟨some 37, .call { callee := .value (.func 8), args := #[.tmp 36], argTypes := #[23] }, 4, some (35, false)⟩, ⟨some 38, .move (.tmp 5), 23, some (35, false)⟩, ⟨some 39, .call { callee := .value (.func 9), args := #[.tmp 38], argTypes := #[23] }, 4, some (35, false)⟩, ⟨some 40, .binOp .neq 4 (.tmp 37) (.tmp 39) 4, 4, some (35, false)⟩, ⟨some 41, .pick (.tmp 35) (.const (.bool true)) (.tmp 40), 4, none⟩, ⟨some 42, .move (.tmp 41), 4, none⟩, ⟨some 43, .move (.tmp 5), 23, some (42, false)⟩, ⟨some 44, .call { callee := .value (.func 8), args := #[.tmp 43], argTypes := #[23] }, 4, some (42, false)⟩, ⟨some 45, .move (.tmp 44), 4, some (42, false)⟩, ⟨some 46, .move (.tmp 8), 4, some (45, true)⟩, ⟨some 47, .unOp .not 4 (.tmp 46), 4, some (45, true)⟩, ⟨some 48, .move (.tmp 47), 4, some (45, true)⟩, ⟨some 49, .move (.tmp 7), 23, some (48, false)⟩, ⟨some 50, .move (.tmp 5), 23, some (48, false)⟩, ⟨some 51, .call { callee := .value (.func 10), args := #[.tmp 49, .tmp 50], argTypes := #[23, 23] }, 4, some (48, false)⟩, ⟨some 52, .unOp .not 4 (.tmp 51), 4, some (48, false)⟩, ⟨some 53, .pick (.tmp 48) (.const (.bool true)) (.tmp 52), 4, some (45, true)⟩, ⟨some 54, .pick (.tmp 45) (.tmp 53) (.const (.bool false)), 4, some (42, false)⟩, ⟨some 55, .pick (.tmp 42) (.const (.bool true)) (.tmp 54), 4, none⟩]) (.cond (.tmp 55) (.seq (.ops [⟨some 4, .assign (.const (.bool false)), 4, none⟩]) (.ret)) (.skip))) (q_w_FnHunks_c0))))
@[simp] theorem q_w_FnHunks_c1_run : type_of% (run_is q_w_FnHunks_c1.eq_1) := run_is q_w_FnHunks_c1.eq_1
@[simp] def q_w_FnHunks : QFn := ⟨86, [(.tmp 4, 4)], .seq (.ops [⟨some 4, .assign (.const (.bool false)), 4, none⟩]) (.seq (.seq (.ops [⟨some 14, .move (.tmp 0), 22, none⟩, ⟨some 15, .call { callee := .builtin .len, args := #[.tmp 14], argTypes := #[22] }, 3, none⟩, ⟨some 16, .binOp .gtr 3 (.tmp 15) (.const (.int .i64 1048576)) 3, 4, none⟩, ⟨some 17, .move (.tmp 16), 4, none⟩, ⟨some 18, .move (.tmp 1), 22, some (17, false)⟩, ⟨some 19, .call { callee := .builtin .len, args := #[.tmp 18], argTypes := #[22] }, 3, some (17, false)⟩, ⟨some 20, .binOp .gtr 3 (.tmp 19) (.const (.int .i64 1048576)) 3, 4, some (17, false)⟩, ⟨some 21, .pick (.tmp 17) (.const (.bool true)) (.tmp 20), 4, none⟩]) (.cond (.tmp 21) (.seq (.ops [⟨some 4, .assign (.const (.bool true)), 4, none⟩]) (.ret)) (.skip))) (q_w_FnHunks_c1))⟩
theorem conv_w_FnHunks : convF Tryd.f3 = some q_w_FnHunks := by kernel_rfl
abbrev fn_s_DrawHunksPut : FuncId := 4
@[simp] def q_s_DrawHunksPut : QFn := ⟨6, [(.tmp 2, 23)], .seq (.ops [⟨some 2, .assign (.const (.slice none 0 0)), 23, none⟩]) (.seq (.ops [⟨some 3, .move (.tmp 0), 22, none⟩, ⟨some 4, .call { callee := .value (.func 14), args := #[.tmp 3], argTypes := #[22] }, 33, none⟩, ⟨some 5, .call { callee := .value (.func 13), args := #[.tmp 4], argTypes := #[33] }, 23, none⟩, ⟨some 2, .assign (.tmp 5), 23, none⟩]) (.ret))⟩
theorem conv_s_DrawHunksPut : convF Tryd.f4 = some q_s_DrawHunksPut := by kernel_rfl
abbrev fn_i_HunksPut : FuncId := 5
def q_i_HunksPut_c0 : QCode := .ops [⟨some 39, .binOp .add 3 (.tmp 32) (.const (.int .i64 1)) 3, 3, none⟩, ⟨some 32, .move (.tmp 39), 3, none⟩]
@[simp] theorem q_i_HunksPut_c0_run : type_of% (run_is q_i_HunksPut_c0.eq_1) := run_is q_i_HunksPut_c0.eq_1
def q_i_HunksPut_c1 : QCode := .seq (.block 3 (.seq (.ops [⟨some 34, .indexAddr 38 (.tmp 30) (.tmp 32), 0, none⟩, ⟨some 35, .load 9 (.tmp 34), 9, none⟩, ⟨some 7, .assign (.tmp 35), 9, none⟩]) (.ops [⟨some 36, .move (.tmp 7), 9, none⟩, ⟨some 37, .binOp .add 9 (.tmp 36) (.const (.string { data := #[10] })) 9, 9, none⟩, ⟨some 38, .call { callee := .value (.func 15), args := #[.tmp 3, .tmp 37], argTypes := #[37, 9] }, 43, none⟩]))) (q_i_HunksPut_c0)
@[simp] theorem q_i_HunksPut_c1_run : type_of% (run_is q_i_HunksPut_c1.eq_1) := run_is q_i_HunksPut_c1.eq_1
def q_i_HunksPut_l0 : QCode := .seq (.ops [⟨some 33, .binOp .lss 3 (.tmp 32) (.tmp 31) 3, 0, none⟩]) (.seq (.cond (.tmp 33) (.skip) (.exit 2)) (q_i_HunksPut_c1))
@[simp] theorem q_i_HunksPut_l0_run : type_of% (run_is q_i_HunksPut_l0.eq_1) := run_is q_i_HunksPut_l0.eq_1
def q_i_HunksPut_c2 : QCode := .ops [⟨some 40, .binOp .add 3 (.tmp 13) (.const (.int .i64 1)) 3, 3, none⟩, ⟨some 13, .move (.tmp 40), 3, none⟩]
@[simp] theorem q_i_HunksPut_c2_run : type_of% (run_is q_i_HunksPut_c2.eq_1) := run_is q_i_HunksPut_c2.eq_1
def q_i_HunksPut_c3 : QCode := .seq (.block 1 (.seq (.ops [⟨some 15, .indexAddr 23 (.tmp 11) (.tmp 13), 0, none⟩, ⟨some 16, .load 40 (.tmp 15), 40, none⟩, ⟨some 5, .alloc 40, 0, none⟩, ⟨none, .store 40 (.tmp 5) (.tmp 16), 0, none⟩]) (.seq (.draw [] [⟨some 17, .fieldAddr 40 (.tmp 5) 0, 0, none⟩, ⟨some 18, .load 3 (.tmp 17), 3, none⟩, ⟨some 19, .call { callee := .value (.func 16), args := #[.tmp 18], argTypes := #[3] }, 9, none⟩, ⟨some 20, .binOp .add 9 (.const (.string { data := #[64, 32] })) (.tmp 19) 9, 9, none⟩, ⟨some 21, .binOp .add 9 (.tmp 20) (.const (.string { data := #[32] })) 9, 9, none⟩, ⟨some 22, .fieldAddr 40 (.tmp 5) 1, 0, none⟩, ⟨some 23, .load 38 (.tmp 22), 38, none⟩, ⟨some 24, .call { callee := .builtin .len, args := #[.tmp 23], argTypes := #[38] }, 3, none⟩, ⟨some 25, .call { callee := .value (.func 16), args := #[.tmp 24], argTypes := #[3] }, 9, none⟩] [⟨some 26, .binOp .add 9 (.tmp 21) (.tmp 25) 9, 9, none⟩, ⟨some 27, .binOp .add 9 (.tmp 26) (.const (.string { data := #[10] })) 9, 9, none⟩, ⟨some 28, .call { callee := .value (.func 15), args := #[.tmp 3, .tmp 27], argTypes := #[37, 9] }, 43, none⟩]) (.seq (.ops [⟨some 29, .fieldAddr 40 (.tmp 5) 1, 0, none⟩, ⟨some 30, .load 38 (.tmp 29), 38, none⟩, ⟨some 31, .call { callee := .builtin .len, args := #[.tmp 30], argTypes := #[38] }, 3, none⟩, ⟨some 32, .move (.const (.int .i64 0)), 3, none⟩]) (.block 2 (.loop q_i_HunksPut_l0)))))) (q_i_HunksPut_c2)
@[simp] theorem q_i_HunksPut_c3_run : type_of% (run_is q_i_HunksPut_c3.eq_1) := run_is q_i_HunksPut_c3.eq_1
def q_i_HunksPut_l1 : QCode := .seq (.ops [⟨some 14, .binOp .lss 3 (.tmp 13) (.tmp 12) 3, 0, none⟩]) (.seq (.cond (.tmp 14) (.skip) (.exit 0)) (q_i_HunksPut_c3))
@[simp] theorem q_i_HunksPut_l1_run : type_of% (run_is q_i_HunksPut_l1.eq_1) := run_is q_i_HunksPut_l1.eq_1
def q_i_HunksPut_c4 : QCode := .seq (.ops [⟨some 41, .call { callee := .value (.func 17), args := #[.tmp 3], argTypes := #[37] }, 9, none⟩, ⟨some 2, .assign (.tmp 41), 9, none⟩]) (.ret)
@[simp] theorem q_i_HunksPut_c4_run : type_of% (run_is q_i_HunksPut_c4.eq_1) := run_is q_i_HunksPut_c4.eq_1
def q_i_HunksPut_c5 : QCode := .seq (.ops [⟨some 3, .alloc 37, 0, none⟩]) (.seq (.seq (.ops [⟨some 11, .move (.tmp 0), 23, none⟩, ⟨some 12, .call { callee := .builtin .len, args := #[.tmp 11], argTypes := #[23] }, 3, none⟩, ⟨some 13, .move (.const (.int .i64 0)), 3, none⟩]) (.block 0 (.loop q_i_HunksPut_l1))) (q_i_HunksPut_c4))
@[simp] theorem q_i_HunksPut_c5_run : type_of% (run_is q_i_HunksPut_c5.eq_1) := run_is q_i_HunksPut_c5.eq_1
@[simp] def q_i_HunksPut : QFn := ⟨42, [(.tmp 2, 9)], .seq (.ops [⟨some 2, .assign (.const (.string { data := #[] })), 9, none⟩]) (.seq (.seq (.ops [⟨some 8, .move (.tmp 0), 23, none⟩, ⟨some 9, .call { callee := .value (.func 8), args := #[.tmp 8], argTypes := #[23] }, 4, none⟩, ⟨some 10, .unOp .not 4 (.tmp 9), 4, none⟩]) (.cond (.tmp 10) (.seq (.ops [⟨some 2, .assign (.const (.string { data := #[] })), 9, none⟩]) (.ret)) (.skip))) (q_i_HunksPut_c5))⟩
theorem conv_i_HunksPut : convF Tryd.f5 = some q_i_HunksPut := by kernel_rfl
abbrev fn_i_HunksGet : FuncId := 6
def q_i_HunksGet_c0 : QCode := .ops [⟨some 26, .move (.tmp 5), 23, none⟩, ⟨some 27, .load 40 (.tmp 6), 40, none⟩, ⟨some 28, .buildSlice 23 1 #[(0, .tmp 27)], 23, none⟩, ⟨some 29, .call { callee := .builtin .append, args := #[.tmp 26, .tmp 28], argTypes := #[23, 23] }, 23, none⟩, ⟨some 5, .assign (.tmp 29), 23, none⟩]
@[simp] theorem q_i_HunksGet_c0_run : type_of% (run_is q_i_HunksGet_c0.eq_1) := run_is q_i_HunksGet_c0.eq_1
def q_i_HunksGet_c1 : QCode := .block 1 (.seq (.ops [⟨some 16, .call { callee := .value (.func 18), args := #[.tmp 4], argTypes := #[50] }, 51, none⟩, ⟨some 15, .move (.tmp 16), 51, none⟩, ⟨some 17, .extract (.tmp 15) 0, 40, none⟩, ⟨some 18, .extract (.tmp 15) 1, 4, none⟩, ⟨some 6, .alloc 40, 0, none⟩, ⟨none, .store 40 (.tmp 6) (.tmp 17), 0, none⟩, ⟨some 7, .assign (.tmp 18), 4, none⟩]) (.seq (.seq (.ops [⟨some 19, .move (.tmp 7), 4, none⟩, ⟨some 20, .unOp .not 4 (.tmp 19), 4, none⟩, ⟨some 21, .move (.tmp 20), 4, none⟩, ⟨some 22, .move (.tmp 5), 23, some (21, false)⟩, ⟨some 23, .call { callee := .builtin .len, args := #[.tmp 22], argTypes := #[23] }, 3, some (21, false)⟩, ⟨some 24, .binOp .eql 3 (.tmp 23) (.const (.int .i64 4)) 3, 4, some (21, false)⟩, ⟨some 25, .pick (.tmp 21) (.const (.bool true)) (.tmp 24), 4, none⟩]) (.cond (.tmp 25) (.seq (.ops [⟨some 2, .assign (.const (.slice none 0 0)), 23, none⟩, ⟨some 3, .assign (.const (.bool false)), 4, none⟩]) (.ret)) (.skip))) (q_i_HunksGet_c0)))
@[simp] theorem q_i_HunksGet_c1_run : type_of% (run_is q_i_HunksGet_c1.eq_1) := run_is q_i_HunksGet_c1.eq_1
def q_i_HunksGet_l0 : QCode := .seq (.seq (.ops [⟨some 11, .fieldAddr 50 (.tmp 4) 0, 0, none⟩, ⟨some 12, .fieldAddr 48 (.tmp 11) 0, 0, none⟩, ⟨some 13, .load 9 (.tmp 12), 9, none⟩, ⟨some 14, .binOp .neq 9 (.tmp 13) (.const (.string { data := #[] })) 9, 4, none⟩]) (.cond (.tmp 14) (.skip) (.exit 0))) (q_i_HunksGet_c1)
@[simp] theorem q_i_HunksGet_l0_run : type_of% (run_is q_i_HunksGet_l0.eq_1) := run_is q_i_HunksGet_l0.eq_1
def q_i_HunksGet_c2 : QCode := .seq (.ops [⟨some 33, .move (.tmp 5), 23, none⟩, ⟨some 2, .assign (.tmp 33), 23, none⟩, ⟨some 3, .assign (.const (.bool true)), 4, none⟩]) (.ret)
@[simp] theorem q_i_HunksGet_c2_run : type_of% (run_is q_i_HunksGet_c2.eq_1) := run_is q_i_HunksGet_c2.eq_1
def q_i_HunksGet_c3 : QCode := .seq (.seq (.ops [⟨some 30, .move (.tmp 5), 23, none⟩, ⟨some 31, .call { callee := .value (.func 8), args := #[.tmp 30], argTypes := #[23] }, 4, none⟩, ⟨some 32, .unOp .not 4 (.tmp 31), 4, none⟩]) (.cond (.tmp 32) (.seq (.ops [⟨some 2, .assign (.const (.slice none 0 0)), 23, none⟩, ⟨some 3, .assign (.const (.bool false)), 4, none⟩]) (.ret)) (.skip))) (q_i_HunksGet_c2)
@[simp] theorem q_i_HunksGet_c3_run : type_of% (run_is q_i_HunksGet_c3.eq_1) := run_is q_i_HunksGet_c3.eq_1
@[simp] def q_i_HunksGet : QFn := ⟨34, [(.tmp 2, 23), (.tmp 3, 4)], .seq (.ops [⟨some 2, .assign (.const (.slice none 0 0)), 23, none⟩, ⟨some 3, .assign (.const (.bool false)), 4, none⟩]) (.seq (.ops [⟨some 8, .move (.tmp 0), 9, none⟩, ⟨some 9, .build 48 #[(0, .tmp 8)], 48, none⟩, ⟨some 10, .build 50 #[(0, .tmp 9)], 50, none⟩, ⟨some 4, .alloc 50, 0, none⟩, ⟨none, .store 50 (.tmp 4) (.tmp 10), 0, none⟩]) (.seq (.ops [⟨some 5, .assign (.const (.slice none 0 0)), 23, none⟩]) (.seq (.block 0 (.loop q_i_HunksGet_l0)) (q_i_HunksGet_c3))))⟩
theorem conv_i_HunksGet : convF Tryd.f6 = some q_i_HunksGet := by kernel_rfl
abbrev fn_s_HunksPut : FuncId := 7
def q_s_HunksPut_c0 : QCode := .seq (.ops [⟨some 6, .move (.tmp 0), 23, none⟩, ⟨some 7, .call { callee := .value (.func 19), args := #[.tmp 6], argTypes := #[23] }, 9, none⟩, ⟨some 2, .assign (.tmp 7), 9, none⟩]) (.ret)
@[simp] theorem q_s_HunksPut_c0_run : type_of% (run_is q_s_HunksPut_c0.eq_1) := run_is q_s_HunksPut_c0.eq_1
@[simp] def q_s_HunksPut : QFn := ⟨8, [(.tmp 2, 9)], .seq (.ops [⟨some 2, .assign (.const (.string { data := #[] })), 9, none⟩]) (.seq (.seq (.ops [⟨some 3, .move (.tmp 0), 23, none⟩, ⟨some 4, .call { callee := .value (.func 9), args := #[.tmp 3], argTypes := #[23] }, 4, none⟩, ⟨some 5, .unOp .not 4 (.tmp 4), 4, none⟩]) (.cond (.tmp 5) (.seq (.ops [⟨some 2, .assign (.const (.string { data := #[] })), 9, none⟩]) (.ret)) (.skip))) (q_s_HunksPut_c0))⟩
theorem conv_s_HunksPut : convF Tryd.f7 = some q_s_HunksPut := by kernel_rfl
abbrev fn_i_HunksOk : FuncId := 8
def q_i_HunksOk_c0 : QCode := .seq (.ops [⟨some 43, .fieldAddr 40 (.tmp 5) 1, 0, none⟩, ⟨some 44, .load 38 (.tmp 43), 38, none⟩, ⟨some 45, .call { callee := .value (.func 22), args := #[.tmp 44], argTypes := #[38] }, 55, none⟩, ⟨some 42, .move (.tmp 45), 55, none⟩, ⟨some 46, .extract (.tmp 42) 0, 38, none⟩, ⟨some 47, .extract (.tmp 42) 1, 38, none⟩, ⟨some 6, .assign (.tmp 46), 38, none⟩, ⟨some 7, .assign (.tmp 47), 38, none⟩]) (.ops [⟨some 48, .fieldAddr 40 (.tmp 5) 0, 0, none⟩, ⟨some 49, .load 3 (.tmp 48), 3, none⟩, ⟨some 50, .move (.tmp 6), 38, none⟩, ⟨some 51, .call { callee := .builtin .len, args := #[.tmp 50], argTypes := #[38] }, 3, none⟩, ⟨some 52, .binOp .add 3 (.tmp 49) (.tmp 51) 3, 3, none⟩, ⟨some 3, .assign (.tmp 52), 3, none⟩])
@[simp] theorem q_i_HunksOk_c0_run : type_of% (run_is q_i_HunksOk_c0.eq_1) := run_is q_i_HunksOk_c0.eq_1
def q_i_HunksOk_c1 : QCode := .seq (.seq (.ops [⟨some 38, .fieldAddr 40 (.tmp 5) 1, 0, none⟩, ⟨some 39, .load 38 (.tmp 38), 38, none⟩, ⟨some 40, .call { callee := .value (.func 20), args := #[.tmp 39, .func 21], argTypes := #[38, 54] }, 4, none⟩, ⟨some 41, .unOp .not 4 (.tmp 40), 4, none⟩]) (.cond (.tmp 41) (.seq (.ops [⟨some 2, .assign (.const (.bool false)), 4, none⟩]) (.ret)) (.skip))) (q_i_HunksOk_c0)
@[simp] theorem q_i_HunksOk_c1_run : type_of% (run_is q_i_HunksOk_c1.eq_1) := run_is q_i_HunksOk_c1.eq_1
def q_i_HunksOk_c2 : QCode := .ops [⟨some 53, .binOp .add 3 (.tmp 13) (.const (.int .i64 1)) 3, 3, none⟩, ⟨some 13, .move (.tmp 53), 3, none⟩]
@[simp] theorem q_i_HunksOk_c2_run : type_of% (run_is q_i_HunksOk_c2.eq_1) := run_is q_i_HunksOk_c2.eq_1
def q_i_HunksOk_c3 : QCode := .seq (.block 1 (.seq (.ops [⟨some 15, .indexAddr 23 (.tmp 11) (.tmp 13), 0, none⟩, ⟨some 16, .load 40 (.tmp 15), 40, none⟩, ⟨some 5, .alloc 40, 0, none⟩, ⟨none, .store 40 (.tmp 5) (.tmp 16), 0, none⟩]) (.seq (.seq (.ops [⟨some 17, .fieldAddr 40 (.tmp 5) 0, 0, none⟩, ⟨some 18, .load 3 (.tmp 17), 3, none⟩, ⟨some 19, .move (.tmp 3), 3, none⟩, ⟨some 20, .binOp .lss 3 (.tmp 18) (.tmp 19) 3, 4, none⟩, ⟨some 21, .move (.tmp 20), 4, none⟩, ⟨some 22, .fieldAddr 40 (.tmp 5) 0, 0, some (21, false)⟩, ⟨some 23, .load 3 (.tmp 22), 3, some (21, false)⟩, ⟨some 24, .binOp .gtr 3 (.tmp 23) (.const (.int .i64 999)) 3, 4, some (21, false)⟩, ⟨some 25, .pick (.tmp 21) (.const (.bool true)) (.tmp 24), 4, none⟩, ⟨some 26, .move (.tmp 25), 4, none⟩, ⟨some 27, .fieldAddr 40 (.tmp 5) 1, 0, some (26, false)⟩, ⟨some 28, .load 38 (.tmp 27), 38, some (26, false)⟩, ⟨some 29, .call { callee := .builtin .len, args := #[.tmp 28], argTypes := #[38] }, 3, some (26, false)⟩, ⟨some 30, .binOp .lss 3 (.tmp 29) (.const (.int .i64 1)) 3, 4, some (26, false)⟩, ⟨some 31, .pick (.tmp 26) (.const (.bool true)) (.tmp 30), 4, none⟩, ⟨some 32, .move (.tmp 31), 4, none⟩, ⟨some 33, .fieldAddr 40 (.tmp 5) 1, 0, some (32, false)⟩, ⟨some 34, .load 38 (.tmp 33), 38, some (32, false)⟩, ⟨some 35, .call { callee := .builtin .len, args := #[.tmp 34], argTypes := #[38] }, 3, some (32, false)⟩, ⟨some 36, .binOp .gtr 3 (.tmp 35) (.const (.int .i64 30)) 3, 4, some (32, false)⟩, ⟨some 37, .pick (.tmp 32) (.const (.bool true)) (.tmp 36), 4, none⟩]) (.cond (.tmp 37) (.seq (.ops [⟨some 2, .assign (.const (.bool false)), 4, none⟩]) (.ret)) (.skip))) (q_i_HunksOk_c1)))) (q_i_HunksOk_c2)
@[simp] theorem q_i_HunksOk_c3_run : type_of% (run_is q_i_HunksOk_c3.eq_1) := run_is q_i_HunksOk_c3.eq_1
def q_i_HunksOk_l0 : QCode := .seq (.ops [⟨some 14, .binOp .lss 3 (.tmp 13) (.tmp 12) 3, 0, none⟩]) (.seq (.cond (.tmp 14) (.skip) (.exit 0)) (q_i_HunksOk_c3))
@[simp] theorem q_i_HunksOk_l0_run : type_of% (run_is q_i_HunksOk_l0.eq_1) := run_is q_i_HunksOk_l0.eq_1
def q_i_HunksOk_c4 : QCode := .seq (.ops [⟨some 2, .assign (.const (.bool true)), 4, none⟩]) (.ret)
@[simp] theorem q_i_HunksOk_c4_run : type_of% (run_is q_i_HunksOk_c4.eq_1) := run_is q_i_HunksOk_c4.eq_1
def q_i_HunksOk_c5 : QCode := .seq (.ops [⟨some 3, .assign (.const (.int .i64 1)), 3, none⟩]) (.seq (.seq (.ops [⟨some 11, .move (.tmp 0), 23, none⟩, ⟨some 12, .call { callee := .builtin .len, args := #[.tmp 11], argTypes := #[23] }, 3, none⟩, ⟨some 13, .move (.const (.int .i64 0)), 3, none⟩]) (.block 0 (.loop q_i_HunksOk_l0))) (q_i_HunksOk_c4))
@[simp] theorem q_i_HunksOk_c5_run : type_of% (run_is q_i_HunksOk_c5.eq_1) := run_is q_i_HunksOk_c5.eq_1
@[simp] def q_i_HunksOk : QFn := ⟨54, [(.tmp 2, 4)], .seq (.ops [⟨some 2, .assign (.const (.bool false)), 4, none⟩]) (.seq (.seq (.ops [⟨some 8, .move (.tmp 0), 23, none⟩, ⟨some 9, .call { callee := .builtin .len, args := #[.tmp 8], argTypes := #[23] }, 3, none⟩, ⟨some 10, .binOp .gtr 3 (.tmp 9) (.const (.int .i64 4)) 3, 4, none⟩]) (.cond (.tmp 10) (.seq (.ops [⟨some 2, .assign (.const (.bool false)), 4, none⟩]) (.ret)) (.skip))) (q_i_HunksOk_c5))⟩
theorem conv_i_HunksOk : convF Tryd.f8 = some q_i_HunksOk := by kernel_rfl
abbrev fn_s_HunksOk : FuncId := 9
def q_s_HunksOk_c0 : QCode := .ops [⟨some 8, .move (.tmp 3), 3, none⟩, ⟨some 9, .binOp .add 3 (.tmp 8) (.const (.int .i64 1)) 3, 3, none⟩, ⟨some 3, .assign (.tmp 9), 3, none⟩]
@[simp] theorem q_s_HunksOk_c0_run : type_of% (run_is q_s_HunksOk_c0.eq_1) := run_is q_s_HunksOk_c0.eq_1
def q_s_HunksOk_c1 : QCode := .seq (.block 1 (.seq (.draw [] [⟨some 10, .move (.tmp 0), 23, none⟩, ⟨some 11, .move (.tmp 3), 3, none⟩, ⟨some 12, .indexAddr 23 (.tmp 10) (.tmp 11), 0, none⟩, ⟨some 13, .load 40 (.tmp 12), 40, none⟩, ⟨some 14, .call { callee := .value (.func 23), args := #[.tmp 13], argTypes := #[40] }, 4, none⟩, ⟨some 15, .unOp .not 4 (.tmp 14), 4, none⟩, ⟨some 16, .move (.tmp 15), 4, none⟩, ⟨some 17, .move (.tmp 3), 3, some (16, false)⟩, ⟨some 18, .binOp .gtr 3 (.tmp 17) (.const (.int .i64 0)) 3, 4, some (16, false)⟩, ⟨some 19, .move (.tmp 18), 4, some (16, false)⟩, ⟨some 20, .move (.tmp 0), 23, some (19, true)⟩, ⟨some 21, .move (.tmp 3), 3, some (19, true)⟩, ⟨some 22, .indexAddr 23 (.tmp 20) (.tmp 21), 0, some (19, true)⟩, ⟨some 23, .fieldAddr 40 (.tmp 22) 0, 0, some (19, true)⟩, ⟨some 24, .load 3 (.tmp 23), 3, some (19, true)⟩, ⟨some 25, .move (.tmp 0), 23, some (19, true)⟩, ⟨some 26, .move (.tmp 3), 3, some (19, true)⟩, ⟨some 27, .binOp .sub 3 (.tmp 26) (.const (.int .i64 1)) 3, 3, some (19, true)⟩, ⟨some 28, .indexAddr 23 (.tmp 25) (.tmp 27), 0, some (19, true)⟩, ⟨some 29, .fieldAddr 40 (.tmp 28) 0, 0, some (19, true)⟩, ⟨some 30, .load 3 (.tmp 29), 3, some (19, true)⟩, ⟨some 31, .move (.tmp 0), 23, some (19, true)⟩, ⟨some 32, .move (.tmp 3), 3, some (19, true)⟩, ⟨some 33, .binOp .sub 3 (.tmp 32) (.const (.int .i64 1)) 3, 3, some (19, true)⟩, ⟨some 34, .indexAddr 23 (.tmp 31) (.tmp 33), 0, some (19, true)⟩, ⟨some 35, .load 40 (.tmp 34), 40, some (19, true)⟩, ⟨some 36, .call { callee := .value (.func 24), args := #[.tmp 35], argTypes := #[40] }, 38, some (19, true)⟩, ⟨some 37, .call { callee := .builtin .len, args := #[.tmp 36], argTypes := #[38] }, 3, some (19, true)⟩, ⟨some 38, .binOp .add 3 (.tmp 30) (.tmp 37) 3, 3, some (19, true)⟩] [⟨some 39, .binOp .lss 3 (.tmp 24) (.tmp 38) 3, 4, some (19, true)⟩, ⟨some 40, .pick (.tmp 19) (.tmp 39) (.const (.bool false)), 4, some (16, false)⟩, ⟨some 41, .pick (.tmp 16) (.const (.bool true)) (.tmp 40), 4, none⟩]) (.cond (.tmp 41) (.seq (.ops [⟨some 2, .assign (.const (.bool false)), 4, none⟩]) (.ret)) (.skip)))) (q_s_HunksOk_c0)
@[simp] theorem q_s_HunksOk_c1_run : type_of% (run_is q_s_HunksOk_c1.eq_1) := run_is q_s_HunksOk_c1.eq_1
def q_s_HunksOk_l0 : QCode := .seq (.seq (.ops [⟨some 4, .move (.tmp 3), 3, none⟩, ⟨some 5, .move (.tmp 0), 23, none⟩, ⟨some 6, .call { callee := .builtin .len, args := #[.tmp 5], argTypes := #[23] }, 3, none⟩, ⟨some 7, .binOp .lss 3 (.tmp 4) (.tmp 6) 3, 4, none⟩]) (.cond (.tmp 7) (.skip) (.exit 0))) (q_s_HunksOk_c1)
@[simp] theorem q_s_HunksOk_l0_run : type_of% (run_is q_s_HunksOk_l0.eq_1) := run_is q_s_HunksOk_l0.eq_1
def q_s_HunksOk_c2 : QCode := .seq (.ops [⟨some 42, .move (.tmp 0), 23, none⟩, ⟨some 43, .call { callee := .builtin .len, args := #[.tmp 42], argTypes := #[23] }, 3, none⟩, ⟨some 44, .binOp .leq 3 (.tmp 43) (.const (.int .i64 4)) 3, 4, none⟩, ⟨some 2, .assign (.tmp 44), 4, none⟩]) (.ret)
@[simp] theorem q_s_HunksOk_c2_run : type_of% (run_is q_s_HunksOk_c2.eq_1) := run_is q_s_HunksOk_c2.eq_1
@[simp] def q_s_HunksOk : QFn := ⟨45, [(.tmp 2, 4)], .seq (.ops [⟨some 2, .assign (.const (.bool false)), 4, none⟩]) (.seq (.seq (.ops [⟨some 3, .assign (.const (.int .i64 0)), 3, none⟩]) (.block 0 (.loop q_s_HunksOk_l0))) (q_s_HunksOk_c2))⟩
theorem conv_s_HunksOk : convF Tryd.f9 = some q_s_HunksOk := by kernel_rfl
abbrev fn_w_jsHunks : FuncId := 10
def q_w_jsHunks_c0 : QCode := .ops [⟨some 15, .move (.tmp 5), 3, none⟩, ⟨some 16, .binOp .add 3 (.tmp 15) (.const (.int .i64 1)) 3, 3, none⟩, ⟨some 5, .assign (.tmp 16), 3, none⟩]
@[simp] theorem q_w_jsHunks_c0_run : type_of% (run_is q_w_jsHunks_c0.eq_1) := run_is q_w_jsHunks_c0.eq_1
def q_w_jsHunks_c1 : QCode := .seq (.block 1 (.seq (.draw [] [⟨some 17, .move (.tmp 0), 23, none⟩, ⟨some 18, .move (.tmp 5), 3, none⟩, ⟨some 19, .indexAddr 23 (.tmp 17) (.tmp 18), 0, none⟩, ⟨some 20, .fieldAddr 40 (.tmp 19) 0, 0, none⟩, ⟨some 21, .load 3 (.tmp 20), 3, none⟩, ⟨some 22, .move (.tmp 1), 23, none⟩, ⟨some 23, .move (.tmp 5), 3, none⟩, ⟨some 24, .indexAddr 23 (.tmp 22) (.tmp 23), 0, none⟩, ⟨some 25, .fieldAddr 40 (.tmp 24) 0, 0, none⟩, ⟨some 26, .load 3 (.tmp 25), 3, none⟩, ⟨some 27, .binOp .neq 3 (.tmp 21) (.tmp 26) 3, 4, none⟩, ⟨some 28, .move (.tmp 27), 4, none⟩, ⟨some 29, .move (.tmp 0), 23, some (28, false)⟩, ⟨some 30, .move (.tmp 5), 3, some (28, false)⟩, ⟨some 31, .indexAddr 23 (.tmp 29) (.tmp 30), 0, some (28, false)⟩, ⟨some 32, .fieldAddr 40 (.tmp 31) 1, 0, some (28, false)⟩, ⟨some 33, .load 38 (.tmp 32), 38, some (28, false)⟩, ⟨some 34, .move (.tmp 1), 23, some (28, false)⟩, ⟨some 35, .move (.tmp 5), 3, some (28, false)⟩, ⟨some 36, .indexAddr 23 (.tmp 34) (.tmp 35), 0, some (28, false)⟩, ⟨some 37, .fieldAddr 40 (.tmp 36) 1, 0, some (28, false)⟩, ⟨some 38, .load 38 (.tmp 37), 38, some (28, false)⟩] [⟨some 39, .call { callee := .value (.func 25), args := #[.tmp 33, .tmp 38], argTypes := #[38, 38] }, 4, some (28, false)⟩, ⟨some 40, .unOp .not 4 (.tmp 39), 4, some (28, false)⟩, ⟨some 41, .pick (.tmp 28) (.const (.bool true)) (.tmp 40), 4, none⟩]) (.cond (.tmp 41) (.seq (.ops [⟨some 4, .assign (.const (.bool false)), 4, none⟩]) (.ret)) (.skip)))) (q_w_jsHunks_c0)
@[simp] theorem q_w_jsHunks_c1_run : type_of% (run_is q_w_jsHunks_c1.eq_1) := run_is q_w_jsHunks_c1.eq_1
def q_w_jsHunks_l0 : QCode := .seq (.seq (.ops [⟨some 11, .move (.tmp 5), 3, none⟩, ⟨some 12, .move (.tmp 0), 23, none⟩, ⟨some 13, .call { callee := .builtin .len, args := #[.tmp 12], argTypes := #[23] }, 3, none⟩, ⟨some 14, .binOp .lss 3 (.tmp 11) (.tmp 13) 3, 4, none⟩]) (.cond (.tmp 14) (.skip) (.exit 0))) (q_w_jsHunks_c1)
@[simp] theorem q_w_jsHunks_l0_run : type_of% (run_is q_w_jsHunks_l0.eq_1) := run_is q_w_jsHunks_l0.eq_1
def q_w_jsHunks_c2 : QCode := .seq (.ops [⟨some 4, .assign (.const (.bool true)), 4, none⟩]) (.ret)
@[simp] theorem q_w_jsHunks_c2_run : type_of% (run_is q_w_jsHunks_c2.eq_1) := run_is q_w_jsHunks_c2.eq_1
def q_w_jsHunks_c3 : QCode := .seq (.seq (.ops [⟨some 5, .assign (.const (.int .i64 0)), 3, none⟩]) (.block 0 (.loop q_w_jsHunks_l0))) (q_w_jsHunks_c2)
@[simp] theorem q_w_jsHunks_c3_run : type_of% (run_is q_w_jsHunks_c3.eq_1) := run_is q_w_jsHunks_c3.eq_1
@[simp] def q_w_jsHunks : QFn := ⟨42, [(.tmp 4, 4)], .seq (.ops [⟨some 4, .assign (.const (.bool false)), 4, none⟩]) (.seq (.seq (.ops [⟨some 6, .move (.tmp 0), 23, none⟩, ⟨some 7, .call { callee := .builtin .len, args := #[.tmp 6], argTypes := #[23] }, 3, none⟩, ⟨some 8, .move (.tmp 1), 23, none⟩, ⟨some 9, .call { callee := .builtin .len, args := #[.tmp 8], argTypes := #[23] }, 3, none⟩, ⟨some 10, .binOp .neq 3 (.tmp 7) (.tmp 9) 3, 4, none⟩]) (.cond (.tmp 10) (.seq (.ops [⟨some 4, .assign (.const (.bool false)), 4, none⟩]) (.ret)) (.skip))) (q_w_jsHunks_c3))⟩
theorem conv_w_jsHunks : convF Tryd.f10 = some q_w_jsHunks := by kernel_rfl
abbrev fn_s_DrawHunksGet : FuncId := 11
@[simp] def q_s_DrawHunksGet : QFn := ⟨11, [(.tmp 2, 9)], .seq (.ops [⟨some 2, .assign (.const (.string { data := #[] })), 9, none⟩]) (.seq (.ops [⟨some 4, .move (.tmp 0), 22, none⟩, ⟨some 5, .call { callee := .value (.func 14), args := #[.tmp 4], argTypes := #[22] }, 33, none⟩, ⟨some 3, .assign (.tmp 5), 33, none⟩]) (.seq (.ops [⟨some 6, .move (.tmp 3), 33, none⟩, ⟨some 7, .move (.tmp 3), 33, none⟩, ⟨some 8, .call { callee := .value (.func 27), args := #[.tmp 7], argTypes := #[33] }, 23, none⟩, ⟨some 9, .call { callee := .value (.func 7), args := #[.tmp 8], argTypes := #[23] }, 9, none⟩, ⟨some 10, .call { callee := .value (.func 26), args := #[.tmp 6, .tmp 9], argTypes := #[33, 9] }, 9, none⟩, ⟨some 2, .assign (.tmp 10), 9, none⟩]) (.ret)))⟩
theorem conv_s_DrawHunksGet : convF Tryd.f11 = some q_s_DrawHunksGet := by kernel_rfl
abbrev fn_s_HunksGet : FuncId := 12
def q_s_HunksGet_c0 : QCode := .seq (.ops [⟨some 14, .move (.tmp 4), 23, none⟩, ⟨some 2, .assign (.tmp 14), 23, none⟩, ⟨some 3, .assign (.const (.bool true)), 4, none⟩]) (.ret)
@[simp] theorem q_s_HunksGet_c0_run : type_of% (run_is q_s_HunksGet_c0.eq_1) := run_is q_s_HunksGet_c0.eq_1
@[simp] def q_s_HunksGet : QFn := ⟨15, [(.tmp 2, 23), (.tmp 3, 4)], .seq (.ops [⟨some 2, .assign (.const (.slice none 0 0)), 23, none⟩, ⟨some 3, .assign (.const (.bool false)), 4, none⟩]) (.seq (.ops [⟨some 7, .move (.tmp 0), 9, none⟩, ⟨some 8, .call { callee := .value (.func 28), args := #[.tmp 7], argTypes := #[9] }, 26, none⟩, ⟨some 6, .move (.tmp 8), 26, none⟩, ⟨some 9, .extract (.tmp 6) 0, 23, none⟩, ⟨some 10, .extract (.tmp 6) 1, 4, none⟩, ⟨some 4, .assign (.tmp 9), 23, none⟩, ⟨some 5, .assign (.tmp 10), 4, none⟩]) (.seq (.seq (.ops [⟨some 11, .move (.tmp 5), 4, none⟩, ⟨some 12, .unOp .not 4 (.tmp 11), 4, none⟩]) (.cond (.tmp 12) (.seq (.ops [⟨some 13, .buildSlice 23 0 #[], 23, none⟩, ⟨some 2, .assign (.tmp 13), 23, none⟩, ⟨some 3, .assign (.const (.bool false)), 4, none⟩]) (.ret)) (.skip))) (q_s_HunksGet_c0)))⟩
theorem conv_s_HunksGet : convF Tryd.f12 = some q_s_HunksGet := by kernel_rfl
abbrev fn_s_l11AnyHunks : FuncId := 13
def q_s_l11AnyHunks_c0 : QCode := .seq (.ops [⟨some 28, .move (.tmp 3), 23, none⟩, ⟨some 2, .assign (.tmp 28), 23, none⟩]) (.ret)
@[simp] theorem q_s_l11AnyHunks_c0_run : type_of% (run_is q_s_l11AnyHunks_c0.eq_1) := run_is q_s_l11AnyHunks_c0.eq_1
@[simp] def q_s_l11AnyHunks : QFn := ⟨29, [(.tmp 2, 23)], .seq (.ops [⟨some 2, .assign (.const (.slice none 0 0)), 23, none⟩]) (.seq (.ops [⟨some 4, .buildSlice 23 0 #[], 23, none⟩, ⟨some 5, .move (.tmp 0), 33, none⟩, ⟨some 6, .call { callee := .value (.func 27), args := #[.tmp 5], argTypes := #[33] }, 23, none⟩, ⟨some 7, .call { callee := .builtin .append, args := #[.tmp 4, .tmp 6], argTypes := #[23, 23] }, 23, none⟩, ⟨some 3, .assign (.tmp 7), 23, none⟩]) (.seq (.seq (.ops [⟨some 8, .move (.tmp 0), 33, none⟩, ⟨some 9, .call { callee := .value (.func 29), args := #[.tmp 8, .const (.int .i64 12)], argTypes := #[33, 3] }, 3, none⟩]) (.block 0 (.seq (.ops [⟨some 11, .binOp .eql 3 (.tmp 9) (.const (.int .i64 0)) 3, 4, none⟩, ⟨some 10, .assign (.tmp 11), 4, none⟩]) (.cond (.tmp 10) (.ops [⟨some 12, .move (.tmp 3), 23, none⟩, ⟨some 13, .move (.tmp 0), 33, none⟩, ⟨some 14, .buildSlice 63 4 #[(0, .const (.int .i64 0)), (1, .const (.int .i64 1)), (2, .const (.int .i64 1000)), (3, .const (.int .i64 30))], 63, none⟩, ⟨some 15, .call { callee := .value (.func 30), args := #[.tmp 13, .tmp 14], argTypes := #[33, 63] }, 3, none⟩, ⟨some 16, .move (.tmp 0), 33, none⟩, ⟨some 17, .buildSlice 38 4 #[(0, .const (.string { data := #[] })), (1, .const (.string { data := #[120] })), (2, .const (.string { data := #[32, 10] })), (3, .const (.string { data := #[43, 111, 107] }))], 38, none⟩, ⟨some 18, .call { callee := .value (.func 31), args := #[.tmp 16, .tmp 17], argTypes := #[33, 38] }, 9, none⟩, ⟨some 19, .buildSlice 38 1 #[(0, .tmp 18)], 38, none⟩, ⟨some 20, .build 40 #[(0, .tmp 15), (1, .tmp 19)], 40, none⟩, ⟨some 21, .buildSlice 23 1 #[(0, .tmp 20)], 23, none⟩, ⟨some 22, .call { callee := .builtin .append, args := #[.tmp 12, .tmp 21], argTypes := #[23, 23] }, 23, none⟩, ⟨some 3, .assign (.tmp 22), 23, none⟩]) (.seq (.ops [⟨some 24, .binOp .eql 3 (.tmp 9) (.const (.int .i64 1)) 3, 4, none⟩, ⟨some 23, .assign (.tmp 24), 4, none⟩]) (.cond (.tmp 23) (.ops [⟨some 25, .move (.tmp 3), 23, none⟩, ⟨some 26, .move (.tmp 3), 23, none⟩, ⟨some 27, .call { callee := .builtin .append, args := #[.tmp 25, .tmp 26], argTypes := #[23, 23] }, 23, none⟩, ⟨some 3, .assign (.tmp 27), 23, none⟩]) (.skip))))))) (q_s_l11AnyHunks_c0)))⟩
theorem conv_s_l11AnyHunks : convF Tryd.f13 = some q_s_l11AnyHunks := by kernel_rfl
@[simp] def q_strings_Builder_WriteString : QFn := ⟨19, [(.tmp 4, 3), (.tmp 5, 42)], .seq (.ops [⟨some 4, .assign (.const (.int .i64 0)), 3, none⟩, ⟨some 5, .assign (.const .nilIface), 42, none⟩]) (.seq (.ops [⟨some 6, .move (.tmp 0), 35, none⟩, ⟨some 7, .call { callee := .value (.func 32), args := #[.tmp 6], argTypes := #[35] }, 0, none⟩]) (.seq (.ops [⟨some 8, .move (.tmp 0), 35, none⟩, ⟨some 9, .move (.tmp 0), 35, none⟩, ⟨some 10, .nilCheck (.tmp 9), 0, none⟩, ⟨some 11, .fieldAddr 37 (.tmp 10) 1, 0, none⟩, ⟨some 12, .load 22 (.tmp 11), 22, none⟩, ⟨some 13, .move (.tmp 1), 9, none⟩, ⟨some 14, .call { callee := .builtin .append, args := #[.tmp 12, .tmp 13], argTypes := #[22, 9] }, 22, none⟩, ⟨some 15, .nilCheck (.tmp 8), 0, none⟩, ⟨some 16, .fieldAddr 37 (.tmp 15) 1, 0, none⟩, ⟨none, .store 22 (.tmp 16) (.tmp 14), 0, none⟩]) (.seq (.ops [⟨some 17, .move (.tmp 1), 9, none⟩, ⟨some 18, .call { callee := .builtin .len, args := #[.tmp 17], argTypes := #[9] }, 3, none⟩, ⟨some 4, .assign (.tmp 18), 3, none⟩, ⟨some 5, .assign (.const .nilIface), 42, none⟩]) (.ret))))⟩
theorem conv_strings_Builder_WriteString : convF Tryd.f15 = some q_strings_Builder_WriteString := by kernel_rfl
abbrev fn_i_hunkReader_hunk : FuncId := 18
def q_i_hunkReader_hunk_c0 : QCode := .ops [⟨some 69, .fieldAddr 40 (.tmp 11) 1, 0, none⟩, ⟨some 70, .load 38 (.tmp 69), 38, none⟩, ⟨some 71, .move (.tmp 12), 9, none⟩, ⟨some 72, .buildSlice 38 1 #[(0, .tmp 71)], 38, none⟩, ⟨some 73, .call { callee := .builtin .append, args := #[.tmp 70, .tmp 72], argTypes := #[38, 38] }, 38, none⟩, ⟨some 74, .fieldAddr 40 (.tmp 11) 1, 0, none⟩, ⟨none, .store 38 (.tmp 74) (.tmp 73), 0, none⟩]
@[simp] theorem q_i_hunkReader_hunk_c0_run : type_of% (run_is q_i_hunkReader_hunk_c0.eq_1) := run_is q_i_hunkReader_hunk_c0.eq_1
def q_i_hunkReader_hunk_c1 : QCode := .ops [⟨some 75, .binOp .add 3 (.tmp 57) (.const (.int .i64 1)) 3, 3, none⟩, ⟨some 57, .move (.tmp 75), 3, none⟩]
@[simp] theorem q_i_hunkReader_hunk_c1_run : type_of% (run_is q_i_hunkReader_hunk_c1.eq_1) := run_is q_i_hunkReader_hunk_c1.eq_1
def q_i_hunkReader_hunk_c2 : QCode := .seq (.block 1 (.seq (.ops [⟨some 60, .move (.tmp 0), 68, none⟩, ⟨some 61, .nilCheck (.tmp 60), 0, none⟩, ⟨some 62, .fieldAddr 50 (.tmp 61) 0, 0, none⟩, ⟨some 63, .call { callee := .value (.func 34), args := #[.tmp 62], argTypes := #[48] }, 69, none⟩, ⟨some 59, .move (.tmp 63), 69, none⟩, ⟨some 64, .extract (.tmp 59) 0, 9, none⟩, ⟨some 65, .extract (.tmp 59) 1, 4, none⟩, ⟨some 12, .assign (.tmp 64), 9, none⟩, ⟨some 13, .assign (.tmp 65), 4, none⟩]) (.seq (.seq (.ops [⟨some 66, .move (.tmp 13), 4, none⟩, ⟨some 67, .unOp .not 4 (.tmp 66), 4, none⟩]) (.cond (.tmp 67) (.seq (.ops [⟨some 68, .build 40 #[], 40, none⟩, ⟨none, .store 40 (.tmp 2) (.tmp 68), 0, none⟩, ⟨some 3, .assign (.const (.bool false)), 4, none⟩]) (.ret)) (.skip))) (q_i_hunkReader_hunk_c0)))) (q_i_hunkReader_hunk_c1)
@[simp] theorem q_i_hunkReader_hunk_c2_run : type_of% (run_is q_i_hunkReader_hunk_c2.eq_1) := run_is q_i_hunkReader_hunk_c2.eq_1
def q_i_hunkReader_hunk_l0 : QCode := .seq (.ops [⟨some 58, .binOp .lss 3 (.tmp 57) (.tmp 56) 3, 4, none⟩]) (.seq (.cond (.tmp 58) (.skip) (.exit 0)) (q_i_hunkReader_hunk_c2))
@[simp] theorem q_i_hunkReader_hunk_l0_run : type_of% (run_is q_i_hunkReader_hunk_l0.eq_1) := run_is q_i_hunkReader_hunk_l0.eq_1
def q_i_hunkReader_hunk_c3 : QCode := .seq (.ops [⟨some 76, .load 40 (.tmp 11), 40, none⟩, ⟨none, .store 40 (.tmp 2) (.tmp 76), 0, none⟩, ⟨some 3, .assign (.const (.bool true)), 4, none⟩]) (.ret)
@[simp] theorem q_i_hunkReader_hunk_c3_run : type_of% (run_is q_i_hunkReader_hunk_c3.eq_1) := run_is q_i_hunkReader_hunk_c3.eq_1
def q_i_hunkReader_hunk_c4 : QCode := .seq (.ops [⟨some 54, .move (.tmp 7), 3, none⟩, ⟨some 55, .build 40 #[(0, .tmp 54)], 40, none⟩, ⟨some 11, .alloc 40, 0, none⟩, ⟨none, .store 40 (.tmp 11) (.tmp 55), 0, none⟩]) (.seq (.seq (.ops [⟨some 56, .move (.tmp 9), 3, none⟩, ⟨some 57, .move (.const (.int .i64 0)), 3, none⟩]) (.block 0 (.loop q_i_hunkReader_hunk_l0))) (q_i_hunkReader_hunk_c3))
@[simp] theorem q_i_hunkReader_hunk_c4_run : type_of% (run_is q_i_hunkReader_hunk_c4.eq_1) := run_is q_i_hunkReader_hunk_c4.eq_1
def q_i_hunkReader_hunk_c5 : QCode := .seq (.ops [⟨some 34, .move (.tmp 6), 38, none⟩, ⟨some 35, .indexAddr 38 (.tmp 34) (.const (.int .i64 1)), 0, none⟩, ⟨some 36, .load 9 (.tmp 35), 9, none⟩, ⟨some 37, .call { callee := .value (.func 36), args := #[.tmp 36, .const (.int .i64 999)], argTypes := #[9, 3] }, 72, none⟩, ⟨some 33, .move (.tmp 37), 72, none⟩, ⟨some 38, .extract (.tmp 33) 0, 3, none⟩, ⟨some 39, .extract (.tmp 33) 1, 4, none⟩, ⟨some 7, .assign (.tmp 38), 3, none⟩, ⟨some 8, .assign (.tmp 39), 4, none⟩]) (.seq (.ops [⟨some 41, .move (.tmp 6), 38, none⟩, ⟨some 42, .indexAddr 38 (.tmp 41) (.const (.int .i64 2)), 0, none⟩, ⟨some 43, .load 9 (.tmp 42), 9, none⟩, ⟨some 44, .call { callee := .value (.func 36), args := #[.tmp 43, .const (.int .i64 30)], argTypes := #[9, 3] }, 72, none⟩, ⟨some 40, .move (.tmp 44), 72, none⟩, ⟨some 45, .extract (.tmp 40) 0, 3, none⟩, ⟨some 46, .extract (.tmp 40) 1, 4, none⟩, ⟨some 9, .assign (.tmp 45), 3, none⟩, ⟨some 10, .assign (.tmp 46), 4, none⟩]) (.seq (.seq (.ops [⟨some 47, .move (.tmp 8), 4, none⟩, ⟨some 48, .unOp .not 4 (.tmp 47), 4, none⟩, ⟨some 49, .move (.tmp 48), 4, none⟩, ⟨some 50, .move (.tmp 10), 4, some (49, false)⟩, ⟨some 51, .unOp .not 4 (.tmp 50), 4, some (49, false)⟩, ⟨some 52, .pick (.tmp 49) (.const (.bool true)) (.tmp 51), 4, none⟩]) (.cond (.tmp 52) (.seq (.ops [⟨some 53, .build 40 #[], 40, none⟩, ⟨none, .store 40 (.tmp 2) (.tmp 53), 0, none⟩, ⟨some 3, .assign (.const (.bool false)), 4, none⟩]) (.ret)) (.skip))) (q_i_hunkReader_hunk_c4)))
@[simp] theorem q_i_hunkReader_hunk_c5_run : type_of% (run_is q_i_hunkReader_hunk_c5.eq_1) := run_is q_i_hunkReader_hunk_c5.eq_1
@[simp] def q_i_hunkReader_hunk : QFn := ⟨77, [(.cell 2 40, 40), (.tmp 3, 4)], .seq (.ops [⟨some 2, .alloc 40, 0, none⟩, ⟨some 3, .assign (.const (.bool false)), 4, none⟩]) (.seq (.ops [⟨some 15, .move (.tmp 0), 68, none⟩, ⟨some 16, .nilCheck (.tmp 15), 0, none⟩, ⟨some 17, .fieldAddr 50 (.tmp 16) 0, 0, none⟩, ⟨some 18, .call { callee := .value (.func 34), args := #[.tmp 17], argTypes := #[48] }, 69, none⟩, ⟨some 14, .move (.tmp 18), 69, none⟩, ⟨some 19, .extract (.tmp 14) 0, 9, none⟩, ⟨some 20, .extract (.tmp 14) 1, 4, none⟩, ⟨some 4, .assign (.tmp 19), 9, none⟩, ⟨some 5, .assign (.tmp 20), 4, none⟩]) (.seq (.ops [⟨some 21, .move (.tmp 4), 9, none⟩, ⟨some 22, .call { callee := .value (.func 35), args := #[.tmp 21, .const (.string { data := #[32] }), .const (.int .i64 4)], argTypes := #[9, 9, 3] }, 38, none⟩, ⟨some 6, .assign (.tmp 22), 38, none⟩]) (.seq (.seq (.ops [⟨some 23, .move (.tmp 6), 38, none⟩, ⟨some 24, .call { callee := .builtin .len, args := #[.tmp 23], argTypes := #[38] }, 3, none⟩, ⟨some 25, .binOp .neq 3 (.tmp 24) (.const (.int .i64 3)) 3, 4, none⟩, ⟨some 26, .move (.tmp 25), 4, none⟩, ⟨some 27, .move (.tmp 6), 38, some (26, false)⟩, ⟨some 28, .indexAddr 38 (.tmp 27) (.const (.int .i64 0)), 0, some (26, false)⟩, ⟨some 29, .load 9 (.tmp 28), 9, some (26, false)⟩, ⟨some 30, .binOp .neq 9 (.tmp 29) (.const (.string { data := #[64] })) 9, 4, some (26, false)⟩, ⟨some 31, .pick (.tmp 26) (.const (.bool true)) (.tmp 30), 4, none⟩]) (.cond (.tmp 31) (.seq (.ops [⟨some 32, .build 40 #[], 40, none⟩, ⟨none, .store 40 (.tmp 2) (.tmp 32), 0, none⟩, ⟨some 3, .assign (.const (.bool false)), 4, none⟩]) (.ret)) (.skip))) (q_i_hunkReader_hunk_c5))))⟩
theorem conv_i_hunkReader_hunk : convF Tryd.f18 = some q_i_hunkReader_hunk := by kernel_rfl
abbrev fn_s_l5Put : FuncId := 19
def q_s_l5Put_c0 : QCode := .ops [⟨some 39, .move (.tmp 5), 3, none⟩, ⟨some 40, .binOp .add 3 (.tmp 39) (.const (.int .i64 1)) 3, 3, none⟩, ⟨some 5, .assign (.tmp 40), 3, none⟩]
@[simp] theorem q_s_l5Put_c0_run : type_of% (run_is q_s_l5Put_c0.eq_1) := run_is q_s_l5Put_c0.eq_1
def q_s_l5Put_c1 : QCode := .seq (.block 3 (.ops [⟨some 41, .move (.tmp 3), 9, none⟩, ⟨some 42, .move (.tmp 0), 23, none⟩, ⟨some 43, .move (.tmp 4), 3, none⟩, ⟨some 44, .indexAddr 23 (.tmp 42) (.tmp 43), 0, none⟩, ⟨some 45, .fieldAddr 40 (.tmp 44) 1, 0, none⟩, ⟨some 46, .load 38 (.tmp 45), 38, none⟩, ⟨some 47, .move (.tmp 5), 3, none⟩, ⟨some 48, .indexAddr 38 (.tmp 46) (.tmp 47), 0, none⟩, ⟨some 49, .load 9 (.tmp 48), 9, none⟩, ⟨some 50, .binOp .add 9 (.tmp 41) (.tmp 49) 9, 9, none⟩, ⟨some 51, .binOp .add 9 (.tmp 50) (.const (.string { data := #[10] })) 9, 9, none⟩, ⟨some 3, .assign (.tmp 51), 9, none⟩])) (q_s_l5Put_c0)
@[simp] theorem q_s_l5Put_c1_run : type_of% (run_is q_s_l5Put_c1.eq_1) := run_is q_s_l5Put_c1.eq_1
def q_s_l5Put_l0 : QCode := .seq (.seq (.ops [⟨some 31, .move (.tmp 5), 3, none⟩, ⟨some 32, .move (.tmp 0), 23, none⟩, ⟨some 33, .move (.tmp 4), 3, none⟩, ⟨some 34, .indexAddr 23 (.tmp 32) (.tmp 33), 0, none⟩, ⟨some 35, .fieldAddr 40 (.tmp 34) 1, 0, none⟩, ⟨some 36, .load 38 (.tmp 35), 38, none⟩, ⟨some 37, .call { callee := .builtin .len, args := #[.tmp 36], argTypes := #[38] }, 3, none⟩, ⟨some 38, .binOp .lss 3 (.tmp 31) (.tmp 37) 3, 4, none⟩]) (.cond (.tmp 38) (.skip) (.exit 2))) (q_s_l5Put_c1)
@[simp] theorem q_s_l5Put_l0_run : type_of% (run_is q_s_l5Put_l0.eq_1) := run_is q_s_l5Put_l0.eq_1
def q_s_l5Put_c2 : QCode := .ops [⟨some 10, .move (.tmp 4), 3, none⟩, ⟨some 11, .binOp .add 3 (.tmp 10) (.const (.int .i64 1)) 3, 3, none⟩, ⟨some 4, .assign (.tmp 11), 3, none⟩]
@[simp] theorem q_s_l5Put_c2_run : type_of% (run_is q_s_l5Put_c2.eq_1) := run_is q_s_l5Put_c2.eq_1
def q_s_l5Put_c3 : QCode := .seq (.block 1 (.seq (.draw [] [⟨some 12, .move (.tmp 3), 9, none⟩, ⟨some 13, .binOp .add 9 (.tmp 12) (.const (.string { data := #[64, 32] })) 9, 9, none⟩, ⟨some 14, .move (.tmp 0), 23, none⟩, ⟨some 15, .move (.tmp 4), 3, none⟩, ⟨some 16, .indexAddr 23 (.tmp 14) (.tmp 15), 0, none⟩, ⟨some 17, .fieldAddr 40 (.tmp 16) 0, 0, none⟩, ⟨some 18, .load 3 (.tmp 17), 3, none⟩, ⟨some 19, .call { callee := .value (.func 37), args := #[.tmp 18], argTypes := #[3] }, 9, none⟩, ⟨some 20, .binOp .add 9 (.tmp 13) (.tmp 19) 9, 9, none⟩, ⟨some 21, .binOp .add 9 (.tmp 20) (.const (.string { data := #[32] })) 9, 9, none⟩, ⟨some 22, .move (.tmp 0), 23, none⟩, ⟨some 23, .move (.tmp 4), 3, none⟩, ⟨some 24, .indexAddr 23 (.tmp 22) (.tmp 23), 0, none⟩, ⟨some 25, .fieldAddr 40 (.tmp 24) 1, 0, none⟩, ⟨some 26, .load 38 (.tmp 25), 38, none⟩, ⟨some 27, .call { callee := .builtin .len, args := #[.tmp 26], argTypes := #[38] }, 3, none⟩, ⟨some 28, .call { callee := .value (.func 37), args := #[.tmp 27], argTypes := #[3] }, 9, none⟩] [⟨some 29, .binOp .add 9 (.tmp 21) (.tmp 28) 9, 9, none⟩, ⟨some 30, .binOp .add 9 (.tmp 29) (.const (.string { data := #[10] })) 9, 9, none⟩, ⟨some 3, .assign (.tmp 30), 9, none⟩]) (.seq (.ops [⟨some 5, .assign (.const (.int .i64 0)), 3, none⟩]) (.block 2 (.loop q_s_l5Put_l0))))) (q_s_l5Put_c2)
@[simp] theorem q_s_l5Put_c3_run : type_of% (run_is q_s_l5Put_c3.eq_1) := run_is q_s_l5Put_c3.eq_1
def q_s_l5Put_l1 : QCode := .seq (.seq (.ops [⟨some 6, .move (.tmp 4), 3, none⟩, ⟨some 7, .move (.tmp 0), 23, none⟩, ⟨some 8, .call { callee := .builtin .len, args := #[.tmp 7], argTypes := #[23] }, 3, none⟩, ⟨some 9, .binOp .lss 3 (.tmp 6) (.tmp 8) 3, 4, none⟩]) (.cond (.tmp 9) (.skip) (.exit 0))) (q_s_l5Put_c3)
@[simp] theorem q_s_l5Put_l1_run : type_of% (run_is q_s_l5Put_l1.eq_1) := run_is q_s_l5Put_l1.eq_1
def q_s_l5Put_c4 : QCode := .seq (.ops [⟨some 52, .move (.tmp 3), 9, none⟩, ⟨some 2, .assign (.tmp 52), 9, none⟩]) (.ret)
@[simp] theorem q_s_l5Put_c4_run : type_of% (run_is q_s_l5Put_c4.eq_1) := run_is q_s_l5Put_c4.eq_1
@[simp] def q_s_l5Put : QFn := ⟨53, [(.tmp 2, 9)], .seq (.ops [⟨some 2, .assign (.const (.string { data := #[] })), 9, none⟩]) (.seq (.ops [⟨some 3, .assign (.const (.string { data := #[] })), 9, none⟩]) (.seq (.seq (.ops [⟨some 4, .assign (.const (.int .i64 0)), 3, none⟩]) (.block 0 (.loop q_s_l5Put_l1))) (q_s_l5Put_c4)))⟩
theorem conv_s_l5Put : convF Tryd.f19 = some q_s_l5Put := by kernel_rfl
abbrev fn_i_all_string : FuncId := 20
def q_i_all_string_c0 : QCode := .ops [⟨some 17, .binOp .add 3 (.tmp 9) (.const (.int .i64 1)) 3, 3, none⟩, ⟨some 9, .move (.tmp 17), 3, none⟩]
@[simp] theorem q_i_all_string_c0_run : type_of% (run_is q_i_all_string_c0.eq_1) := run_is q_i_all_string_c0.eq_1
def q_i_all_string_c1 : QCode := .seq (.block 1 (.seq (.ops [⟨some 11, .indexAddr 38 (.tmp 7) (.tmp 9), 0, none⟩, ⟨some 12, .load 9 (.tmp 11), 9, none⟩, ⟨some 6, .assign (.tmp 12), 9, none⟩]) (.seq (.ops [⟨some 13, .move (.tmp 1), 54, none⟩, ⟨some 14, .move (.tmp 6), 9, none⟩, ⟨some 15, .call { callee := .value (.tmp 13), args := #[.tmp 14], argTypes := #[9] }, 4, none⟩, ⟨some 16, .unOp .not 4 (.tmp 15), 4, none⟩]) (.cond (.tmp 16) (.seq (.ops [⟨some 4, .assign (.const (.bool false)), 4, none⟩]) (.ret)) (.skip))))) (q_i_all_string_c0)
@[simp] theorem q_i_all_string_c1_run : type_of% (run_is q_i_all_string_c1.eq_1) := run_is q_i_all_string_c1.eq_1
def q_i_all_string_l0 : QCode := .seq (.ops [⟨some 10, .binOp .lss 3 (.tmp 9) (.tmp 8) 3, 0, none⟩]) (.seq (.cond (.tmp 10) (.skip) (.exit 0)) (q_i_all_string_c1))
@[simp] theorem q_i_all_string_l0_run : type_of% (run_is q_i_all_string_l0.eq_1) := run_is q_i_all_string_l0.eq_1
def q_i_all_string_c2 : QCode := .seq (.ops [⟨some 4, .assign (.const (.bool true)), 4, none⟩]) (.ret)
@[simp] theorem q_i_all_string_c2_run : type_of% (run_is q_i_all_string_c2.eq_1) := run_is q_i_all_string_c2.eq_1
@[simp] def q_i_all_string : QFn := ⟨18, [(.tmp 4, 4)], .seq (.ops [⟨some 4, .assign (.const (.bool false)), 4, none⟩]) (.seq (.seq (.ops [⟨some 7, .move (.tmp 0), 38, none⟩, ⟨some 8, .call { callee := .builtin .len, args := #[.tmp 7], argTypes := #[38] }, 3, none⟩, ⟨some 9, .move (.const (.int .i64 0)), 3, none⟩]) (.block 0 (.loop q_i_all_string_l0))) (q_i_all_string_c2))⟩
theorem conv_i_all_string : convF Tryd.f20 = some q_i_all_string := by kernel_rfl
abbrev fn_i_hunkLineOk : FuncId := 21
@[simp] def q_i_hunkLineOk : QFn := ⟨25, [(.tmp 2, 4)], .seq (.ops [⟨some 2, .assign (.const (.bool false)), 4, none⟩]) (.seq (.ops [⟨some 3, .move (.tmp 0), 9, none⟩, ⟨some 4, .binOp .neq 9 (.tmp 3) (.const (.string { data := #[] })) 9, 4, none⟩, ⟨some 5, .move (.tmp 4), 4, none⟩, ⟨some 6, .move (.tmp 0), 9, some (5, true)⟩, ⟨some 7, .index 9 (.tmp 6) (.const (.int .i64 0)), 5, some (5, true)⟩, ⟨some 8, .binOp .eql 5 (.tmp 7) (.const (.int .u8 32)) 5, 4, some (5, true)⟩, ⟨some 9, .move (.tmp 8), 4, some (5, true)⟩, ⟨some 10, .move (.tmp 0), 9, some (9, false)⟩, ⟨some 11, .index 9 (.tmp 10) (.const (.int .i64 0)), 5, some (9, false)⟩, ⟨some 12, .binOp .eql 5 (.tmp 11) (.const (.int .u8 45)) 5, 4, some (9, false)⟩, ⟨some 13, .pick (.tmp 9) (.const (.bool true)) (.tmp 12), 4, some (5, true)⟩, ⟨some 14, .move (.tmp 13), 4, some (5, true)⟩, ⟨some 15, .move (.tmp 0), 9, some (14, false)⟩, ⟨some 16, .index 9 (.tmp 15) (.const (.int .i64 0)), 5, some (14, false)⟩, ⟨some 17, .binOp .eql 5 (.tmp 16) (.const (.int .u8 43)) 5, 4, some (14, false)⟩, ⟨some 18, .pick (.tmp 14) (.const (.bool true)) (.tmp 17), 4, some (5, true)⟩, ⟨some 19, .pick (.tmp 5) (.tmp 18) (.const (.bool false)), 4, none⟩, ⟨some 20, .move (.tmp 19), 4, none⟩, ⟨some 21, .move (.tmp 0), 9, some (20, true)⟩, ⟨some 22, .slice 9 (.tmp 21) (some (.const (.int .i64 1))) none none, 9, some (20, true)⟩, ⟨some 23, .call { callee := .value (.func 38), args := #[.tmp 22], argTypes := #[9] }, 4, some (20, true)⟩, ⟨some 24, .pick (.tmp 20) (.tmp 23) (.const (.bool false)), 4, none⟩, ⟨some 2, .assign (.tmp 24), 4, none⟩]) (.ret))⟩
theorem conv_i_hunkLineOk : convF Tryd.f21 = some q_i_hunkLineOk := by kernel_rfl
abbrev fn_i_sides : FuncId := 22
def q_i_sides_c0 : QCode := .seq (.ops [⟨some 22, .move (.tmp 7), 9, none⟩, ⟨some 23, .index 9 (.tmp 22) (.const (.int .i64 0)), 5, none⟩, ⟨some 24, .binOp .neq 5 (.tmp 23) (.const (.int .u8 45)) 5, 4, none⟩]) (.cond (.tmp 24) (.ops [⟨some 25, .move (.tmp 5), 38, none⟩, ⟨some 26, .move (.tmp 7), 9, none⟩, ⟨some 27, .slice 9 (.tmp 26) (some (.const (.int .i64 1))) none none, 9, none⟩, ⟨some 28, .buildSlice 38 1 #[(0, .tmp 27)], 38, none⟩, ⟨some 29, .call { callee := .builtin .append, args := #[.tmp 25, .tmp 28], argTypes := #[38, 38] }, 38, none⟩, ⟨some 5, .assign (.tmp 29), 38, none⟩]) (.skip))
@[simp] theorem q_i_sides_c0_run : type_of% (run_is q_i_sides_c0.eq_1) := run_is q_i_sides_c0.eq_1
def q_i_sides_c1 : QCode := .ops [⟨some 30, .binOp .add 3 (.tmp 10) (.const (.int .i64 1)) 3, 3, none⟩, ⟨some 10, .move (.tmp 30), 3, none⟩]
@[simp] theorem q_i_sides_c1_run : type_of% (run_is q_i_sides_c1.eq_1) := run_is q_i_sides_c1.eq_1
def q_i_sides_c2 : QCode := .seq (.block 1 (.seq (.ops [⟨some 12, .indexAddr 38 (.tmp 8) (.tmp 10), 0, none⟩, ⟨some 13, .load 9 (.tmp 12), 9, none⟩, ⟨some 7, .assign (.tmp 13), 9, none⟩]) (.seq (.seq (.ops [⟨some 14, .move (.tmp 7), 9, none⟩, ⟨some 15, .index 9 (.tmp 14) (.const (.int .i64 0)), 5, none⟩, ⟨some 16, .binOp .neq 5 (.tmp 15) (.const (.int .u8 43)) 5, 4, none⟩]) (.cond (.tmp 16) (.ops [⟨some 17, .move (.tmp 4), 38, none⟩, ⟨some 18, .move (.tmp 7), 9, none⟩, ⟨some 19, .slice 9 (.tmp 18) (some (.const (.int .i64 1))) none none, 9, none⟩, ⟨some 20, .buildSlice 38 1 #[(0, .tmp 19)], 38, none⟩, ⟨some 21, .call { callee := .builtin .append, args := #[.tmp 17, .tmp 20], argTypes := #[38, 38] }, 38, none⟩, ⟨some 4, .assign (.tmp 21), 38, none⟩]) (.skip))) (q_i_sides_c0)))) (q_i_sides_c1)
@[simp] theorem q_i_sides_c2_run : type_of% (run_is q_i_sides_c2.eq_1) := run_is q_i_sides_c2.eq_1
def q_i_sides_l0 : QCode := .seq (.ops [⟨some 11, .binOp .lss 3 (.tmp 10) (.tmp 9) 3, 0, none⟩]) (.seq (.cond (.tmp 11) (.skip) (.exit 0)) (q_i_sides_c2))
@[simp] theorem q_i_sides_l0_run : type_of% (run_is q_i_sides_l0.eq_1) := run_is q_i_sides_l0.eq_1
def q_i_sides_c3 : QCode := .seq (.ops [⟨some 31, .move (.tmp 4), 38, none⟩, ⟨some 32, .move (.tmp 5), 38, none⟩, ⟨some 2, .assign (.tmp 31), 38, none⟩, ⟨some 3, .assign (.tmp 32), 38, none⟩]) (.ret)
@[simp] theorem q_i_sides_c3_run : type_of% (run_is q_i_sides_c3.eq_1) := run_is q_i_sides_c3.eq_1
@[simp] def q_i_sides : QFn := ⟨33, [(.tmp 2, 38), (.tmp 3, 38)], .seq (.ops [⟨some 2, .assign (.const (.slice none 0 0)), 38, none⟩, ⟨some 3, .assign (.const (.slice none 0 0)), 38, none⟩]) (.seq (.ops [⟨some 4, .assign (.const (.slice none 0 0)), 38, none⟩, ⟨some 5, .assign (.const (.slice none 0 0)), 38, none⟩]) (.seq (.seq (.ops [⟨some 8, .move (.tmp 0), 38, none⟩, ⟨some 9, .call { callee := .builtin .len, args := #[.tmp 8], argTypes := #[38] }, 3, none⟩, ⟨some 10, .move (.const (.int .i64 0)), 3, none⟩]) (.block 0 (.loop q_i_sides_l0))) (q_i_sides_c3)))⟩
theorem conv_i_sides : convF Tryd.f22 = some q_i_sides := by kernel_rfl
abbrev fn_s_l5Hunk : FuncId := 23
def q_s_l5Hunk_c0 : QCode := .ops [⟨some 10, .move (.tmp 3), 3, none⟩, ⟨some 11, .binOp .add 3 (.tmp 10) (.const (.int .i64 1)) 3, 3, none⟩, ⟨some 3, .assign (.tmp 11), 3, none⟩]
@[simp] theorem q_s_l5Hunk_c0_run : type_of% (run_is q_s_l5Hunk_c0.eq_1) := run_is q_s_l5Hunk_c0.eq_1
def q_s_l5Hunk_c1 : QCode := .seq (.block 1 (.seq (.ops [⟨some 12, .fieldAddr 40 (.tmp 1) 1, 0, none⟩, ⟨some 13, .load 38 (.tmp 12), 38, none⟩, ⟨some 14, .move (.tmp 3), 3, none⟩, ⟨some 15, .indexAddr 38 (.tmp 13) (.tmp 14), 0, none⟩, ⟨some 16, .load 9 (.tmp 15), 9, none⟩, ⟨some 4, .assign (.tmp 16), 9, none⟩]) (.seq (.ops [⟨some 17, .move (.tmp 4), 9, none⟩, ⟨some 18, .binOp .eql 9 (.tmp 17) (.const (.string { data := #[] })) 9, 4, none⟩, ⟨some 19, .move (.tmp 18), 4, none⟩, ⟨some 20, .move (.tmp 4), 9, some (19, false)⟩, ⟨some 21, .index 9 (.tmp 20) (.const (.int .i64 0)), 5, some (19, false)⟩, ⟨some 22, .binOp .neq 5 (.tmp 21) (.const (.int .u8 32)) 5, 4, some (19, false)⟩, ⟨some 23, .move (.tmp 22), 4, some (19, false)⟩, ⟨some 24, .move (.tmp 4), 9, some (23, true)⟩, ⟨some 25, .index 9 (.tmp 24) (.const (.int .i64 0)), 5, some (23, true)⟩, ⟨some 26, .binOp .neq 5 (.tmp 25) (.const (.int .u8 45)) 5, 4, some (23, true)⟩, ⟨some 27, .pick (.tmp 23) (.tmp 26) (.const (.bool false)), 4, some (19, false)⟩, ⟨some 28, .move (.tmp 27), 4, some (19, false)⟩, ⟨some 29, .move (.tmp 4), 9, some (28, true)⟩, ⟨some 30, .index 9 (.tmp 29) (.const (.int .i64 0)), 5, some (28, true)⟩, ⟨some 31, .binOp .neq 5 (.tmp 30) (.const (.int .u8 43)) 5, 4, some (28, true)⟩, ⟨some 32, .pick (.tmp 28) (.tmp 31) (.const (.bool false)), 4, some (19, false)⟩, ⟨some 33, .pick (.tmp 19) (.const (.bool true)) (.tmp 32), 4, none⟩, ⟨some 34, .move (.tmp 33), 4, none⟩, ⟨some 35, .move (.tmp 4), 9, some (34, false)⟩, ⟨some 36, .slice 9 (.tmp 35) (some (.const (.int .i64 1))) none none, 9, some (34, false)⟩, ⟨some 37, .call { callee := .value (.func 39), args := #[.tmp 36], argTypes := #[9] }, 4, some (34, false)⟩, ⟨some 38, .unOp .not 4 (.tmp 37), 4, some (34, false)⟩, ⟨some 39, .pick (.tmp 34) (.const (.bool true)) (.tmp 38), 4, none⟩]) (.cond (.tmp 39) (.seq (.ops [⟨some 2, .assign (.const (.bool false)), 4, none⟩]) (.ret)) (.skip))))) (q_s_l5Hunk_c0)
@[simp] theorem q_s_l5Hunk_c1_run : type_of% (run_is q_s_l5Hunk_c1.eq_1) := run_is q_s_l5Hunk_c1.eq_1
def q_s_l5Hunk_l0 : QCode := .seq (.seq (.ops [⟨some 5, .move (.tmp 3), 3, none⟩, ⟨some 6, .fieldAddr 40 (.tmp 1) 1, 0, none⟩, ⟨some 7, .load 38 (.tmp 6), 38, none⟩, ⟨some 8, .call { callee := .builtin .len, args := #[.tmp 7], argTypes := #[38] }, 3, none⟩, ⟨some 9, .binOp .lss 3 (.tmp 5) (.tmp 8) 3, 4, none⟩]) (.cond (.tmp 9) (.skip) (.exit 0))) (q_s_l5Hunk_c1)
@[simp] theorem q_s_l5Hunk_l0_run : type_of% (run_is q_s_l5Hunk_l0.eq_1) := run_is q_s_l5Hunk_l0.eq_1
def q_s_l5Hunk_c2 : QCode := .seq (.ops [⟨some 40, .fieldAddr 40 (.tmp 1) 1, 0, none⟩, ⟨some 41, .load 38 (.tmp 40), 38, none⟩, ⟨some 42, .call { callee := .builtin .len, args := #[.tmp 41], argTypes := #[38] }, 3, none⟩, ⟨some 43, .call { callee := .value (.func 40), args := #[.tmp 42, .const (.int .i64 1), .const (.int .i64 30)], argTypes := #[3, 3, 3] }, 4, none⟩, ⟨some 44, .move (.tmp 43), 4, none⟩, ⟨some 45, .fieldAddr 40 (.tmp 1) 0, 0, some (44, true)⟩, ⟨some 46, .load 3 (.tmp 45), 3, some (44, true)⟩, ⟨some 47, .call { callee := .value (.func 40), args := #[.tmp 46, .const (.int .i64 1), .const (.int .i64 999)], argTypes := #[3, 3, 3] }, 4, some (44, true)⟩, ⟨some 48, .pick (.tmp 44) (.tmp 47) (.const (.bool false)), 4, none⟩, ⟨some 2, .assign (.tmp 48), 4, none⟩]) (.ret)
@[simp] theorem q_s_l5Hunk_c2_run : type_of% (run_is q_s_l5Hunk_c2.eq_1) := run_is q_s_l5Hunk_c2.eq_1
@[simp] def q_s_l5Hunk : QFn := ⟨49, [(.tmp 2, 4)], .seq (.ops [⟨some 1, .box 40 (.tmp 0), 0, none⟩, ⟨some 2, .assign (.const (.bool false)), 4, none⟩]) (.seq (.seq (.ops [⟨some 3, .assign (.const (.int .i64 0)), 3, none⟩]) (.block 0 (.loop q_s_l5Hunk_l0))) (q_s_l5Hunk_c2))⟩
theorem conv_s_l5Hunk : convF Tryd.f23 = some q_s_l5Hunk := by kernel_rfl
abbrev fn_s_l5Old : FuncId := 24
def q_s_l5Old_c0 : QCode := .ops [⟨some 11, .move (.tmp 4), 3, none⟩, ⟨some 12, .binOp .add 3 (.tmp 11) (.const (.int .i64 1)) 3, 3, none⟩, ⟨some 4, .assign (.tmp 12), 3, none⟩]
@[simp] theorem q_s_l5Old_c0_run : type_of% (run_is q_s_l5Old_c0.eq_1) := run_is q_s_l5Old_c0.eq_1
def q_s_l5Old_c1 : QCode := .seq (.block 1 (.seq (.ops [⟨some 13, .fieldAddr 40 (.tmp 1) 1, 0, none⟩, ⟨some 14, .load 38 (.tmp 13), 38, none⟩, ⟨some 15, .move (.tmp 4), 3, none⟩, ⟨some 16, .indexAddr 38 (.tmp 14) (.tmp 15), 0, none⟩, ⟨some 17, .load 9 (.tmp 16), 9, none⟩, ⟨some 18, .index 9 (.tmp 17) (.const (.int .i64 0)), 5, none⟩, ⟨some 19, .binOp .neq 5 (.tmp 18) (.const (.int .u8 43)) 5, 4, none⟩]) (.cond (.tmp 19) (.ops [⟨some 20, .move (.tmp 3), 38, none⟩, ⟨some 21, .fieldAddr 40 (.tmp 1) 1, 0, none⟩, ⟨some 22, .load 38 (.tmp 21), 38, none⟩, ⟨some 23, .move (.tmp 4), 3, none⟩, ⟨some 24, .indexAddr 38 (.tmp 22) (.tmp 23), 0, none⟩, ⟨some 25, .load 9 (.tmp 24), 9, none⟩, ⟨some 26, .slice 9 (.tmp 25) (some (.const (.int .i64 1))) none none, 9, none⟩, ⟨some 27, .buildSlice 38 1 #[(0, .tmp 26)], 38, none⟩, ⟨some 28, .call { callee := .builtin .append, args := #[.tmp 20, .tmp 27], argTypes := #[38, 38] }, 38, none⟩, ⟨some 3, .assign (.tmp 28), 38, none⟩]) (.skip)))) (q_s_l5Old_c0)
@[simp] theorem q_s_l5Old_c1_run : type_of% (run_is q_s_l5Old_c1.eq_1) := run_is q_s_l5Old_c1.eq_1
def q_s_l5Old_l0 : QCode := .seq (.seq (.ops [⟨some 6, .move (.tmp 4), 3, none⟩, ⟨some 7, .fieldAddr 40 (.tmp 1) 1, 0, none⟩, ⟨some 8, .load 38 (.tmp 7), 38, none⟩, ⟨some 9, .call { callee := .builtin .len, args := #[.tmp 8], argTypes := #[38] }, 3, none⟩, ⟨some 10, .binOp .lss 3 (.tmp 6) (.tmp 9) 3, 4, none⟩]) (.cond (.tmp 10) (.skip) (.exit 0))) (q_s_l5Old_c1)
@[simp] theorem q_s_l5Old_l0_run : type_of% (run_is q_s_l5Old_l0.eq_1) := run_is q_s_l5Old_l0.eq_1
def q_s_l5Old_c2 : QCode := .seq (.ops [⟨some 29, .move (.tmp 3), 38, none⟩, ⟨some 2, .assign (.tmp 29), 38, none⟩]) (.ret)
@[simp] theorem q_s_l5Old_c2_run : type_of% (run_is q_s_l5Old_c2.eq_1) := run_is q_s_l5Old_c2.eq_1
@[simp] def q_s_l5Old : QFn := ⟨30, [(.tmp 2, 38)], .seq (.ops [⟨some 1, .box 40 (.tmp 0), 0, none⟩, ⟨some 2, .assign (.const (.slice none 0 0)), 38, none⟩]) (.seq (.ops [⟨some 5, .buildSlice 38 0 #[], 38, none⟩, ⟨some 3, .assign (.tmp 5), 38, none⟩]) (.seq (.seq (.ops [⟨some 4, .assign (.const (.int .i64 0)), 3, none⟩]) (.block 0 (.loop q_s_l5Old_l0))) (q_s_l5Old_c2)))⟩
theorem conv_s_l5Old : convF Tryd.f24 = some q_s_l5Old := by kernel_rfl
abbrev fn_w_jsTexts : FuncId := 25
def q_w_jsTexts_c0 : QCode := .ops [⟨some 15, .move (.tmp 5), 3, none⟩, ⟨some 16, .binOp .add 3 (.tmp 15) (.const (.int .i64 1)) 3, 3, none⟩, ⟨some 5, .assign (.tmp 16), 3, none⟩]
@[simp] theorem q_w_jsTexts_c0_run : type_of% (run_is q_w_jsTexts_c0.eq_1) := run_is q_w_jsTexts_c0.eq_1
def q_w_jsTexts_c1 : QCode := .seq (.block 1 (.seq (.draw [] [⟨some 17, .move (.tmp 0), 38, none⟩, ⟨some 18, .move (.tmp 5), 3, none⟩, ⟨some 19, .indexAddr 38 (.tmp 17) (.tmp 18), 0, none⟩, ⟨some 20, .load 9 (.tmp 19), 9, none⟩, ⟨some 21, .move (.tmp 1), 38, none⟩, ⟨some 22, .move (.tmp 5), 3, none⟩, ⟨some 23, .indexAddr 38 (.tmp 21) (.tmp 22), 0, none⟩, ⟨some 24, .load 9 (.tmp 23), 9, none⟩] [⟨some 25, .binOp .neq 9 (.tmp 20) (.tmp 24) 9, 4, none⟩]) (.cond (.tmp 25) (.seq (.ops [⟨some 4, .assign (.const (.bool false)), 4, none⟩]) (.ret)) (.skip)))) (q_w_jsTexts_c0)
@[simp] theorem q_w_jsTexts_c1_run : type_of% (run_is q_w_jsTexts_c1.eq_1) := run_is q_w_jsTexts_c1.eq_1
def q_w_jsTexts_l0 : QCode := .seq (.seq (.ops [⟨some 11, .move (.tmp 5), 3, none⟩, ⟨some 12, .move (.tmp 0), 38, none⟩, ⟨some 13, .call { callee := .builtin .len, args := #[.tmp 12], argTypes := #[38] }, 3, none⟩, ⟨some 14, .binOp .lss 3 (.tmp 11) (.tmp 13) 3, 4, none⟩]) (.cond (.tmp 14) (.skip) (.exit 0))) (q_w_jsTexts_c1)
@[simp] theorem q_w_jsTexts_l0_run : type_of% (run_is q_w_jsTexts_l0.eq_1) := run_is q_w_jsTexts_l0.eq_1
def q_w_jsTexts_c2 : QCode := .seq (.ops [⟨some 4, .assign (.const (.bool true)), 4, none⟩]) (.ret)
@[simp] theorem q_w_jsTexts_c2_run : type_of% (run_is q_w_jsTexts_c2.eq_1) := run_is q_w_jsTexts_c2.eq_1
def q_w_jsTexts_c3 : QCode := .seq (.seq (.ops [⟨some 5, .assign (.const (.int .i64 0)), 3, none⟩]) (.block 0 (.loop q_w_jsTexts_l0))) (q_w_jsTexts_c2)
@[simp] theorem q_w_jsTexts_c3_run : type_of% (run_is q_w_jsTexts_c3.eq_1) := run_is q_w_jsTexts_c3.eq_1
@[simp] def q_w_jsTexts : QFn := ⟨26, [(.tmp 4, 4)], .seq (.ops [⟨some 4, .assign (.const (.bool false)), 4, none⟩]) (.seq (.seq (.ops [⟨some 6, .move (.tmp 0), 38, none⟩, ⟨some 7, .call { callee := .builtin .len, args := #[.tmp 6], argTypes := #[38] }, 3, none⟩, ⟨some 8, .move (.tmp 1), 38, none⟩, ⟨some 9, .call { callee := .builtin .len, args := #[.tmp 8], argTypes := #[38] }, 3, none⟩, ⟨some 10, .binOp .neq 3 (.tmp 7) (.tmp 9) 3, 4, none⟩]) (.cond (.tmp 10) (.seq (.ops [⟨some 4, .assign (.const (.bool false)), 4, none⟩]) (.ret)) (.skip))) (q_w_jsTexts_c3))⟩
theorem conv_w_jsTexts : convF Tryd.f25 = some q_w_jsTexts := by kernel_rfl
abbrev fn_s_l11Cut : FuncId := 26
def q_s_l11Cut_c0 : QCode := .seq (.ops [⟨some 31, .move (.tmp 1), 9, none⟩, ⟨some 4, .assign (.tmp 31), 9, none⟩]) (.ret)
@[simp] theorem q_s_l11Cut_c0_run : type_of% (run_is q_s_l11Cut_c0.eq_1) := run_is q_s_l11Cut_c0.eq_1
@[simp] def q_s_l11Cut : QFn := ⟨32, [(.tmp 4, 9)], .seq (.ops [⟨some 4, .assign (.const (.string { data := #[] })), 9, none⟩]) (.seq (.ops [⟨some 6, .move (.tmp 0), 33, none⟩, ⟨some 7, .move (.tmp 1), 9, none⟩, ⟨some 8, .call { callee := .builtin .len, args := #[.tmp 7], argTypes := #[9] }, 3, none⟩, ⟨some 9, .binOp .add 3 (.tmp 8) (.const (.int .i64 1)) 3, 3, none⟩, ⟨some 10, .call { callee := .value (.func 29), args := #[.tmp 6, .tmp 9], argTypes := #[33, 3] }, 3, none⟩, ⟨some 5, .assign (.tmp 10), 3, none⟩]) (.seq (.seq (.ops [⟨some 11, .move (.tmp 0), 33, none⟩, ⟨some 12, .call { callee := .value (.func 29), args := #[.tmp 11, .const (.int .i64 5)], argTypes := #[33, 3] }, 3, none⟩]) (.block 0 (.seq (.ops [⟨some 14, .binOp .eql 3 (.tmp 12) (.const (.int .i64 0)) 3, 4, none⟩, ⟨some 13, .assign (.tmp 14), 4, none⟩]) (.cond (.tmp 13) (.seq (.seq (.ice [1]) (.draw [] [⟨some 15, .move (.tmp 1), 9, none⟩, ⟨some 16, .move (.tmp 5), 3, none⟩, ⟨some 17, .slice 9 (.tmp 15) none (some (.tmp 16)) none, 9, none⟩, ⟨some 18, .move (.tmp 0), 33, none⟩, ⟨some 22, .move (.tmp 1), 9, none⟩, ⟨some 23, .move (.tmp 5), 3, none⟩, ⟨some 24, .slice 9 (.tmp 22) (some (.tmp 23)) none none, 9, none⟩] [⟨some 19, .buildSlice 38 6 #[(0, .const (.string { data := #[32] })), (1, .const (.string { data := #[10] })), (2, .const (.string { data := #[48] })), (3, .const (.string { data := #[120] })), (4, .const (.string { data := #[47] })), (5, .const (.string { data := #[45] }))], 38, none⟩, ⟨some 20, .call { callee := .value (.func 31), args := #[.tmp 18, .tmp 19], argTypes := #[33, 38] }, 9, none⟩, ⟨some 21, .binOp .add 9 (.tmp 17) (.tmp 20) 9, 9, none⟩, ⟨some 25, .binOp .add 9 (.tmp 21) (.tmp 24) 9, 9, none⟩, ⟨some 4, .assign (.tmp 25), 9, none⟩])) (.ret)) (.seq (.ops [⟨some 27, .binOp .eql 3 (.tmp 12) (.const (.int .i64 1)) 3, 4, none⟩, ⟨some 26, .assign (.tmp 27), 4, none⟩]) (.cond (.tmp 26) (.seq (.ops [⟨some 28, .move (.tmp 1), 9, none⟩, ⟨some 29, .move (.tmp 5), 3, none⟩, ⟨some 30, .slice 9 (.tmp 28) none (some (.tmp 29)) none, 9, none⟩, ⟨some 4, .assign (.tmp 30), 9, none⟩]) (.ret)) (.skip))))))) (q_s_l11Cut_c0)))⟩
theorem conv_s_l11Cut : convF Tryd.f26 = some q_s_l11Cut := by kernel_rfl
abbrev fn_s_l11Hunks : FuncId := 27
def q_s_l11Hunks_c0 : QCode := .ops [⟨some 26, .move (.tmp 6), 3, none⟩, ⟨some 27, .binOp .sub 3 (.tmp 26) (.const (.int .i64 1)) 3, 3, none⟩, ⟨some 6, .assign (.tmp 27), 3, none⟩]
@[simp] theorem q_s_l11Hunks_c0_run : type_of% (run_is q_s_l11Hunks_c0.eq_1) := run_is q_s_l11Hunks_c0.eq_1
def q_s_l11Hunks_c1 : QCode := .seq (.block 1 (.draw [0, 0] [⟨some 28, .fieldAddr 40 (.tmp 5) 1, 0, none⟩, ⟨some 29, .load 38 (.tmp 28), 38, none⟩, ⟨some 30, .move (.tmp 0), 33, none⟩, ⟨some 31, .buildSlice 38 3 #[(0, .const (.string { data := #[32] })), (1, .const (.string { data := #[45] })), (2, .const (.string { data := #[43] }))], 38, none⟩, ⟨some 32, .call { callee := .value (.func 31), args := #[.tmp 30, .tmp 31], argTypes := #[33, 38] }, 9, none⟩, ⟨some 33, .move (.tmp 0), 33, none⟩, ⟨some 34, .buildSlice 38 4 #[(0, .const (.string { data := #[97] })), (1, .const (.string { data := #[98] })), (2, .const (.string { data := #[115, 97, 109, 101] })), (3, .const (.string { data := #[] }))], 38, none⟩, ⟨some 35, .call { callee := .value (.func 31), args := #[.tmp 33, .tmp 34], argTypes := #[33, 38] }, 9, none⟩, ⟨some 36, .binOp .add 9 (.tmp 32) (.tmp 35) 9, 9, none⟩, ⟨some 37, .buildSlice 38 1 #[(0, .tmp 36)], 38, none⟩] [⟨some 38, .call { callee := .builtin .append, args := #[.tmp 29, .tmp 37], argTypes := #[38, 38] }, 38, none⟩, ⟨some 39, .fieldAddr 40 (.tmp 5) 1, 0, none⟩, ⟨none, .store 38 (.tmp 39) (.tmp 38), 0, none⟩])) (q_s_l11Hunks_c0)
@[simp] theorem q_s_l11Hunks_c1_run : type_of% (run_is q_s_l11Hunks_c1.eq_1) := run_is q_s_l11Hunks_c1.eq_1
def q_s_l11Hunks_l0 : QCode := .seq (.seq (.ops [⟨some 24, .move (.tmp 6), 3, none⟩, ⟨some 25, .binOp .gtr 3 (.tmp 24) (.const (.int .i64 0)) 3, 4, none⟩]) (.cond (.tmp 25) (.skip) (.exit 0))) (q_s_l11Hunks_c1)
@[simp] theorem q_s_l11Hunks_l0_run : type_of% (run_is q_s_l11Hunks_l0.eq_1) := run_is q_s_l11Hunks_l0.eq_1
def q_s_l11Hunks_c2 : QCode := .ops [⟨some 40, .move (.tmp 4), 23, none⟩, ⟨some 41, .load 40 (.tmp 5), 40, none⟩, ⟨some 42, .buildSlice 23 1 #[(0, .tmp 41)], 23, none⟩, ⟨some 43, .call { callee := .builtin .append, args := #[.tmp 40, .tmp 42], argTypes := #[23, 23] }, 23, none⟩, ⟨some 4, .assign (.tmp 43), 23, none⟩]
@[simp] theorem q_s_l11Hunks_c2_run : type_of% (run_is q_s_l11Hunks_c2.eq_1) := run_is q_s_l11Hunks_c2.eq_1
def q_s_l11Hunks_c3 : QCode := .seq (.ops [⟨some 44, .move (.tmp 4), 23, none⟩, ⟨some 2, .assign (.tmp 44), 23, none⟩]) (.ret)
@[simp] theorem q_s_l11Hunks_c3_run : type_of% (run_is q_s_l11Hunks_c3.eq_1) := run_is q_s_l11Hunks_c3.eq_1
@[simp] def q_s_l11Hunks : QFn := ⟨45, [(.tmp 2, 23)], .seq (.ops [⟨some 2, .assign (.const (.slice none 0 0)), 23, none⟩]) (.seq (.ops [⟨some 7, .move (.tmp 0), 33, none⟩, ⟨some 8, .call { callee := .value (.func 41), args := #[.tmp 7], argTypes := #[33] }, 38, none⟩, ⟨some 3, .assign (.tmp 8), 38, none⟩]) (.seq (.ops [⟨some 9, .move (.tmp 3), 38, none⟩, ⟨some 10, .move (.tmp 0), 33, none⟩, ⟨some 11, .move (.tmp 3), 38, none⟩, ⟨some 12, .call { callee := .value (.func 43), args := #[.tmp 10, .tmp 11], argTypes := #[33, 38] }, 38, none⟩, ⟨some 13, .call { callee := .value (.func 42), args := #[.tmp 9, .tmp 12], argTypes := #[38, 38] }, 23, none⟩, ⟨some 4, .assign (.tmp 13), 23, none⟩]) (.seq (.seq (.ops [⟨some 14, .move (.tmp 0), 33, none⟩, ⟨some 15, .call { callee := .value (.func 29), args := #[.tmp 14, .const (.int .i64 2)], argTypes := #[33, 3] }, 3, none⟩, ⟨some 16, .binOp .eql 3 (.tmp 15) (.const (.int .i64 0)) 3, 4, none⟩]) (.cond (.tmp 16) (.seq (.ops [⟨some 17, .move (.tmp 0), 33, none⟩, ⟨some 18, .call { callee := .value (.func 29), args := #[.tmp 17, .const (.int .i64 9)], argTypes := #[33, 3] }, 3, none⟩, ⟨some 19, .binOp .add 3 (.const (.int .i64 1)) (.tmp 18) 3, 3, none⟩, ⟨some 20, .build 40 #[(0, .tmp 19)], 40, none⟩, ⟨some 5, .alloc 40, 0, none⟩, ⟨none, .store 40 (.tmp 5) (.tmp 20), 0, none⟩]) (.seq (.seq (.ops [⟨some 21, .move (.tmp 0), 33, none⟩, ⟨some 22, .call { callee := .value (.func 29), args := #[.tmp 21, .const (.int .i64 4)], argTypes := #[33, 3] }, 3, none⟩, ⟨some 23, .binOp .add 3 (.const (.int .i64 1)) (.tmp 22) 3, 3, none⟩, ⟨some 6, .assign (.tmp 23), 3, none⟩]) (.block 0 (.loop q_s_l11Hunks_l0))) (q_s_l11Hunks_c2))) (.skip))) (q_s_l11Hunks_c3))))⟩
theorem conv_s_l11Hunks : convF Tryd.f27 = some q_s_l11Hunks := by kernel_rfl
abbrev fn_s_l5Get : FuncId := 28
def q_s_l5Get_c0 : QCode := .seq (.seq (.ice [5]) (.draw [] [⟨some 53, .move (.tmp 4), 23, none⟩, ⟨some 54, .move (.tmp 7), 38, none⟩, ⟨some 55, .indexAddr 38 (.tmp 54) (.const (.int .i64 1)), 0, none⟩, ⟨some 56, .load 9 (.tmp 55), 9, none⟩, ⟨some 57, .call { callee := .value (.func 45), args := #[.tmp 56], argTypes := #[9] }, 3, none⟩, ⟨some 58, .buildSlice 38 0 #[], 38, none⟩, ⟨some 59, .move (.tmp 5), 38, none⟩, ⟨some 60, .move (.tmp 6), 3, none⟩, ⟨some 61, .binOp .add 3 (.tmp 60) (.const (.int .i64 1)) 3, 3, none⟩, ⟨some 62, .move (.tmp 6), 3, none⟩, ⟨some 63, .binOp .add 3 (.tmp 62) (.const (.int .i64 1)) 3, 3, none⟩, ⟨some 64, .move (.tmp 8), 3, none⟩, ⟨some 65, .binOp .add 3 (.tmp 63) (.tmp 64) 3, 3, none⟩, ⟨some 66, .slice 38 (.tmp 59) (some (.tmp 61)) (some (.tmp 65)) none, 38, none⟩] [⟨some 67, .call { callee := .builtin .append, args := #[.tmp 58, .tmp 66], argTypes := #[38, 38] }, 38, none⟩, ⟨some 68, .build 40 #[(0, .tmp 57), (1, .tmp 67)], 40, none⟩, ⟨some 69, .buildSlice 23 1 #[(0, .tmp 68)], 23, none⟩, ⟨some 70, .call { callee := .builtin .append, args := #[.tmp 53, .tmp 69], argTypes := #[23, 23] }, 23, none⟩, ⟨some 4, .assign (.tmp 70), 23, none⟩])) (.ops [⟨some 71, .move (.tmp 6), 3, none⟩, ⟨some 72, .binOp .add 3 (.tmp 71) (.const (.int .i64 1)) 3, 3, none⟩, ⟨some 73, .move (.tmp 8), 3, none⟩, ⟨some 74, .binOp .add 3 (.tmp 72) (.tmp 73) 3, 3, none⟩, ⟨some 6, .assign (.tmp 74), 3, none⟩])
@[simp] theorem q_s_l5Get_c0_run : type_of% (run_is q_s_l5Get_c0.eq_1) := run_is q_s_l5Get_c0.eq_1
def q_s_l5Get_c1 : QCode := .seq (.ops [⟨some 40, .move (.tmp 7), 38, none⟩, ⟨some 41, .indexAddr 38 (.tmp 40) (.const (.int .i64 2)), 0, none⟩, ⟨some 42, .load 9 (.tmp 41), 9, none⟩, ⟨some 43, .call { callee := .value (.func 45), args := #[.tmp 42], argTypes := #[9] }, 3, none⟩, ⟨some 8, .assign (.tmp 43), 3, none⟩]) (.seq (.seq (.ops [⟨some 44, .move (.tmp 8), 3, none⟩, ⟨some 45, .move (.tmp 5), 38, none⟩, ⟨some 46, .call { callee := .builtin .len, args := #[.tmp 45], argTypes := #[38] }, 3, none⟩, ⟨some 47, .move (.tmp 6), 3, none⟩, ⟨some 48, .binOp .sub 3 (.tmp 46) (.tmp 47) 3, 3, none⟩, ⟨some 49, .binOp .sub 3 (.tmp 48) (.const (.int .i64 2)) 3, 3, none⟩, ⟨some 50, .call { callee := .value (.func 40), args := #[.tmp 44, .const (.int .i64 1), .tmp 49], argTypes := #[3, 3, 3] }, 4, none⟩, ⟨some 51, .unOp .not 4 (.tmp 50), 4, none⟩]) (.cond (.tmp 51) (.seq (.ops [⟨some 52, .move (.tmp 4), 23, none⟩, ⟨some 2, .assign (.tmp 52), 23, none⟩, ⟨some 3, .assign (.const (.bool false)), 4, none⟩]) (.ret)) (.skip))) (q_s_l5Get_c0))
@[simp] theorem q_s_l5Get_c1_run : type_of% (run_is q_s_l5Get_c1.eq_1) := run_is q_s_l5Get_c1.eq_1
def q_s_l5Get_c2 : QCode := .block 1 (.seq (.ops [⟨some 25, .move (.tmp 5), 38, none⟩, ⟨some 26, .move (.tmp 6), 3, none⟩, ⟨some 27, .indexAddr 38 (.tmp 25) (.tmp 26), 0, none⟩, ⟨some 28, .load 9 (.tmp 27), 9, none⟩, ⟨some 29, .call { callee := .value (.func 44), args := #[.tmp 28, .const (.int .u8 32), .const (.int .i64 2)], argTypes := #[9, 5, 3] }, 38, none⟩, ⟨some 7, .assign (.tmp 29), 38, none⟩]) (.seq (.seq (.ops [⟨some 30, .move (.tmp 7), 38, none⟩, ⟨some 31, .call { callee := .builtin .len, args := #[.tmp 30], argTypes := #[38] }, 3, none⟩, ⟨some 32, .binOp .neq 3 (.tmp 31) (.const (.int .i64 3)) 3, 4, none⟩, ⟨some 33, .move (.tmp 32), 4, none⟩, ⟨some 34, .move (.tmp 7), 38, some (33, false)⟩, ⟨some 35, .indexAddr 38 (.tmp 34) (.const (.int .i64 0)), 0, some (33, false)⟩, ⟨some 36, .load 9 (.tmp 35), 9, some (33, false)⟩, ⟨some 37, .binOp .neq 9 (.tmp 36) (.const (.string { data := #[64] })) 9, 4, some (33, false)⟩, ⟨some 38, .pick (.tmp 33) (.const (.bool true)) (.tmp 37), 4, none⟩]) (.cond (.tmp 38) (.seq (.ops [⟨some 39, .move (.tmp 4), 23, none⟩, ⟨some 2, .assign (.tmp 39), 23, none⟩, ⟨some 3, .assign (.const (.bool false)), 4, none⟩]) (.ret)) (.skip))) (q_s_l5Get_c1)))
@[simp] theorem q_s_l5Get_c2_run : type_of% (run_is q_s_l5Get_c2.eq_1) := run_is q_s_l5Get_c2.eq_1
def q_s_l5Get_l0 : QCode := .seq (.seq (.ops [⟨some 15, .move (.tmp 6), 3, none⟩, ⟨some 16, .binOp .add 3 (.tmp 15) (.const (.int .i64 1)) 3, 3, none⟩, ⟨some 17, .move (.tmp 5), 38, none⟩, ⟨some 18, .call { callee := .builtin .len, args := #[.tmp 17], argTypes := #[38] }, 3, none⟩, ⟨some 19, .binOp .lss 3 (.tmp 16) (.tmp 18) 3, 4, none⟩, ⟨some 20, .move (.tmp 19), 4, none⟩, ⟨some 21, .move (.tmp 4), 23, some (20, true)⟩, ⟨some 22, .call { callee := .builtin .len, args := #[.tmp 21], argTypes := #[23] }, 3, some (20, true)⟩, ⟨some 23, .binOp .leq 3 (.tmp 22) (.const (.int .i64 4)) 3, 4, some (20, true)⟩, ⟨some 24, .pick (.tmp 20) (.tmp 23) (.const (.bool false)), 4, none⟩]) (.cond (.tmp 24) (.skip) (.exit 0))) (q_s_l5Get_c2)
@[simp] theorem q_s_l5Get_l0_run : type_of% (run_is q_s_l5Get_l0.eq_1) := run_is q_s_l5Get_l0.eq_1
def q_s_l5Get_c3 : QCode := .seq (.ops [⟨some 75, .move (.tmp 4), 23, none⟩, ⟨some 76, .move (.tmp 4), 23, none⟩, ⟨some 77, .call { callee := .value (.func 9), args := #[.tmp 76], argTypes := #[23] }, 4, none⟩, ⟨some 78, .move (.tmp 77), 4, none⟩, ⟨some 79, .move (.tmp 4), 23, some (78, true)⟩, ⟨some 80, .call { callee := .value (.func 19), args := #[.tmp 79], argTypes := #[23] }, 9, some (78, true)⟩, ⟨some 81, .move (.tmp 0), 9, some (78, true)⟩, ⟨some 82, .binOp .eql 9 (.tmp 80) (.tmp 81) 9, 4, some (78, true)⟩, ⟨some 83, .pick (.tmp 78) (.tmp 82) (.const (.bool false)), 4, none⟩, ⟨some 2, .assign (.tmp 75), 23, none⟩, ⟨some 3, .assign (.tmp 83), 4, none⟩]) (.ret)
@[simp] theorem q_s_l5Get_c3_run : type_of% (run_is q_s_l5Get_c3.eq_1) := run_is q_s_l5Get_c3.eq_1
@[simp] def q_s_l5Get : QFn := ⟨84, [(.tmp 2, 23), (.tmp 3, 4)], .seq (.ops [⟨some 2, .assign (.const (.slice none 0 0)), 23, none⟩, ⟨some 3, .assign (.const (.bool false)), 4, none⟩]) (.seq (.ops [⟨some 9, .buildSlice 23 0 #[], 23, none⟩, ⟨some 4, .assign (.tmp 9), 23, none⟩]) (.seq (.ops [⟨some 10, .move (.tmp 0), 9, none⟩, ⟨some 11, .move (.tmp 0), 9, none⟩, ⟨some 12, .call { callee := .builtin .len, args := #[.tmp 11], argTypes := #[9] }, 3, none⟩, ⟨some 13, .binOp .add 3 (.tmp 12) (.const (.int .i64 1)) 3, 3, none⟩, ⟨some 14, .call { callee := .value (.func 44), args := #[.tmp 10, .const (.int .u8 10), .tmp 13], argTypes := #[9, 5, 3] }, 38, none⟩, ⟨some 5, .assign (.tmp 14), 38, none⟩]) (.seq (.seq (.ops [⟨some 6, .assign (.const (.int .i64 0)), 3, none⟩]) (.block 0 (.loop q_s_l5Get_l0))) (q_s_l5Get_c3))))⟩
theorem conv_s_l5Get : convF Tryd.f28 = some q_s_l5Get := by kernel_rfl
abbrev fn_s_l1Rd_pick : FuncId := 29
def q_s_l1Rd_pick_c0 : QCode := .seq (.draw [] [⟨some 47, .move (.tmp 0), 33, none⟩, ⟨some 48, .nilCheck (.tmp 47), 0, none⟩, ⟨some 49, .fieldAddr 66 (.tmp 48) 0, 0, none⟩, ⟨some 50, .load 22 (.tmp 49), 22, none⟩, ⟨some 51, .move (.tmp 5), 3, none⟩, ⟨some 52, .move (.tmp 0), 33, none⟩, ⟨some 53, .nilCheck (.tmp 52), 0, none⟩, ⟨some 54, .fieldAddr 66 (.tmp 53) 0, 0, none⟩, ⟨some 55, .load 22 (.tmp 54), 22, none⟩, ⟨some 56, .call { callee := .builtin .len, args := #[.tmp 55], argTypes := #[22] }, 3, none⟩, ⟨some 57, .binOp .rem 3 (.tmp 51) (.tmp 56) 3, 3, none⟩, ⟨some 58, .indexAddr 22 (.tmp 50) (.tmp 57), 0, none⟩, ⟨some 59, .load 5 (.tmp 58), 5, none⟩, ⟨some 60, .convert 5 3 (.tmp 59), 3, none⟩, ⟨some 61, .binOp .mul 3 (.tmp 60) (.const (.int .i64 131)) 3, 3, none⟩, ⟨some 62, .move (.tmp 0), 33, none⟩, ⟨some 63, .nilCheck (.tmp 62), 0, none⟩, ⟨some 64, .fieldAddr 66 (.tmp 63) 0, 0, none⟩, ⟨some 65, .load 22 (.tmp 64), 22, none⟩, ⟨some 66, .move (.tmp 5), 3, none⟩, ⟨some 67, .binOp .mul 3 (.tmp 66) (.const (.int .i64 7)) 3, 3, none⟩, ⟨some 68, .binOp .add 3 (.tmp 67) (.const (.int .i64 3)) 3, 3, none⟩, ⟨some 69, .move (.tmp 0), 33, none⟩, ⟨some 70, .nilCheck (.tmp 69), 0, none⟩, ⟨some 71, .fieldAddr 66 (.tmp 70) 0, 0, none⟩, ⟨some 72, .load 22 (.tmp 71), 22, none⟩, ⟨some 73, .call { callee := .builtin .len, args := #[.tmp 72], argTypes := #[22] }, 3, none⟩, ⟨some 74, .binOp .rem 3 (.tmp 68) (.tmp 73) 3, 3, none⟩, ⟨some 75, .indexAddr 22 (.tmp 65) (.tmp 74), 0, none⟩, ⟨some 76, .load 5 (.tmp 75), 5, none⟩, ⟨some 77, .convert 5 3 (.tmp 76), 3, none⟩, ⟨some 78, .binOp .mul 3 (.tmp 77) (.const (.int .i64 1117)) 3, 3, none⟩, ⟨some 79, .binOp .add 3 (.tmp 61) (.tmp 78) 3, 3, none⟩, ⟨some 80, .move (.tmp 5), 3, none⟩, ⟨some 81, .binOp .mul 3 (.tmp 80) (.const (.int .i64 29)) 3, 3, none⟩, ⟨some 82, .binOp .add 3 (.tmp 79) (.tmp 81) 3, 3, none⟩, ⟨some 83, .move (.tmp 5), 3, none⟩, ⟨some 84, .move (.tmp 0), 33, none⟩, ⟨some 85, .nilCheck (.tmp 84), 0, none⟩, ⟨some 86, .fieldAddr 66 (.tmp 85) 0, 0, none⟩, ⟨some 87, .load 22 (.tmp 86), 22, none⟩, ⟨some 88, .call { callee := .builtin .len, args := #[.tmp 87], argTypes := #[22] }, 3, none⟩, ⟨some 89, .binOp .quo 3 (.tmp 83) (.tmp 88) 3, 3, none⟩, ⟨some 90, .binOp .mul 3 (.tmp 89) (.const (.int .i64 53)) 3, 3, none⟩] [⟨some 91, .binOp .add 3 (.tmp 82) (.tmp 90) 3, 3, none⟩, ⟨some 6, .assign (.tmp 91), 3, none⟩]) (.seq (.ops [⟨some 92, .move (.tmp 6), 3, none⟩, ⟨some 93, .move (.tmp 6), 3, none⟩, ⟨some 94, .binOp .quo 3 (.tmp 93) (.const (.int .i64 64)) 3, 3, none⟩, ⟨some 95, .binOp .xor 3 (.tmp 92) (.tmp 94) 3, 3, none⟩, ⟨some 6, .assign (.tmp 95), 3, none⟩]) (.seq (.ops [⟨some 96, .move (.tmp 6), 3, none⟩, ⟨some 97, .move (.tmp 1), 3, none⟩, ⟨some 98, .binOp .rem 3 (.tmp 96) (.tmp 97) 3, 3, none⟩, ⟨some 4, .assign (.tmp 98), 3, none⟩]) (.ret)))
@[simp] theorem q_s_l1Rd_pick_c0_run : type_of% (run_is q_s_l1Rd_pick_c0.eq_1) := run_is q_s_l1Rd_pick_c0.eq_1
def q_s_l1Rd_pick_c1 : QCode := .seq (.ops [⟨some 25, .move (.tmp 0), 33, none⟩, ⟨some 26, .nilCheck (.tmp 25), 0, none⟩, ⟨some 27, .fieldAddr 66 (.tmp 26) 1, 0, none⟩, ⟨some 28, .load 3 (.tmp 27), 3, none⟩, ⟨some 29, .binOp .sub 3 (.tmp 28) (.const (.int .i64 1)) 3, 3, none⟩, ⟨some 5, .assign (.tmp 29), 3, none⟩]) (.seq (.seq (.ops [⟨some 30, .move (.tmp 5), 3, none⟩, ⟨some 31, .move (.tmp 0), 33, none⟩, ⟨some 32, .nilCheck (.tmp 31), 0, none⟩, ⟨some 33, .fieldAddr 66 (.tmp 32) 0, 0, none⟩, ⟨some 34, .load 22 (.tmp 33), 22, none⟩, ⟨some 35, .call { callee := .builtin .len, args := #[.tmp 34], argTypes := #[22] }, 3, none⟩, ⟨some 36, .binOp .lss 3 (.tmp 30) (.tmp 35) 3, 4, none⟩]) (.cond (.tmp 36) (.seq (.ops [⟨some 37, .move (.tmp 0), 33, none⟩, ⟨some 38, .nilCheck (.tmp 37), 0, none⟩, ⟨some 39, .fieldAddr 66 (.tmp 38) 0, 0, none⟩, ⟨some 40, .load 22 (.tmp 39), 22, none⟩, ⟨some 41, .move (.tmp 5), 3, none⟩, ⟨some 42, .indexAddr 22 (.tmp 40) (.tmp 41), 0, none⟩, ⟨some 43, .load 5 (.tmp 42), 5, none⟩, ⟨some 44, .convert 5 3 (.tmp 43), 3, none⟩, ⟨some 45, .move (.tmp 1), 3, none⟩, ⟨some 46, .binOp .rem 3 (.tmp 44) (.tmp 45) 3, 3, none⟩, ⟨some 4, .assign (.tmp 46), 3, none⟩]) (.ret)) (.skip))) (q_s_l1Rd_pick_c0))
@[simp] theorem q_s_l1Rd_pick_c1_run : type_of% (run_is q_s_l1Rd_pick_c1.eq_1) := run_is q_s_l1Rd_pick_c1.eq_1
@[simp] def q_s_l1Rd_pick : QFn := ⟨99, [(.tmp 4, 3)], .seq (.ops [⟨some 4, .assign (.const (.int .i64 0)), 3, none⟩]) (.seq (.ops [⟨some 7, .move (.tmp 0), 33, none⟩, ⟨some 8, .move (.tmp 0), 33, none⟩, ⟨some 9, .nilCheck (.tmp 8), 0, none⟩, ⟨some 10, .fieldAddr 66 (.tmp 9) 1, 0, none⟩, ⟨some 11, .load 3 (.tmp 10), 3, none⟩, ⟨some 12, .binOp .add 3 (.tmp 11) (.const (.int .i64 1)) 3, 3, none⟩, ⟨some 13, .nilCheck (.tmp 7), 0, none⟩, ⟨some 14, .fieldAddr 66 (.tmp 13) 1, 0, none⟩, ⟨none, .store 3 (.tmp 14) (.tmp 12), 0, none⟩]) (.seq (.seq (.ops [⟨some 15, .move (.tmp 1), 3, none⟩, ⟨some 16, .binOp .lss 3 (.tmp 15) (.const (.int .i64 1)) 3, 4, none⟩, ⟨some 17, .move (.tmp 16), 4, none⟩, ⟨some 18, .move (.tmp 0), 33, some (17, false)⟩, ⟨some 19, .nilCheck (.tmp 18), 0, some (17, false)⟩, ⟨some 20, .fieldAddr 66 (.tmp 19) 0, 0, some (17, false)⟩, ⟨some 21, .load 22 (.tmp 20), 22, some (17, false)⟩, ⟨some 22, .call { callee := .builtin .len, args := #[.tmp 21], argTypes := #[22] }, 3, some (17, false)⟩, ⟨some 23, .binOp .eql 3 (.tmp 22) (.const (.int .i64 0)) 3, 4, some (17, false)⟩, ⟨some 24, .pick (.tmp 17) (.const (.bool true)) (.tmp 23), 4, none⟩]) (.cond (.tmp 24) (.seq (.ops [⟨some 4, .assign (.const (.int .i64 0)), 3, none⟩]) (.ret)) (.skip))) (q_s_l1Rd_pick_c1)))⟩
theorem conv_s_l1Rd_pick : convF Tryd.f29 = some q_s_l1Rd_pick := by kernel_rfl
abbrev fn_s_l1Rd_one : FuncId := 30
@[simp] def q_s_l1Rd_one : QFn := ⟨12, [(.tmp 4, 3)], .seq (.ops [⟨some 4, .assign (.const (.int .i64 0)), 3, none⟩]) (.seq (.ops [⟨some 5, .move (.tmp 1), 63, none⟩, ⟨some 6, .move (.tmp 0), 33, none⟩, ⟨some 7, .move (.tmp 1), 63, none⟩, ⟨some 8, .call { callee := .builtin .len, args := #[.tmp 7], argTypes := #[63] }, 3, none⟩, ⟨some 9, .call { callee := .value (.func 29), args := #[.tmp 6, .tmp 8], argTypes := #[33, 3] }, 3, none⟩, ⟨some 10, .indexAddr 63 (.tmp 5) (.tmp 9), 0, none⟩, ⟨some 11, .load 3 (.tmp 10), 3, none⟩, ⟨some 4, .assign (.tmp 11), 3, none⟩]) (.ret))⟩
theorem conv_s_l1Rd_one : convF Tryd.f30 = some q_s_l1Rd_one := by kernel_rfl
abbrev fn_s_l1Rd_of : FuncId := 31
@[simp] def q_s_l1Rd_of : QFn := ⟨12, [(.tmp 4, 9)], .seq (.ops [⟨some 4, .assign (.const (.string { data := #[] })), 9, none⟩]) (.seq (.ops [⟨some 5, .move (.tmp 1), 38, none⟩, ⟨some 6, .move (.tmp 0), 33, none⟩, ⟨some 7, .move (.tmp 1), 38, none⟩, ⟨some 8, .call { callee := .builtin .len, args := #[.tmp 7], argTypes := #[38] }, 3, none⟩, ⟨some 9, .call { callee := .value (.func 29), args := #[.tmp 6, .tmp 8], argTypes := #[33, 3] }, 3, none⟩, ⟨some 10, .indexAddr 38 (.tmp 5) (.tmp 9), 0, none⟩, ⟨some 11, .load 9 (.tmp 10), 9, none⟩, ⟨some 4, .assign (.tmp 11), 9, none⟩]) (.ret))⟩
theorem conv_s_l1Rd_of : convF Tryd.f31 = some q_s_l1Rd_of := by kernel_rfl
abbrev fn_i_lineReader_next : FuncId := 34
def q_i_lineReader_next_c0 : QCode := .seq (.ops [⟨some 18, .move (.tmp 0), 83, none⟩, ⟨some 19, .move (.tmp 5), 9, none⟩, ⟨some 20, .nilCheck (.tmp 18), 0, none⟩, ⟨some 21, .fieldAddr 48 (.tmp 20) 0, 0, none⟩, ⟨none, .store 9 (.tmp 21) (.tmp 19), 0, none⟩]) (.seq (.ops [⟨some 22, .move (.tmp 4), 9, none⟩, ⟨some 2, .assign (.tmp 22), 9, none⟩, ⟨some 3, .assign (.const (.bool true)), 4, none⟩]) (.ret))
@[simp] theorem q_i_lineReader_next_c0_run : type_of% (run_is q_i_lineReader_next_c0.eq_1) := run_is q_i_lineReader_next_c0.eq_1
@[simp] def q_i_lineReader_next : QFn := ⟨23, [(.tmp 2, 9), (.tmp 3, 4)], .seq (.ops [⟨some 2, .assign (.const (.string { data := #[] })), 9, none⟩, ⟨some 3, .assign (.const (.bool false)), 4, none⟩]) (.seq (.ops [⟨some 8, .move (.tmp 0), 83, none⟩, ⟨some 9, .nilCheck (.tmp 8), 0, none⟩, ⟨some 10, .fieldAddr 48 (.tmp 9) 0, 0, none⟩, ⟨some 11, .load 9 (.tmp 10), 9, none⟩, ⟨some 12, .call { callee := .value (.func 48), args := #[.tmp 11, .const (.string { data := #[10] })], argTypes := #[9, 9] }, 84, none⟩, ⟨some 7, .move (.tmp 12), 84, none⟩, ⟨some 13, .extract (.tmp 7) 0, 9, none⟩, ⟨some 14, .extract (.tmp 7) 1, 9, none⟩, ⟨some 15, .extract (.tmp 7) 2, 4, none⟩, ⟨some 4, .assign (.tmp 13), 9, none⟩, ⟨some 5, .assign (.tmp 14), 9, none⟩, ⟨some 6, .assign (.tmp 15), 4, none⟩]) (.seq (.seq (.ops [⟨some 16, .move (.tmp 6), 4, none⟩, ⟨some 17, .unOp .not 4 (.tmp 16), 4, none⟩]) (.cond (.tmp 17) (.seq (.ops [⟨some 2, .assign (.const (.string { data := #[] })), 9, none⟩, ⟨some 3, .assign (.const (.bool false)), 4, none⟩]) (.ret)) (.skip))) (q_i_lineReader_next_c0)))⟩
theorem conv_i_lineReader_next : convF Tryd.f34 = some q_i_lineReader_next := by kernel_rfl
abbrev fn_i_number : FuncId := 36
def q_i_number_c0 : QCode := .ops [⟨some 40, .move (.tmp 6), 3, none⟩, ⟨some 41, .binOp .mul 3 (.tmp 40) (.const (.int .i64 10)) 3, 3, none⟩, ⟨some 42, .move (.tmp 0), 9, none⟩, ⟨some 43, .move (.tmp 7), 3, none⟩, ⟨some 44, .index 9 (.tmp 42) (.tmp 43), 5, none⟩, ⟨some 45, .binOp .sub 5 (.tmp 44) (.const (.int .u8 48)) 5, 5, none⟩, ⟨some 46, .convert 5 3 (.tmp 45), 3, none⟩, ⟨some 47, .binOp .add 3 (.tmp 41) (.tmp 46) 3, 3, none⟩, ⟨some 6, .assign (.tmp 47), 3, none⟩]
@[simp] theorem q_i_number_c0_run : type_of% (run_is q_i_number_c0.eq_1) := run_is q_i_number_c0.eq_1
def q_i_number_c1 : QCode := .ops [⟨some 48, .binOp .add 3 (.tmp 27) (.const (.int .i64 1)) 3, 3, none⟩, ⟨some 27, .move (.tmp 48), 3, none⟩]
@[simp] theorem q_i_number_c1_run : type_of% (run_is q_i_number_c1.eq_1) := run_is q_i_number_c1.eq_1
def q_i_number_c2 : QCode := .seq (.block 1 (.seq (.ops [⟨some 29, .move (.tmp 27), 3, none⟩, ⟨some 7, .assign (.tmp 29), 3, none⟩]) (.seq (.seq (.ops [⟨some 30, .move (.tmp 0), 9, none⟩, ⟨some 31, .move (.tmp 7), 3, none⟩, ⟨some 32, .index 9 (.tmp 30) (.tmp 31), 5, none⟩, ⟨some 33, .binOp .lss 5 (.tmp 32) (.const (.int .u8 48)) 5, 4, none⟩, ⟨some 34, .move (.tmp 33), 4, none⟩, ⟨some 35, .move (.tmp 0), 9, some (34, false)⟩, ⟨some 36, .move (.tmp 7), 3, some (34, false)⟩, ⟨some 37, .index 9 (.tmp 35) (.tmp 36), 5, some (34, false)⟩, ⟨some 38, .binOp .gtr 5 (.tmp 37) (.const (.int .u8 57)) 5, 4, some (34, false)⟩, ⟨some 39, .pick (.tmp 34) (.const (.bool true)) (.tmp 38), 4, none⟩]) (.cond (.tmp 39) (.seq (.ops [⟨some 4, .assign (.const (.int .i64 0)), 3, none⟩, ⟨some 5, .assign (.const (.bool false)), 4, none⟩]) (.ret)) (.skip))) (q_i_number_c0)))) (q_i_number_c1)
@[simp] theorem q_i_number_c2_run : type_of% (run_is q_i_number_c2.eq_1) := run_is q_i_number_c2.eq_1
def q_i_number_l0 : QCode := .seq (.ops [⟨some 28, .binOp .lss 3 (.tmp 27) (.tmp 26) 3, 4, none⟩]) (.seq (.cond (.tmp 28) (.skip) (.exit 0)) (q_i_number_c2))
@[simp] theorem q_i_number_l0_run : type_of% (run_is q_i_number_l0.eq_1) := run_is q_i_number_l0.eq_1
def q_i_number_c3 : QCode := .seq (.ops [⟨some 52, .move (.tmp 6), 3, none⟩, ⟨some 4, .assign (.tmp 52), 3, none⟩, ⟨some 5, .assign (.const (.bool true)), 4, none⟩]) (.ret)
@[simp] theorem q_i_number_c3_run : type_of% (run_is q_i_number_c3.eq_1) := run_is q_i_number_c3.eq_1
def q_i_number_c4 : QCode := .seq (.seq (.ops [⟨some 49, .move (.tmp 6), 3, none⟩, ⟨some 50, .move (.tmp 1), 3, none⟩, ⟨some 51, .binOp .gtr 3 (.tmp 49) (.tmp 50) 3, 4, none⟩]) (.cond (.tmp 51) (.seq (.ops [⟨some 4, .assign (.const (.int .i64 0)), 3, none⟩, ⟨some 5, .assign (.const (.bool false)), 4, none⟩]) (.ret)) (.skip))) (q_i_number_c3)
@[simp] theorem q_i_number_c4_run : type_of% (run_is q_i_number_c4.eq_1) := run_is q_i_number_c4.eq_1
def q_i_number_c5 : QCode := .seq (.ops [⟨some 6, .assign (.const (.int .i64 0)), 3, none⟩]) (.seq (.seq (.ops [⟨some 25, .move (.tmp 0), 9, none⟩, ⟨some 26, .call { callee := .builtin .len, args := #[.tmp 25], argTypes := #[9] }, 3, none⟩, ⟨some 27, .move (.const (.int .i64 0)), 3, none⟩]) (.block 0 (.loop q_i_number_l0))) (q_i_number_c4))
@[simp] theorem q_i_number_c5_run : type_of% (run_is q_i_number_c5.eq_1) := run_is q_i_number_c5.eq_1
@[simp] def q_i_number : QFn := ⟨53, [(.tmp 4, 3), (.tmp 5, 4)], .seq (.ops [⟨some 4, .assign (.const (.int .i64 0)), 3, none⟩, ⟨some 5, .assign (.const (.bool false)), 4, none⟩]) (.seq (.seq (.ops [⟨some 8, .move (.tmp 0), 9, none⟩, ⟨some 9, .binOp .eql 9 (.tmp 8) (.const (.string { data := #[] })) 9, 4, none⟩, ⟨some 10, .move (.tmp 9), 4, none⟩, ⟨some 11, .move (.tmp 0), 9, some (10, false)⟩, ⟨some 12, .call { callee := .builtin .len, args := #[.tmp 11], argTypes := #[9] }, 3, some (10, false)⟩, ⟨some 13, .binOp .gtr 3 (.tmp 12) (.const (.int .i64 9)) 3, 4, some (10, false)⟩, ⟨some 14, .pick (.tmp 10) (.const (.bool true)) (.tmp 13), 4, none⟩, ⟨some 15, .move (.tmp 14), 4, none⟩, ⟨some 16, .move (.tmp 0), 9, some (15, false)⟩, ⟨some 17, .call { callee := .builtin .len, args := #[.tmp 16], argTypes := #[9] }, 3, some (15, false)⟩, ⟨some 18, .binOp .gtr 3 (.tmp 17) (.const (.int .i64 1)) 3, 4, some (15, false)⟩, ⟨some 19, .move (.tmp 18), 4, some (15, false)⟩, ⟨some 20, .move (.tmp 0), 9, some (19, true)⟩, ⟨some 21, .index 9 (.tmp 20) (.const (.int .i64 0)), 5, some (19, true)⟩, ⟨some 22, .binOp .eql 5 (.tmp 21) (.const (.int .u8 48)) 5, 4, some (19, true)⟩, ⟨some 23, .pick (.tmp 19) (.tmp 22) (.const (.bool false)), 4, some (15, false)⟩, ⟨some 24, .pick (.tmp 15) (.const (.bool true)) (.tmp 23), 4, none⟩]) (.cond (.tmp 24) (.seq (.ops [⟨some 4, .assign (.const (.int .i64 0)), 3, none⟩, ⟨some 5, .assign (.const (.bool false)), 4, none⟩]) (.ret)) (.skip))) (q_i_number_c5))⟩
theorem conv_i_number : convF Tryd.f36 = some q_i_number := by kernel_rfl
abbrev fn_s_l1Dec : FuncId := 37
def q_s_l1Dec_c0 : QCode := .seq (.draw [] [⟨some 18, .move (.tmp 0), 3, none⟩, ⟨some 19, .binOp .quo 3 (.tmp 18) (.const (.int .i64 10)) 3, 3, none⟩, ⟨some 20, .call { callee := .value (.func 37), args := #[.tmp 19], argTypes := #[3] }, 9, none⟩, ⟨some 21, .move (.tmp 0), 3, none⟩, ⟨some 22, .binOp .rem 3 (.tmp 21) (.const (.int .i64 10)) 3, 3, none⟩, ⟨some 23, .binOp .add 3 (.const (.int .i64 48)) (.tmp 22) 3, 3, none⟩, ⟨some 24, .convert 3 5 (.tmp 23), 5, none⟩, ⟨some 25, .buildSlice 22 1 #[(0, .tmp 24)], 22, none⟩, ⟨some 26, .convert 22 9 (.tmp 25), 9, none⟩] [⟨some 27, .binOp .add 9 (.tmp 20) (.tmp 26) 9, 9, none⟩, ⟨some 2, .assign (.tmp 27), 9, none⟩]) (.ret)
@[simp] theorem q_s_l1Dec_c0_run : type_of% (run_is q_s_l1Dec_c0.eq_1) := run_is q_s_l1Dec_c0.eq_1
def q_s_l1Dec_c1 : QCode := .seq (.seq (.ops [⟨some 11, .move (.tmp 0), 3, none⟩, ⟨some 12, .binOp .lss 3 (.tmp 11) (.const (.int .i64 10)) 3, 4, none⟩]) (.cond (.tmp 12) (.seq (.ops [⟨some 13, .move (.tmp 0), 3, none⟩, ⟨some 14, .binOp .add 3 (.const (.int .i64 48)) (.tmp 13) 3, 3, none⟩, ⟨some 15, .convert 3 5 (.tmp 14), 5, none⟩, ⟨some 16, .buildSlice 22 1 #[(0, .tmp 15)], 22, none⟩, ⟨some 17, .convert 22 9 (.tmp 16), 9, none⟩, ⟨some 2, .assign (.tmp 17), 9, none⟩]) (.ret)) (.skip))) (q_s_l1Dec_c0)
@[simp] theorem q_s_l1Dec_c1_run : type_of% (run_is q_s_l1Dec_c1.eq_1) := run_is q_s_l1Dec_c1.eq_1
def q_s_l1Dec_c2 : QCode := .seq (.seq (.ops [⟨some 5, .move (.tmp 0), 3, none⟩, ⟨some 6, .binOp .lss 3 (.tmp 5) (.const (.int .i64 0)) 3, 4, none⟩]) (.cond (.tmp 6) (.seq (.ops [⟨some 7, .move (.tmp 0), 3, none⟩, ⟨some 8, .unOp .neg 3 (.tmp 7), 3, none⟩, ⟨some 9, .call { callee := .value (.func 37), args := #[.tmp 8], argTypes := #[3] }, 9, none⟩, ⟨some 10, .binOp .add 9 (.const (.string { data := #[45] })) (.tmp 9) 9, 9, none⟩, ⟨some 2, .assign (.tmp 10), 9, none⟩]) (.ret)) (.skip))) (q_s_l1Dec_c1)
@[simp] theorem q_s_l1Dec_c2_run : type_of% (run_is q_s_l1Dec_c2.eq_1) := run_is q_s_l1Dec_c2.eq_1
@[simp] def q_s_l1Dec : QFn := ⟨28, [(.tmp 2, 9)], .seq (.ops [⟨some 2, .assign (.const (.string { data := #[] })), 9, none⟩]) (.seq (.seq (.ops [⟨some 3, .move (.tmp 0), 3, none⟩, ⟨some 4, .binOp .lss 3 (.tmp 3) (.const (.int .i64 (-9223372036854775807))) 3, 4, none⟩]) (.cond (.tmp 4) (.seq (.ops [⟨some 2, .assign (.const (.string { data := #[45, 57, 50, 50, 51, 51, 55, 50, 48, 51, 54, 56, 53, 52, 55, 55, 53, 56, 48, 56] })), 9, none⟩]) (.ret)) (.skip))) (q_s_l1Dec_c2))⟩
theorem conv_s_l1Dec : convF Tryd.f37 = some q_s_l1Dec := by kernel_rfl
abbrev fn_i_plainText : FuncId := 38
def q_i_plainText_c0 : QCode := .ops [⟨some 17, .binOp .add 3 (.tmp 9) (.const (.int .i64 1)) 3, 3, none⟩, ⟨some 9, .move (.tmp 17), 3, none⟩]
@[simp] theorem q_i_plainText_c0_run : type_of% (run_is q_i_plainText_c0.eq_1) := run_is q_i_plainText_c0.eq_1
def q_i_plainText_c1 : QCode := .seq (.block 1 (.seq (.ops [⟨some 11, .move (.tmp 9), 3, none⟩, ⟨some 3, .assign (.tmp 11), 3, none⟩]) (.seq (.ops [⟨some 12, .move (.tmp 0), 9, none⟩, ⟨some 13, .move (.tmp 3), 3, none⟩, ⟨some 14, .index 9 (.tmp 12) (.tmp 13), 5, none⟩, ⟨some 15, .call { callee := .value (.func 50), args := #[.tmp 14], argTypes := #[5] }, 4, none⟩, ⟨some 16, .unOp .not 4 (.tmp 15), 4, none⟩]) (.cond (.tmp 16) (.seq (.ops [⟨some 2, .assign (.const (.bool false)), 4, none⟩]) (.ret)) (.skip))))) (q_i_plainText_c0)
@[simp] theorem q_i_plainText_c1_run : type_of% (run_is q_i_plainText_c1.eq_1) := run_is q_i_plainText_c1.eq_1
def q_i_plainText_l0 : QCode := .seq (.ops [⟨some 10, .binOp .lss 3 (.tmp 9) (.tmp 8) 3, 4, none⟩]) (.seq (.cond (.tmp 10) (.skip) (.exit 0)) (q_i_plainText_c1))
@[simp] theorem q_i_plainText_l0_run : type_of% (run_is q_i_plainText_l0.eq_1) := run_is q_i_plainText_l0.eq_1
def q_i_plainText_c2 : QCode := .seq (.ops [⟨some 2, .assign (.const (.bool true)), 4, none⟩]) (.ret)
@[simp] theorem q_i_plainText_c2_run : type_of% (run_is q_i_plainText_c2.eq_1) := run_is q_i_plainText_c2.eq_1
def q_i_plainText_c3 : QCode := .seq (.seq (.ops [⟨some 7, .move (.tmp 0), 9, none⟩, ⟨some 8, .call { callee := .builtin .len, args := #[.tmp 7], argTypes := #[9] }, 3, none⟩, ⟨some 9, .move (.const (.int .i64 0)), 3, none⟩]) (.block 0 (.loop q_i_plainText_l0))) (q_i_plainText_c2)
@[simp] theorem q_i_plainText_c3_run : type_of% (run_is q_i_plainText_c3.eq_1) := run_is q_i_plainText_c3.eq_1
@[simp] def q_i_plainText : QFn := ⟨18, [(.tmp 2, 4)], .seq (.ops [⟨some 2, .assign (.const (.bool false)), 4, none⟩]) (.seq (.seq (.ops [⟨some 4, .move (.tmp 0), 9, none⟩, ⟨some 5, .call { callee := .builtin .len, args := #[.tmp 4], argTypes := #[9] }, 3, none⟩, ⟨some 6, .binOp .gtr 3 (.tmp 5) (.const (.int .i64 80)) 3, 4, none⟩]) (.cond (.tmp 6) (.seq (.ops [⟨some 2, .assign (.const (.bool false)), 4, none⟩]) (.ret)) (.skip))) (q_i_plainText_c3))⟩
theorem conv_i_plainText : convF Tryd.f38 = some q_i_plainText := by kernel_rfl
abbrev fn_s_l5Seen : FuncId := 39
def q_s_l5Seen_c0 : QCode := .ops [⟨some 8, .move (.tmp 3), 3, none⟩, ⟨some 9, .binOp .add 3 (.tmp 8) (.const (.int .i64 1)) 3, 3, none⟩, ⟨some 3, .assign (.tmp 9), 3, none⟩]
@[simp] theorem q_s_l5Seen_c0_run : type_of% (run_is q_s_l5Seen_c0.eq_1) := run_is q_s_l5Seen_c0.eq_1
def q_s_l5Seen_c1 : QCode := .seq (.block 1 (.seq (.ops [⟨some 10, .move (.tmp 0), 9, none⟩, ⟨some 11, .move (.tmp 3), 3, none⟩, ⟨some 12, .index 9 (.tmp 10) (.tmp 11), 5, none⟩, ⟨some 13, .convert 5 3 (.tmp 12), 3, none⟩, ⟨some 14, .call { callee := .value (.func 40), args := #[.tmp 13, .const (.int .i64 32), .const (.int .i64 126)], argTypes := #[3, 3, 3] }, 4, none⟩, ⟨some 15, .unOp .not 4 (.tmp 14), 4, none⟩]) (.cond (.tmp 15) (.seq (.ops [⟨some 2, .assign (.const (.bool false)), 4, none⟩]) (.ret)) (.skip)))) (q_s_l5Seen_c0)
@[simp] theorem q_s_l5Seen_c1_run : type_of% (run_is q_s_l5Seen_c1.eq_1) := run_is q_s_l5Seen_c1.eq_1
def q_s_l5Seen_l0 : QCode := .seq (.seq (.ops [⟨some 4, .move (.tmp 3), 3, none⟩, ⟨some 5, .move (.tmp 0), 9, none⟩, ⟨some 6, .call { callee := .builtin .len, args := #[.tmp 5], argTypes := #[9] }, 3, none⟩, ⟨some 7, .binOp .lss 3 (.tmp 4) (.tmp 6) 3, 4, none⟩]) (.cond (.tmp 7) (.skip) (.exit 0))) (q_s_l5Seen_c1)
@[simp] theorem q_s_l5Seen_l0_run : type_of% (run_is q_s_l5Seen_l0.eq_1) := run_is q_s_l5Seen_l0.eq_1
def q_s_l5Seen_c2 : QCode := .seq (.ops [⟨some 16, .move (.tmp 0), 9, none⟩, ⟨some 17, .call { callee := .builtin .len, args := #[.tmp 16], argTypes := #[9] }, 3, none⟩, ⟨some 18, .binOp .leq 3 (.tmp 17) (.const (.int .i64 80)) 3, 4, none⟩, ⟨some 2, .assign (.tmp 18), 4, none⟩]) (.ret)
@[simp] theorem q_s_l5Seen_c2_run : type_of% (run_is q_s_l5Seen_c2.eq_1) := run_is q_s_l5Seen_c2.eq_1
@[simp] def q_s_l5Seen : QFn := ⟨19, [(.tmp 2, 4)], .seq (.ops [⟨some 2, .assign (.const (.bool false)), 4, none⟩]) (.seq (.seq (.ops [⟨some 3, .assign (.const (.int .i64 0)), 3, none⟩]) (.block 0 (.loop q_s_l5Seen_l0))) (q_s_l5Seen_c2))⟩
theorem conv_s_l5Seen : convF Tryd.f39 = some q_s_l5Seen := by kernel_rfl
abbrev fn_s_l1In : FuncId := 40
@[simp] def q_s_l1In : QFn := ⟨15, [(.tmp 6, 4)], .seq (.ops [⟨some 6, .assign (.const (.bool false)), 4, none⟩]) (.seq (.ops [⟨some 7, .move (.tmp 0), 3, none⟩, ⟨some 8, .move (.tmp 1), 3, none⟩, ⟨some 9, .binOp .geq 3 (.tmp 7) (.tmp 8) 3, 4, none⟩, ⟨some 10, .move (.tmp 9), 4, none⟩, ⟨some 11, .move (.tmp 0), 3, some (10, true)⟩, ⟨some 12, .move (.tmp 2), 3, some (10, true)⟩, ⟨some 13, .binOp .leq 3 (.tmp 11) (.tmp 12) 3, 4, some (10, true)⟩, ⟨some 14, .pick (.tmp 10) (.tmp 13) (.const (.bool false)), 4, none⟩, ⟨some 6, .assign (.tmp 14), 4, none⟩]) (.ret))⟩
theorem conv_s_l1In : convF Tryd.f40 = some q_s_l1In := by kernel_rfl
abbrev fn_s_l11Lines : FuncId := 41
def q_s_l11Lines_c0 : QCode := .ops [⟨some 10, .move (.tmp 4), 3, none⟩, ⟨some 11, .binOp .sub 3 (.tmp 10) (.const (.int .i64 1)) 3, 3, none⟩, ⟨some 4, .assign (.tmp 11), 3, none⟩]
@[simp] theorem q_s_l11Lines_c0_run : type_of% (run_is q_s_l11Lines_c0.eq_1) := run_is q_s_l11Lines_c0.eq_1
def q_s_l11Lines_c1 : QCode := .seq (.block 1 (.ops [⟨some 12, .move (.tmp 3), 38, none⟩, ⟨some 13, .move (.tmp 0), 33, none⟩, ⟨some 14, .buildSlice 38 7 #[(0, .const (.string { data := #[97] })), (1, .const (.string { data := #[98] })), (2, .const (.string { data := #[99] })), (3, .const (.string { data := #[100] })), (4, .const (.string { data := #[] })), (5, .const (.string { data := #[115, 97, 109, 101] })), (6, .const (.string { data := #[115, 97, 109, 101] }))], 38, none⟩, ⟨some 15, .call { callee := .value (.func 31), args := #[.tmp 13, .tmp 14], argTypes := #[33, 38] }, 9, none⟩, ⟨some 16, .buildSlice 38 1 #[(0, .tmp 15)], 38, none⟩, ⟨some 17, .call { callee := .builtin .append, args := #[.tmp 12, .tmp 16], argTypes := #[38, 38] }, 38, none⟩, ⟨some 3, .assign (.tmp 17), 38, none⟩])) (q_s_l11Lines_c0)
@[simp] theorem q_s_l11Lines_c1_run : type_of% (run_is q_s_l11Lines_c1.eq_1) := run_is q_s_l11Lines_c1.eq_1
def q_s_l11Lines_l0 : QCode := .seq (.seq (.ops [⟨some 8, .move (.tmp 4), 3, none⟩, ⟨some 9, .binOp .gtr 3 (.tmp 8) (.const (.int .i64 0)) 3, 4, none⟩]) (.cond (.tmp 9) (.skip) (.exit 0))) (q_s_l11Lines_c1)
@[simp] theorem q_s_l11Lines_l0_run : type_of% (run_is q_s_l11Lines_l0.eq_1) := run_is q_s_l11Lines_l0.eq_1
def q_s_l11Lines_c2 : QCode := .seq (.ops [⟨some 18, .move (.tmp 3), 38, none⟩, ⟨some 2, .assign (.tmp 18), 38, none⟩]) (.ret)
@[simp] theorem q_s_l11Lines_c2_run : type_of% (run_is q_s_l11Lines_c2.eq_1) := run_is q_s_l11Lines_c2.eq_1
@[simp] def q_s_l11Lines : QFn := ⟨19, [(.tmp 2, 38)], .seq (.ops [⟨some 2, .assign (.const (.slice none 0 0)), 38, none⟩]) (.seq (.ops [⟨some 5, .buildSlice 38 0 #[], 38, none⟩, ⟨some 3, .assign (.tmp 5), 38, none⟩]) (.seq (.seq (.ops [⟨some 6, .move (.tmp 0), 33, none⟩, ⟨some 7, .call { callee := .value (.func 29), args := #[.tmp 6, .const (.int .i64 9)], argTypes := #[33, 3] }, 3, none⟩, ⟨some 4, .assign (.tmp 7), 3, none⟩]) (.block 0 (.loop q_s_l11Lines_l0))) (q_s_l11Lines_c2)))⟩
theorem conv_s_l11Lines : convF Tryd.f41 = some q_s_l11Lines := by kernel_rfl
abbrev fn_s_DiffOf : FuncId := 42
def q_s_DiffOf_c0 : QCode := .block 1 (.ops [⟨some 55, .move (.tmp 5), 3, none⟩, ⟨some 56, .binOp .add 3 (.tmp 55) (.const (.int .i64 1)) 3, 3, none⟩, ⟨some 5, .assign (.tmp 56), 3, none⟩])
@[simp] theorem q_s_DiffOf_c0_run : type_of% (run_is q_s_DiffOf_c0.eq_1) := run_is q_s_DiffOf_c0.eq_1
def q_s_DiffOf_l0 : QCode := .seq (.seq (.draw [] [⟨some 34, .move (.tmp 5), 3, none⟩, ⟨some 35, .move (.tmp 0), 38, none⟩, ⟨some 36, .call { callee := .builtin .len, args := #[.tmp 35], argTypes := #[38] }, 3, none⟩, ⟨some 37, .binOp .lss 3 (.tmp 34) (.tmp 36) 3, 4, none⟩, ⟨some 38, .move (.tmp 37), 4, none⟩, ⟨some 39, .move (.tmp 5), 3, some (38, true)⟩, ⟨some 40, .move (.tmp 1), 38, some (38, true)⟩, ⟨some 41, .call { callee := .builtin .len, args := #[.tmp 40], argTypes := #[38] }, 3, some (38, true)⟩, ⟨some 42, .binOp .lss 3 (.tmp 39) (.tmp 41) 3, 4, some (38, true)⟩, ⟨some 43, .pick (.tmp 38) (.tmp 42) (.const (.bool false)), 4, none⟩, ⟨some 44, .move (.tmp 43), 4, none⟩, ⟨some 45, .move (.tmp 0), 38, some (44, true)⟩, ⟨some 46, .move (.tmp 5), 3, some (44, true)⟩, ⟨some 47, .indexAddr 38 (.tmp 45) (.tmp 46), 0, some (44, true)⟩, ⟨some 48, .load 9 (.tmp 47), 9, some (44, true)⟩, ⟨some 49, .move (.tmp 1), 38, some (44, true)⟩, ⟨some 50, .move (.tmp 5), 3, some (44, true)⟩, ⟨some 51, .indexAddr 38 (.tmp 49) (.tmp 50), 0, some (44, true)⟩, ⟨some 52, .load 9 (.tmp 51), 9, some (44, true)⟩] [⟨some 53, .binOp .eql 9 (.tmp 48) (.tmp 52) 9, 4, some (44, true)⟩, ⟨some 54, .pick (.tmp 44) (.tmp 53) (.const (.bool false)), 4, none⟩]) (.cond (.tmp 54) (.skip) (.exit 0))) (q_s_DiffOf_c0)
@[simp] theorem q_s_DiffOf_l0_run : type_of% (run_is q_s_DiffOf_l0.eq_1) := run_is q_s_DiffOf_l0.eq_1
def q_s_DiffOf_c1 : QCode := .block 3 (.ops [⟨some 90, .move (.tmp 6), 3, none⟩, ⟨some 91, .binOp .add 3 (.tmp 90) (.const (.int .i64 1)) 3, 3, none⟩, ⟨some 6, .assign (.tmp 91), 3, none⟩])
@[simp] theorem q_s_DiffOf_c1_run : type_of% (run_is q_s_DiffOf_c1.eq_1) := run_is q_s_DiffOf_c1.eq_1
def q_s_DiffOf_l1 : QCode := .seq (.seq (.draw [] [⟨some 57, .move (.tmp 6), 3, none⟩, ⟨some 58, .move (.tmp 0), 38, none⟩, ⟨some 59, .call { callee := .builtin .len, args := #[.tmp 58], argTypes := #[38] }, 3, none⟩, ⟨some 60, .move (.tmp 5), 3, none⟩, ⟨some 61, .binOp .sub 3 (.tmp 59) (.tmp 60) 3, 3, none⟩, ⟨some 62, .binOp .lss 3 (.tmp 57) (.tmp 61) 3, 4, none⟩, ⟨some 63, .move (.tmp 62), 4, none⟩, ⟨some 64, .move (.tmp 6), 3, some (63, true)⟩, ⟨some 65, .move (.tmp 1), 38, some (63, true)⟩, ⟨some 66, .call { callee := .builtin .len, args := #[.tmp 65], argTypes := #[38] }, 3, some (63, true)⟩, ⟨some 67, .move (.tmp 5), 3, some (63, true)⟩, ⟨some 68, .binOp .sub 3 (.tmp 66) (.tmp 67) 3, 3, some (63, true)⟩, ⟨some 69, .binOp .lss 3 (.tmp 64) (.tmp 68) 3, 4, some (63, true)⟩, ⟨some 70, .pick (.tmp 63) (.tmp 69) (.const (.bool false)), 4, none⟩, ⟨some 71, .move (.tmp 70), 4, none⟩, ⟨some 72, .move (.tmp 0), 38, some (71, true)⟩, ⟨some 73, .move (.tmp 0), 38, some (71, true)⟩, ⟨some 74, .call { callee := .builtin .len, args := #[.tmp 73], argTypes := #[38] }, 3, some (71, true)⟩, ⟨some 75, .binOp .sub 3 (.tmp 74) (.const (.int .i64 1)) 3, 3, some (71, true)⟩, ⟨some 76, .move (.tmp 6), 3, some (71, true)⟩, ⟨some 77, .binOp .sub 3 (.tmp 75) (.tmp 76) 3, 3, some (71, true)⟩, ⟨some 78, .indexAddr 38 (.tmp 72) (.tmp 77), 0, some (71, true)⟩, ⟨some 79, .load 9 (.tmp 78), 9, some (71, true)⟩, ⟨some 80, .move (.tmp 1), 38, some (71, true)⟩, ⟨some 81, .move (.tmp 1), 38, some (71, true)⟩, ⟨some 82, .call { callee := .builtin .len, args := #[.tmp 81], argTypes := #[38] }, 3, some (71, true)⟩, ⟨some 83, .binOp .sub 3 (.tmp 82) (.const (.int .i64 1)) 3, 3, some (71, true)⟩, ⟨some 84, .move (.tmp 6), 3, some (71, true)⟩, ⟨some 85, .binOp .sub 3 (.tmp 83) (.tmp 84) 3, 3, some (71, true)⟩, ⟨some 86, .indexAddr 38 (.tmp 80) (.tmp 85), 0, some (71, true)⟩, ⟨some 87, .load 9 (.tmp 86), 9, some (71, true)⟩] [⟨some 88, .binOp .eql 9 (.tmp 79) (.tmp 87) 9, 4, some (71, true)⟩, ⟨some 89, .pick (.tmp 71) (.tmp 88) (.const (.bool false)), 4, none⟩]) (.cond (.tmp 89) (.skip) (.exit 2))) (q_s_DiffOf_c1)
@[simp] theorem q_s_DiffOf_l1_run : type_of% (run_is q_s_DiffOf_l1.eq_1) := run_is q_s_DiffOf_l1.eq_1
def q_s_DiffOf_c2 : QCode := .ops [⟨some 103, .move (.tmp 9), 3, none⟩, ⟨some 104, .binOp .add 3 (.tmp 103) (.const (.int .i64 1)) 3, 3, none⟩, ⟨some 9, .assign (.tmp 104), 3, none⟩]
@[simp] theorem q_s_DiffOf_c2_run : type_of% (run_is q_s_DiffOf_c2.eq_1) := run_is q_s_DiffOf_c2.eq_1
def q_s_DiffOf_c3 : QCode := .seq (.block 5 (.draw [] [⟨some 105, .fieldAddr 40 (.tmp 8) 1, 0, none⟩, ⟨some 106, .load 38 (.tmp 105), 38, none⟩, ⟨some 107, .move (.tmp 0), 38, none⟩, ⟨some 108, .move (.tmp 9), 3, none⟩, ⟨some 109, .indexAddr 38 (.tmp 107) (.tmp 108), 0, none⟩, ⟨some 110, .load 9 (.tmp 109), 9, none⟩, ⟨some 111, .binOp .add 9 (.const (.string { data := #[32] })) (.tmp 110) 9, 9, none⟩, ⟨some 112, .buildSlice 38 1 #[(0, .tmp 111)], 38, none⟩] [⟨some 113, .call { callee := .builtin .append, args := #[.tmp 106, .tmp 112], argTypes := #[38, 38] }, 38, none⟩, ⟨some 114, .fieldAddr 40 (.tmp 8) 1, 0, none⟩, ⟨none, .store 38 (.tmp 114) (.tmp 113), 0, none⟩])) (q_s_DiffOf_c2)
@[simp] theorem q_s_DiffOf_c3_run : type_of% (run_is q_s_DiffOf_c3.eq_1) := run_is q_s_DiffOf_c3.eq_1
def q_s_DiffOf_l2 : QCode := .seq (.seq (.ops [⟨some 100, .move (.tmp 9), 3, none⟩, ⟨some 101, .move (.tmp 5), 3, none⟩, ⟨some 102, .binOp .lss 3 (.tmp 100) (.tmp 101) 3, 4, none⟩]) (.cond (.tmp 102) (.skip) (.exit 4))) (q_s_DiffOf_c3)
@[simp] theorem q_s_DiffOf_l2_run : type_of% (run_is q_s_DiffOf_l2.eq_1) := run_is q_s_DiffOf_l2.eq_1
def q_s_DiffOf_c4 : QCode := .ops [⟨some 122, .move (.tmp 10), 3, none⟩, ⟨some 123, .binOp .add 3 (.tmp 122) (.const (.int .i64 1)) 3, 3, none⟩, ⟨some 10, .assign (.tmp 123), 3, none⟩]
@[simp] theorem q_s_DiffOf_c4_run : type_of% (run_is q_s_DiffOf_c4.eq_1) := run_is q_s_DiffOf_c4.eq_1
def q_s_DiffOf_c5 : QCode := .seq (.block 7 (.draw [] [⟨some 124, .fieldAddr 40 (.tmp 8) 1, 0, none⟩, ⟨some 125, .load 38 (.tmp 124), 38, none⟩, ⟨some 126, .move (.tmp 0), 38, none⟩, ⟨some 127, .move (.tmp 10), 3, none⟩, ⟨some 128, .indexAddr 38 (.tmp 126) (.tmp 127), 0, none⟩, ⟨some 129, .load 9 (.tmp 128), 9, none⟩, ⟨some 130, .binOp .add 9 (.const (.string { data := #[45] })) (.tmp 129) 9, 9, none⟩, ⟨some 131, .buildSlice 38 1 #[(0, .tmp 130)], 38, none⟩] [⟨some 132, .call { callee := .builtin .append, args := #[.tmp 125, .tmp 131], argTypes := #[38, 38] }, 38, none⟩, ⟨some 133, .fieldAddr 40 (.tmp 8) 1, 0, none⟩, ⟨none, .store 38 (.tmp 133) (.tmp 132), 0, none⟩])) (q_s_DiffOf_c4)
@[simp] theorem q_s_DiffOf_c5_run : type_of% (run_is q_s_DiffOf_c5.eq_1) := run_is q_s_DiffOf_c5.eq_1
def q_s_DiffOf_l3 : QCode := .seq (.seq (.ops [⟨some 116, .move (.tmp 10), 3, none⟩, ⟨some 117, .move (.tmp 0), 38, none⟩, ⟨some 118, .call { callee := .builtin .len, args := #[.tmp 117], argTypes := #[38] }, 3, none⟩, ⟨some 119, .move (.tmp 6), 3, none⟩, ⟨some 120, .binOp .sub 3 (.tmp 118) (.tmp 119) 3, 3, none⟩, ⟨some 121, .binOp .lss 3 (.tmp 116) (.tmp 120) 3, 4, none⟩]) (.cond (.tmp 121) (.skip) (.exit 6))) (q_s_DiffOf_c5)
@[simp] theorem q_s_DiffOf_l3_run : type_of% (run_is q_s_DiffOf_l3.eq_1) := run_is q_s_DiffOf_l3.eq_1
def q_s_DiffOf_c6 : QCode := .ops [⟨some 141, .move (.tmp 11), 3, none⟩, ⟨some 142, .binOp .add 3 (.tmp 141) (.const (.int .i64 1)) 3, 3, none⟩, ⟨some 11, .assign (.tmp 142), 3, none⟩]
@[simp] theorem q_s_DiffOf_c6_run : type_of% (run_is q_s_DiffOf_c6.eq_1) := run_is q_s_DiffOf_c6.eq_1
def q_s_DiffOf_c7 : QCode := .seq (.block 9 (.draw [] [⟨some 143, .fieldAddr 40 (.tmp 8) 1, 0, none⟩, ⟨some 144, .load 38 (.tmp 143), 38, none⟩, ⟨some 145, .move (.tmp 1), 38, none⟩, ⟨some 146, .move (.tmp 11), 3, none⟩, ⟨some 147, .indexAddr 38 (.tmp 145) (.tmp 146), 0, none⟩, ⟨some 148, .load 9 (.tmp 147), 9, none⟩, ⟨some 149, .binOp .add 9 (.const (.string { data := #[43] })) (.tmp 148) 9, 9, none⟩, ⟨some 150, .buildSlice 38 1 #[(0, .tmp 149)], 38, none⟩] [⟨some 151, .call { callee := .builtin .append, args := #[.tmp 144, .tmp 150], argTypes := #[38, 38] }, 38, none⟩, ⟨some 152, .fieldAddr 40 (.tmp 8) 1, 0, none⟩, ⟨none, .store 38 (.tmp 152) (.tmp 151), 0, none⟩])) (q_s_DiffOf_c6)
@[simp] theorem q_s_DiffOf_c7_run : type_of% (run_is q_s_DiffOf_c7.eq_1) := run_is q_s_DiffOf_c7.eq_1
def q_s_DiffOf_l4 : QCode := .seq (.seq (.ops [⟨some 135, .move (.tmp 11), 3, none⟩, ⟨some 136, .move (.tmp 1), 38, none⟩, ⟨some 137, .call { callee := .builtin .len, args := #[.tmp 136], argTypes := #[38] }, 3, none⟩, ⟨some 138, .move (.tmp 6), 3, none⟩, ⟨some 139, .binOp .sub 3 (.tmp 137) (.tmp 138) 3, 3, none⟩, ⟨some 140, .binOp .lss 3 (.tmp 135) (.tmp 139) 3, 4, none⟩]) (.cond (.tmp 140) (.skip) (.exit 8))) (q_s_DiffOf_c7)
@[simp] theorem q_s_DiffOf_l4_run : type_of% (run_is q_s_DiffOf_l4.eq_1) := run_is q_s_DiffOf_l4.eq_1
def q_s_DiffOf_c8 : QCode := .ops [⟨some 170, .move (.tmp 12), 3, none⟩, ⟨some 171, .binOp .add 3 (.tmp 170) (.const (.int .i64 1)) 3, 3, none⟩, ⟨some 12, .assign (.tmp 171), 3, none⟩]
@[simp] theorem q_s_DiffOf_c8_run : type_of% (run_is q_s_DiffOf_c8.eq_1) := run_is q_s_DiffOf_c8.eq_1
def q_s_DiffOf_c9 : QCode := .seq (.block 11 (.draw [] [⟨some 172, .fieldAddr 40 (.tmp 8) 1, 0, none⟩, ⟨some 173, .load 38 (.tmp 172), 38, none⟩, ⟨some 174, .move (.tmp 0), 38, none⟩, ⟨some 175, .move (.tmp 12), 3, none⟩, ⟨some 176, .indexAddr 38 (.tmp 174) (.tmp 175), 0, none⟩, ⟨some 177, .load 9 (.tmp 176), 9, none⟩, ⟨some 178, .binOp .add 9 (.const (.string { data := #[32] })) (.tmp 177) 9, 9, none⟩, ⟨some 179, .buildSlice 38 1 #[(0, .tmp 178)], 38, none⟩] [⟨some 180, .call { callee := .builtin .append, args := #[.tmp 173, .tmp 179], argTypes := #[38, 38] }, 38, none⟩, ⟨some 181, .fieldAddr 40 (.tmp 8) 1, 0, none⟩, ⟨none, .store 38 (.tmp 181) (.tmp 180), 0, none⟩])) (q_s_DiffOf_c8)
@[simp] theorem q_s_DiffOf_c9_run : type_of% (run_is q_s_DiffOf_c9.eq_1) := run_is q_s_DiffOf_c9.eq_1
def q_s_DiffOf_l5 : QCode := .seq (.seq (.ops [⟨some 157, .move (.tmp 12), 3, none⟩, ⟨some 158, .move (.tmp 0), 38, none⟩, ⟨some 159, .call { callee := .builtin .len, args := #[.tmp 158], argTypes := #[38] }, 3, none⟩, ⟨some 160, .binOp .lss 3 (.tmp 157) (.tmp 159) 3, 4, none⟩, ⟨some 161, .move (.tmp 160), 4, none⟩, ⟨some 162, .move (.tmp 12), 3, some (161, true)⟩, ⟨some 163, .move (.tmp 0), 38, some (161, true)⟩, ⟨some 164, .call { callee := .builtin .len, args := #[.tmp 163], argTypes := #[38] }, 3, some (161, true)⟩, ⟨some 165, .move (.tmp 6), 3, some (161, true)⟩, ⟨some 166, .binOp .sub 3 (.tmp 164) (.tmp 165) 3, 3, some (161, true)⟩, ⟨some 167, .binOp .add 3 (.tmp 166) (.const (.int .i64 2)) 3, 3, some (161, true)⟩, ⟨some 168, .binOp .lss 3 (.tmp 162) (.tmp 167) 3, 4, some (161, true)⟩, ⟨some 169, .pick (.tmp 161) (.tmp 168) (.const (.bool false)), 4, none⟩]) (.cond (.tmp 169) (.skip) (.exit 10))) (q_s_DiffOf_c9)
@[simp] theorem q_s_DiffOf_l5_run : type_of% (run_is q_s_DiffOf_l5.eq_1) := run_is q_s_DiffOf_l5.eq_1
def q_s_DiffOf_c10 : QCode := .seq (.ops [⟨some 186, .load 40 (.tmp 8), 40, none⟩, ⟨some 187, .buildSlice 23 1 #[(0, .tmp 186)], 23, none⟩, ⟨some 4, .assign (.tmp 187), 23, none⟩]) (.ret)
@[simp] theorem q_s_DiffOf_c10_run : type_of% (run_is q_s_DiffOf_c10.eq_1) := run_is q_s_DiffOf_c10.eq_1
def q_s_DiffOf_c11 : QCode := .seq (.seq (.ops [⟨some 182, .load 40 (.tmp 8), 40, none⟩, ⟨some 183, .call { callee := .value (.func 23), args := #[.tmp 182], argTypes := #[40] }, 4, none⟩, ⟨some 184, .unOp .not 4 (.tmp 183), 4, none⟩]) (.cond (.tmp 184) (.seq (.ops [⟨some 185, .buildSlice 23 0 #[], 23, none⟩, ⟨some 4, .assign (.tmp 185), 23, none⟩]) (.ret)) (.skip))) (q_s_DiffOf_c10)
@[simp] theorem q_s_DiffOf_c11_run : type_of% (run_is q_s_DiffOf_c11.eq_1) := run_is q_s_DiffOf_c11.eq_1
def q_s_DiffOf_c12 : QCode := .seq (.seq (.ops [⟨some 153, .move (.tmp 0), 38, none⟩, ⟨some 154, .call { callee := .builtin .len, args := #[.tmp 153], argTypes := #[38] }, 3, none⟩, ⟨some 155, .move (.tmp 6), 3, none⟩, ⟨some 156, .binOp .sub 3 (.tmp 154) (.tmp 155) 3, 3, none⟩, ⟨some 12, .assign (.tmp 156), 3, none⟩]) (.block 10 (.loop q_s_DiffOf_l5))) (q_s_DiffOf_c11)
@[simp] theorem q_s_DiffOf_c12_run : type_of% (run_is q_s_DiffOf_c12.eq_1) := run_is q_s_DiffOf_c12.eq_1
def q_s_DiffOf_c13 : QCode := .seq (.seq (.ops [⟨some 134, .move (.tmp 5), 3, none⟩, ⟨some 11, .assign (.tmp 134), 3, none⟩]) (.block 8 (.loop q_s_DiffOf_l4))) (q_s_DiffOf_c12)
@[simp] theorem q_s_DiffOf_c13_run : type_of% (run_is q_s_DiffOf_c13.eq_1) := run_is q_s_DiffOf_c13.eq_1
def q_s_DiffOf_c14 : QCode := .seq (.seq (.ops [⟨some 115, .move (.tmp 5), 3, none⟩, ⟨some 10, .assign (.tmp 115), 3, none⟩]) (.block 6 (.loop q_s_DiffOf_l3))) (q_s_DiffOf_c13)
@[simp] theorem q_s_DiffOf_c14_run : type_of% (run_is q_s_DiffOf_c14.eq_1) := run_is q_s_DiffOf_c14.eq_1
def q_s_DiffOf_c15 : QCode := .seq (.ops [⟨some 96, .move (.tmp 7), 3, none⟩, ⟨some 97, .binOp .add 3 (.tmp 96) (.const (.int .i64 1)) 3, 3, none⟩, ⟨some 98, .build 40 #[(0, .tmp 97)], 40, none⟩, ⟨some 8, .alloc 40, 0, none⟩, ⟨none, .store 40 (.tmp 8) (.tmp 98), 0, none⟩]) (.seq (.seq (.ops [⟨some 99, .move (.tmp 7), 3, none⟩, ⟨some 9, .assign (.tmp 99), 3, none⟩]) (.block 4 (.loop q_s_DiffOf_l2))) (q_s_DiffOf_c14))
@[simp] theorem q_s_DiffOf_c15_run : type_of% (run_is q_s_DiffOf_c15.eq_1) := run_is q_s_DiffOf_c15.eq_1
def q_s_DiffOf_c16 : QCode := .seq (.ops [⟨some 92, .move (.tmp 5), 3, none⟩, ⟨some 93, .binOp .sub 3 (.tmp 92) (.const (.int .i64 2)) 3, 3, none⟩, ⟨some 7, .assign (.tmp 93), 3, none⟩]) (.seq (.seq (.ops [⟨some 94, .move (.tmp 7), 3, none⟩, ⟨some 95, .binOp .lss 3 (.tmp 94) (.const (.int .i64 0)) 3, 4, none⟩]) (.cond (.tmp 95) (.ops [⟨some 7, .assign (.const (.int .i64 0)), 3, none⟩]) (.skip))) (q_s_DiffOf_c15))
@[simp] theorem q_s_DiffOf_c16_run : type_of% (run_is q_s_DiffOf_c16.eq_1) := run_is q_s_DiffOf_c16.eq_1
def q_s_DiffOf_c17 : QCode := .seq (.ops [⟨some 6, .assign (.const (.int .i64 0)), 3, none⟩]) (.seq (.block 2 (.loop q_s_DiffOf_l1)) (q_s_DiffOf_c16))
@[simp] theorem q_s_DiffOf_c17_run : type_of% (run_is q_s_DiffOf_c17.eq_1) := run_is q_s_DiffOf_c17.eq_1
def q_s_DiffOf_c18 : QCode := .seq (.ops [⟨some 5, .assign (.const (.int .i64 0)), 3, none⟩]) (.seq (.block 0 (.loop q_s_DiffOf_l0)) (q_s_DiffOf_c17))
@[simp] theorem q_s_DiffOf_c18_run : type_of% (run_is q_s_DiffOf_c18.eq_1) := run_is q_s_DiffOf_c18.eq_1
@[simp] def q_s_DiffOf : QFn := ⟨188, [(.tmp 4, 23)], .seq (.ops [⟨some 4, .assign (.const (.slice none 0 0)), 23, none⟩]) (.seq (.seq (.ops [⟨some 13, .move (.tmp 0), 38, none⟩, ⟨some 14, .call { callee := .value (.func 51), args := #[.tmp 13], argTypes := #[38] }, 4, none⟩, ⟨some 15, .unOp .not 4 (.tmp 14), 4, none⟩, ⟨some 16, .move (.tmp 15), 4, none⟩, ⟨some 17, .move (.tmp 1), 38, some (16, false)⟩, ⟨some 18, .call { callee := .value (.func 51), args := #[.tmp 17], argTypes := #[38] }, 4, some (16, false)⟩, ⟨some 19, .unOp .not 4 (.tmp 18), 4, some (16, false)⟩, ⟨some 20, .pick (.tmp 16) (.const (.bool true)) (.tmp 19), 4, none⟩, ⟨some 21, .move (.tmp 20), 4, none⟩, ⟨some 22, .move (.tmp 0), 38, some (21, false)⟩, ⟨some 23, .call { callee := .builtin .len, args := #[.tmp 22], argTypes := #[38] }, 3, some (21, false)⟩, ⟨some 24, .move (.tmp 1), 38, some (21, false)⟩, ⟨some 25, .call { callee := .builtin .len, args := #[.tmp 24], argTypes := #[38] }, 3, some (21, false)⟩, ⟨some 26, .binOp .eql 3 (.tmp 23) (.tmp 25) 3, 4, some (21, false)⟩, ⟨some 27, .move (.tmp 26), 4, some (21, false)⟩, ⟨some 28, .move (.tmp 0), 38, some (27, true)⟩, ⟨some 29, .move (.tmp 1), 38, some (27, true)⟩, ⟨some 30, .call { callee := .value (.func 52), args := #[.tmp 28, .const (.int .i64 0), .tmp 29], argTypes := #[38, 3, 38] }, 4, some (27, true)⟩, ⟨some 31, .pick (.tmp 27) (.tmp 30) (.const (.bool false)), 4, some (21, false)⟩, ⟨some 32, .pick (.tmp 21) (.const (.bool true)) (.tmp 31), 4, none⟩]) (.cond (.tmp 32) (.seq (.ops [⟨some 33, .buildSlice 23 0 #[], 23, none⟩, ⟨some 4, .assign (.tmp 33), 23, none⟩]) (.ret)) (.skip))) (q_s_DiffOf_c18))⟩
theorem conv_s_DiffOf : convF Tryd.f42 = some q_s_DiffOf := by kernel_rfl
abbrev fn_s_l11Near : FuncId := 43
def q_s_l11Near_c0 : QCode := .ops [⟨some 15, .move (.tmp 6), 3, none⟩, ⟨some 16, .binOp .sub 3 (.tmp 15) (.const (.int .i64 1)) 3, 3, none⟩, ⟨some 6, .assign (.tmp 16), 3, none⟩]
@[simp] theorem q_s_l11Near_c0_run : type_of% (run_is q_s_l11Near_c0.eq_1) := run_is q_s_l11Near_c0.eq_1
def q_s_l11Near_c1 : QCode := .seq (.block 1 (.seq (.ops [⟨some 17, .move (.tmp 0), 33, none⟩, ⟨some 18, .move (.tmp 5), 38, none⟩, ⟨some 19, .call { callee := .builtin .len, args := #[.tmp 18], argTypes := #[38] }, 3, none⟩, ⟨some 20, .binOp .add 3 (.tmp 19) (.const (.int .i64 1)) 3, 3, none⟩, ⟨some 21, .call { callee := .value (.func 29), args := #[.tmp 17, .tmp 20], argTypes := #[33, 3] }, 3, none⟩, ⟨some 7, .assign (.tmp 21), 3, none⟩]) (.seq (.ops [⟨some 22, .move (.tmp 0), 33, none⟩, ⟨some 23, .call { callee := .value (.func 29), args := #[.tmp 22, .const (.int .i64 3)], argTypes := #[33, 3] }, 3, none⟩]) (.block 2 (.seq (.ops [⟨some 25, .binOp .eql 3 (.tmp 23) (.const (.int .i64 0)) 3, 4, none⟩, ⟨some 24, .assign (.tmp 25), 4, none⟩]) (.cond (.tmp 24) (.seq (.ice [5]) (.draw [] [⟨some 27, .move (.tmp 5), 38, none⟩, ⟨some 28, .move (.tmp 7), 3, none⟩, ⟨some 29, .slice 38 (.tmp 27) none (some (.tmp 28)) none, 38, none⟩, ⟨some 31, .move (.tmp 0), 33, none⟩, ⟨some 36, .move (.tmp 5), 38, none⟩, ⟨some 37, .move (.tmp 7), 3, none⟩, ⟨some 38, .slice 38 (.tmp 36) (some (.tmp 37)) none none, 38, none⟩, ⟨some 26, .buildSlice 38 0 #[], 38, none⟩, ⟨some 30, .call { callee := .builtin .append, args := #[.tmp 26, .tmp 29], argTypes := #[38, 38] }, 38, none⟩, ⟨some 32, .buildSlice 38 2 #[(0, .const (.string { data := #[110, 101, 119] })), (1, .const (.string { data := #[97] }))], 38, none⟩] [⟨some 33, .call { callee := .value (.func 31), args := #[.tmp 31, .tmp 32], argTypes := #[33, 38] }, 9, none⟩, ⟨some 34, .buildSlice 38 1 #[(0, .tmp 33)], 38, none⟩, ⟨some 35, .call { callee := .builtin .append, args := #[.tmp 30, .tmp 34], argTypes := #[38, 38] }, 38, none⟩, ⟨some 39, .call { callee := .builtin .append, args := #[.tmp 35, .tmp 38], argTypes := #[38, 38] }, 38, none⟩, ⟨some 5, .assign (.tmp 39), 38, none⟩])) (.seq (.ops [⟨some 41, .binOp .eql 3 (.tmp 23) (.const (.int .i64 1)) 3, 4, none⟩, ⟨some 40, .assign (.tmp 41), 4, none⟩]) (.cond (.tmp 40) (.seq (.ops [⟨some 42, .move (.tmp 7), 3, none⟩, ⟨some 43, .move (.tmp 5), 38, none⟩, ⟨some 44, .call { callee := .builtin .len, args := #[.tmp 43], argTypes := #[38] }, 3, none⟩, ⟨some 45, .binOp .lss 3 (.tmp 42) (.tmp 44) 3, 4, none⟩]) (.cond (.tmp 45) (.seq (.ice [5]) (.draw [] [⟨some 47, .move (.tmp 5), 38, none⟩, ⟨some 48, .move (.tmp 7), 3, none⟩, ⟨some 49, .slice 38 (.tmp 47) none (some (.tmp 48)) none, 38, none⟩, ⟨some 51, .move (.tmp 5), 38, none⟩, ⟨some 52, .move (.tmp 7), 3, none⟩, ⟨some 46, .buildSlice 38 0 #[], 38, none⟩, ⟨some 50, .call { callee := .builtin .append, args := #[.tmp 46, .tmp 49], argTypes := #[38, 38] }, 38, none⟩, ⟨some 53, .binOp .add 3 (.tmp 52) (.const (.int .i64 1)) 3, 3, none⟩, ⟨some 54, .slice 38 (.tmp 51) (some (.tmp 53)) none none, 38, none⟩] [⟨some 55, .call { callee := .builtin .append, args := #[.tmp 50, .tmp 54], argTypes := #[38, 38] }, 38, none⟩, ⟨some 5, .assign (.tmp 55), 38, none⟩])) (.skip))) (.seq (.ops [⟨some 57, .binOp .eql 3 (.tmp 23) (.const (.int .i64 2)) 3, 4, none⟩, ⟨some 56, .assign (.tmp 57), 4, none⟩]) (.cond (.tmp 56) (.seq (.ops [⟨some 58, .move (.tmp 7), 3, none⟩, ⟨some 59, .move (.tmp 5), 38, none⟩, ⟨some 60, .call { callee := .builtin .len, args := #[.tmp 59], argTypes := #[38] }, 3, none⟩, ⟨some 61, .binOp .lss 3 (.tmp 58) (.tmp 60) 3, 4, none⟩]) (.cond (.tmp 61) (.ops [⟨some 62, .move (.tmp 5), 38, none⟩, ⟨some 63, .move (.tmp 7), 3, none⟩, ⟨some 64, .indexAddr 38 (.tmp 62) (.tmp 63), 0, none⟩, ⟨none, .store 9 (.tmp 64) (.const (.string { data := #[116, 117, 114, 110, 101, 100] })), 0, none⟩]) (.skip))) (.skip))))))))))) (q_s_l11Near_c0)
@[simp] theorem q_s_l11Near_c1_run : type_of% (run_is q_s_l11Near_c1.eq_1) := run_is q_s_l11Near_c1.eq_1
def q_s_l11Near_l0 : QCode := .seq (.seq (.ops [⟨some 13, .move (.tmp 6), 3, none⟩, ⟨some 14, .binOp .gtr 3 (.tmp 13) (.const (.int .i64 0)) 3, 4, none⟩]) (.cond (.tmp 14) (.skip) (.exit 0))) (q_s_l11Near_c1)
@[simp] theorem q_s_l11Near_l0_run : type_of% (run_is q_s_l11Near_l0.eq_1) := run_is q_s_l11Near_l0.eq_1
def q_s_l11Near_c2 : QCode := .seq (.ops [⟨some 65, .move (.tmp 5), 38, none⟩, ⟨some 4, .assign (.tmp 65), 38, none⟩]) (.ret)
@[simp] theorem q_s_l11Near_c2_run : type_of% (run_is q_s_l11Near_c2.eq_1) := run_is q_s_l11Near_c2.eq_1
@[simp] def q_s_l11Near : QFn := ⟨66, [(.tmp 4, 38)], .seq (.ops [⟨some 4, .assign (.const (.slice none 0 0)), 38, none⟩]) (.seq (.ops [⟨some 8, .buildSlice 38 0 #[], 38, none⟩, ⟨some 9, .move (.tmp 1), 38, none⟩, ⟨some 10, .call { callee := .builtin .append, args := #[.tmp 8, .tmp 9], argTypes := #[38, 38] }, 38, none⟩, ⟨some 5, .assign (.tmp 10), 38, none⟩]) (.seq (.seq (.ops [⟨some 11, .move (.tmp 0), 33, none⟩, ⟨some 12, .call { callee := .value (.func 29), args := #[.tmp 11, .const (.int .i64 3)], argTypes := #[33, 3] }, 3, none⟩, ⟨some 6, .assign (.tmp 12), 3, none⟩]) (.block 0 (.loop q_s_l11Near_l0))) (q_s_l11Near_c2)))⟩
theorem conv_s_l11Near : convF Tryd.f43 = some q_s_l11Near := by kernel_rfl
abbrev fn_s_l1Cut : FuncId := 44
def q_s_l1Cut_c0 : QCode := .ops [⟨some 21, .move (.tmp 9), 3, none⟩, ⟨some 22, .binOp .add 3 (.tmp 21) (.const (.int .i64 1)) 3, 3, none⟩, ⟨some 9, .assign (.tmp 22), 3, none⟩]
@[simp] theorem q_s_l1Cut_c0_run : type_of% (run_is q_s_l1Cut_c0.eq_1) := run_is q_s_l1Cut_c0.eq_1
def q_s_l1Cut_c1 : QCode := .seq (.block 1 (.seq (.ops [⟨some 23, .move (.tmp 0), 9, none⟩, ⟨some 24, .move (.tmp 9), 3, none⟩, ⟨some 25, .index 9 (.tmp 23) (.tmp 24), 5, none⟩, ⟨some 26, .move (.tmp 1), 5, none⟩, ⟨some 27, .binOp .eql 5 (.tmp 25) (.tmp 26) 5, 4, none⟩]) (.cond (.tmp 27) (.seq (.ops [⟨some 28, .move (.tmp 7), 38, none⟩, ⟨some 29, .move (.tmp 0), 9, none⟩, ⟨some 30, .move (.tmp 8), 3, none⟩, ⟨some 31, .move (.tmp 9), 3, none⟩, ⟨some 32, .slice 9 (.tmp 29) (some (.tmp 30)) (some (.tmp 31)) none, 9, none⟩, ⟨some 33, .buildSlice 38 1 #[(0, .tmp 32)], 38, none⟩, ⟨some 34, .call { callee := .builtin .append, args := #[.tmp 28, .tmp 33], argTypes := #[38, 38] }, 38, none⟩, ⟨some 7, .assign (.tmp 34), 38, none⟩]) (.ops [⟨some 35, .move (.tmp 9), 3, none⟩, ⟨some 36, .binOp .add 3 (.tmp 35) (.const (.int .i64 1)) 3, 3, none⟩, ⟨some 8, .assign (.tmp 36), 3, none⟩])) (.skip)))) (q_s_l1Cut_c0)
@[simp] theorem q_s_l1Cut_c1_run : type_of% (run_is q_s_l1Cut_c1.eq_1) := run_is q_s_l1Cut_c1.eq_1
def q_s_l1Cut_l0 : QCode := .seq (.seq (.ops [⟨some 11, .move (.tmp 9), 3, none⟩, ⟨some 12, .move (.tmp 0), 9, none⟩, ⟨some 13, .call { callee := .builtin .len, args := #[.tmp 12], argTypes := #[9] }, 3, none⟩, ⟨some 14, .binOp .lss 3 (.tmp 11) (.tmp 13) 3, 4, none⟩, ⟨some 15, .move (.tmp 14), 4, none⟩, ⟨some 16, .move (.tmp 7), 38, some (15, true)⟩, ⟨some 17, .call { callee := .builtin .len, args := #[.tmp 16], argTypes := #[38] }, 3, some (15, true)⟩, ⟨some 18, .move (.tmp 2), 3, some (15, true)⟩, ⟨some 19, .binOp .lss 3 (.tmp 17) (.tmp 18) 3, 4, some (15, true)⟩, ⟨some 20, .pick (.tmp 15) (.tmp 19) (.const (.bool false)), 4, none⟩]) (.cond (.tmp 20) (.skip) (.exit 0))) (q_s_l1Cut_c1)
@[simp] theorem q_s_l1Cut_l0_run : type_of% (run_is q_s_l1Cut_l0.eq_1) := run_is q_s_l1Cut_l0.eq_1
def q_s_l1Cut_c2 : QCode := .seq (.ops [⟨some 37, .move (.tmp 7), 38, none⟩, ⟨some 38, .move (.tmp 0), 9, none⟩, ⟨some 39, .move (.tmp 8), 3, none⟩, ⟨some 40, .slice 9 (.tmp 38) (some (.tmp 39)) none none, 9, none⟩, ⟨some 41, .buildSlice 38 1 #[(0, .tmp 40)], 38, none⟩, ⟨some 42, .call { callee := .builtin .append, args := #[.tmp 37, .tmp 41], argTypes := #[38, 38] }, 38, none⟩, ⟨some 6, .assign (.tmp 42), 38, none⟩]) (.ret)
@[simp] theorem q_s_l1Cut_c2_run : type_of% (run_is q_s_l1Cut_c2.eq_1) := run_is q_s_l1Cut_c2.eq_1
@[simp] def q_s_l1Cut : QFn := ⟨43, [(.tmp 6, 38)], .seq (.ops [⟨some 6, .assign (.const (.slice none 0 0)), 38, none⟩]) (.seq (.ops [⟨some 10, .buildSlice 38 0 #[], 38, none⟩, ⟨some 7, .assign (.tmp 10), 38, none⟩]) (.seq (.ops [⟨some 8, .assign (.const (.int .i64 0)), 3, none⟩]) (.seq (.seq (.ops [⟨some 9, .assign (.const (.int .i64 0)), 3, none⟩]) (.block 0 (.loop q_s_l1Cut_l0))) (q_s_l1Cut_c2))))⟩
theorem conv_s_l1Cut : convF Tryd.f44 = some q_s_l1Cut := by kernel_rfl
abbrev fn_s_l1Num : FuncId := 45
def q_s_l1Num_c0 : QCode := .ops [⟨some 25, .move (.tmp 3), 3, none⟩, ⟨some 26, .binOp .mul 3 (.tmp 25) (.const (.int .i64 10)) 3, 3, none⟩, ⟨some 27, .move (.tmp 0), 9, none⟩, ⟨some 28, .move (.tmp 4), 3, none⟩, ⟨some 29, .index 9 (.tmp 27) (.tmp 28), 5, none⟩, ⟨some 30, .binOp .sub 5 (.tmp 29) (.const (.int .u8 48)) 5, 5, none⟩, ⟨some 31, .convert 5 3 (.tmp 30), 3, none⟩, ⟨some 32, .binOp .add 3 (.tmp 26) (.tmp 31) 3, 3, none⟩, ⟨some 3, .assign (.tmp 32), 3, none⟩]
@[simp] theorem q_s_l1Num_c0_run : type_of% (run_is q_s_l1Num_c0.eq_1) := run_is q_s_l1Num_c0.eq_1
def q_s_l1Num_c1 : QCode := .ops [⟨some 9, .move (.tmp 4), 3, none⟩, ⟨some 10, .binOp .add 3 (.tmp 9) (.const (.int .i64 1)) 3, 3, none⟩, ⟨some 4, .assign (.tmp 10), 3, none⟩]
@[simp] theorem q_s_l1Num_c1_run : type_of% (run_is q_s_l1Num_c1.eq_1) := run_is q_s_l1Num_c1.eq_1
def q_s_l1Num_c2 : QCode := .seq (.block 1 (.seq (.seq (.ops [⟨some 11, .move (.tmp 0), 9, none⟩, ⟨some 12, .move (.tmp 4), 3, none⟩, ⟨some 13, .index 9 (.tmp 11) (.tmp 12), 5, none⟩, ⟨some 14, .binOp .lss 5 (.tmp 13) (.const (.int .u8 48)) 5, 4, none⟩, ⟨some 15, .move (.tmp 14), 4, none⟩, ⟨some 16, .move (.tmp 0), 9, some (15, false)⟩, ⟨some 17, .move (.tmp 4), 3, some (15, false)⟩, ⟨some 18, .index 9 (.tmp 16) (.tmp 17), 5, some (15, false)⟩, ⟨some 19, .binOp .gtr 5 (.tmp 18) (.const (.int .u8 57)) 5, 4, some (15, false)⟩, ⟨some 20, .pick (.tmp 15) (.const (.bool true)) (.tmp 19), 4, none⟩, ⟨some 21, .move (.tmp 20), 4, none⟩, ⟨some 22, .move (.tmp 4), 3, some (21, false)⟩, ⟨some 23, .binOp .geq 3 (.tmp 22) (.const (.int .i64 6)) 3, 4, some (21, false)⟩, ⟨some 24, .pick (.tmp 21) (.const (.bool true)) (.tmp 23), 4, none⟩]) (.cond (.tmp 24) (.seq (.ops [⟨some 2, .assign (.const (.int .i64 (-1))), 3, none⟩]) (.ret)) (.skip))) (q_s_l1Num_c0))) (q_s_l1Num_c1)
@[simp] theorem q_s_l1Num_c2_run : type_of% (run_is q_s_l1Num_c2.eq_1) := run_is q_s_l1Num_c2.eq_1
def q_s_l1Num_l0 : QCode := .seq (.seq (.ops [⟨some 5, .move (.tmp 4), 3, none⟩, ⟨some 6, .move (.tmp 0), 9, none⟩, ⟨some 7, .call { callee := .builtin .len, args := #[.tmp 6], argTypes := #[9] }, 3, none⟩, ⟨some 8, .binOp .lss 3 (.tmp 5) (.tmp 7) 3, 4, none⟩]) (.cond (.tmp 8) (.skip) (.exit 0))) (q_s_l1Num_c2)
@[simp] theorem q_s_l1Num_l0_run : type_of% (run_is q_s_l1Num_l0.eq_1) := run_is q_s_l1Num_l0.eq_1
def q_s_l1Num_c3 : QCode := .seq (.ops [⟨some 46, .move (.tmp 3), 3, none⟩, ⟨some 2, .assign (.tmp 46), 3, none⟩]) (.ret)
@[simp] theorem q_s_l1Num_c3_run : type_of% (run_is q_s_l1Num_c3.eq_1) := run_is q_s_l1Num_c3.eq_1
def q_s_l1Num_c4 : QCode := .seq (.seq (.ops [⟨some 33, .move (.tmp 0), 9, none⟩, ⟨some 34, .call { callee := .builtin .len, args := #[.tmp 33], argTypes := #[9] }, 3, none⟩, ⟨some 35, .binOp .eql 3 (.tmp 34) (.const (.int .i64 0)) 3, 4, none⟩, ⟨some 36, .move (.tmp 35), 4, none⟩, ⟨some 37, .move (.tmp 0), 9, some (36, false)⟩, ⟨some 38, .call { callee := .builtin .len, args := #[.tmp 37], argTypes := #[9] }, 3, some (36, false)⟩, ⟨some 39, .binOp .gtr 3 (.tmp 38) (.const (.int .i64 1)) 3, 4, some (36, false)⟩, ⟨some 40, .move (.tmp 39), 4, some (36, false)⟩, ⟨some 41, .move (.tmp 0), 9, some (40, true)⟩, ⟨some 42, .index 9 (.tmp 41) (.const (.int .i64 0)), 5, some (40, true)⟩, ⟨some 43, .binOp .eql 5 (.tmp 42) (.const (.int .u8 48)) 5, 4, some (40, true)⟩, ⟨some 44, .pick (.tmp 40) (.tmp 43) (.const (.bool false)), 4, some (36, false)⟩, ⟨some 45, .pick (.tmp 36) (.const (.bool true)) (.tmp 44), 4, none⟩]) (.cond (.tmp 45) (.seq (.ops [⟨some 2, .assign (.const (.int .i64 (-1))), 3, none⟩]) (.ret)) (.skip))) (q_s_l1Num_c3)
@[simp] theorem q_s_l1Num_c4_run : type_of% (run_is q_s_l1Num_c4.eq_1) := run_is q_s_l1Num_c4.eq_1
@[simp] def q_s_l1Num : QFn := ⟨47, [(.tmp 2, 3)], .seq (.ops [⟨some 2, .assign (.const (.int .i64 0)), 3, none⟩]) (.seq (.ops [⟨some 3, .assign (.const (.int .i64 0)), 3, none⟩]) (.seq (.seq (.ops [⟨some 4, .assign (.const (.int .i64 0)), 3, none⟩]) (.block 0 (.loop q_s_l1Num_l0))) (q_s_l1Num_c4)))⟩
theorem conv_s_l1Num : convF Tryd.f45 = some q_s_l1Num := by kernel_rfl
abbrev fn_i_plainByte : FuncId := 50
@[simp] def q_i_plainByte : QFn := ⟨9, [(.tmp 2, 4)], .seq (.ops [⟨some 2, .assign (.const (.bool false)), 4, none⟩]) (.seq (.ops [⟨some 3, .move (.tmp 0), 5, none⟩, ⟨some 4, .binOp .geq 5 (.tmp 3) (.const (.int .u8 32)) 5, 4, none⟩, ⟨some 5, .move (.tmp 4), 4, none⟩, ⟨some 6, .move (.tmp 0), 5, some (5, true)⟩, ⟨some 7, .binOp .leq 5 (.tmp 6) (.const (.int .u8 126)) 5, 4, some (5, true)⟩, ⟨some 8, .pick (.tmp 5) (.tmp 7) (.const (.bool false)), 4, none⟩, ⟨some 2, .assign (.tmp 8), 4, none⟩]) (.ret))⟩
theorem conv_i_plainByte : convF Tryd.f50 = some q_i_plainByte := by kernel_rfl
abbrev fn_s_l5Lines : FuncId := 51
def q_s_l5Lines_c0 : QCode := .ops [⟨some 8, .move (.tmp 3), 3, none⟩, ⟨some 9, .binOp .add 3 (.tmp 8) (.const (.int .i64 1)) 3, 3, none⟩, ⟨some 3, .assign (.tmp 9), 3, none⟩]
@[simp] theorem q_s_l5Lines_c0_run : type_of% (run_is q_s_l5Lines_c0.eq_1) := run_is q_s_l5Lines_c0.eq_1
def q_s_l5Lines_c1 : QCode := .seq (.block 1 (.seq (.ops [⟨some 10, .move (.tmp 0), 38, none⟩, ⟨some 11, .move (.tmp 3), 3, none⟩, ⟨some 12, .indexAddr 38 (.tmp 10) (.tmp 11), 0, none⟩, ⟨some 13, .load 9 (.tmp 12), 9, none⟩, ⟨some 14, .call { callee := .value (.func 39), args := #[.tmp 13], argTypes := #[9] }, 4, none⟩, ⟨some 15, .unOp .not 4 (.tmp 14), 4, none⟩]) (.cond (.tmp 15) (.seq (.ops [⟨some 2, .assign (.const (.bool false)), 4, none⟩]) (.ret)) (.skip)))) (q_s_l5Lines_c0)
@[simp] theorem q_s_l5Lines_c1_run : type_of% (run_is q_s_l5Lines_c1.eq_1) := run_is q_s_l5Lines_c1.eq_1
def q_s_l5Lines_l0 : QCode := .seq (.seq (.ops [⟨some 4, .move (.tmp 3), 3, none⟩, ⟨some 5, .move (.tmp 0), 38, none⟩, ⟨some 6, .call { callee := .builtin .len, args := #[.tmp 5], argTypes := #[38] }, 3, none⟩, ⟨some 7, .binOp .lss 3 (.tmp 4) (.tmp 6) 3, 4, none⟩]) (.cond (.tmp 7) (.skip) (.exit 0))) (q_s_l5Lines_c1)
@[simp] theorem q_s_l5Lines_l0_run : type_of% (run_is q_s_l5Lines_l0.eq_1) := run_is q_s_l5Lines_l0.eq_1
def q_s_l5Lines_c2 : QCode := .seq (.ops [⟨some 16, .move (.tmp 0), 38, none⟩, ⟨some 17, .call { callee := .builtin .len, args := #[.tmp 16], argTypes := #[38] }, 3, none⟩, ⟨some 18, .binOp .leq 3 (.tmp 17) (.const (.int .i64 30)) 3, 4, none⟩, ⟨some 2, .assign (.tmp 18), 4, none⟩]) (.ret)
@[simp] theorem q_s_l5Lines_c2_run : type_of% (run_is q_s_l5Lines_c2.eq_1) := run_is q_s_l5Lines_c2.eq_1
@[simp] def q_s_l5Lines : QFn := ⟨19, [(.tmp 2, 4)], .seq (.ops [⟨some 2, .assign (.const (.bool false)), 4, none⟩]) (.seq (.seq (.ops [⟨some 3, .assign (.const (.int .i64 0)), 3, none⟩]) (.block 0 (.loop q_s_l5Lines_l0))) (q_s_l5Lines_c2))⟩
theorem conv_s_l5Lines : convF Tryd.f51 = some q_s_l5Lines := by kernel_rfl
abbrev fn_s_l5Same : FuncId := 52
def q_s_l5Same_c0 : QCode := .ops [⟨some 23, .move (.tmp 7), 3, none⟩, ⟨some 24, .binOp .add 3 (.tmp 23) (.const (.int .i64 1)) 3, 3, none⟩, ⟨some 7, .assign (.tmp 24), 3, none⟩]
@[simp] theorem q_s_l5Same_c0_run : type_of% (run_is q_s_l5Same_c0.eq_1) := run_is q_s_l5Same_c0.eq_1
def q_s_l5Same_c1 : QCode := .seq (.block 1 (.seq (.draw [] [⟨some 25, .move (.tmp 0), 38, none⟩, ⟨some 26, .move (.tmp 1), 3, none⟩, ⟨some 27, .move (.tmp 7), 3, none⟩, ⟨some 28, .binOp .add 3 (.tmp 26) (.tmp 27) 3, 3, none⟩, ⟨some 29, .indexAddr 38 (.tmp 25) (.tmp 28), 0, none⟩, ⟨some 30, .load 9 (.tmp 29), 9, none⟩, ⟨some 31, .move (.tmp 2), 38, none⟩, ⟨some 32, .move (.tmp 7), 3, none⟩, ⟨some 33, .indexAddr 38 (.tmp 31) (.tmp 32), 0, none⟩, ⟨some 34, .load 9 (.tmp 33), 9, none⟩] [⟨some 35, .binOp .neq 9 (.tmp 30) (.tmp 34) 9, 4, none⟩]) (.cond (.tmp 35) (.seq (.ops [⟨some 6, .assign (.const (.bool false)), 4, none⟩]) (.ret)) (.skip)))) (q_s_l5Same_c0)
@[simp] theorem q_s_l5Same_c1_run : type_of% (run_is q_s_l5Same_c1.eq_1) := run_is q_s_l5Same_c1.eq_1
def q_s_l5Same_l0 : QCode := .seq (.seq (.ops [⟨some 19, .move (.tmp 7), 3, none⟩, ⟨some 20, .move (.tmp 2), 38, none⟩, ⟨some 21, .call { callee := .builtin .len, args := #[.tmp 20], argTypes := #[38] }, 3, none⟩, ⟨some 22, .binOp .lss 3 (.tmp 19) (.tmp 21) 3, 4, none⟩]) (.cond (.tmp 22) (.skip) (.exit 0))) (q_s_l5Same_c1)
@[simp] theorem q_s_l5Same_l0_run : type_of% (run_is q_s_l5Same_l0.eq_1) := run_is q_s_l5Same_l0.eq_1
def q_s_l5Same_c2 : QCode := .seq (.ops [⟨some 6, .assign (.const (.bool true)), 4, none⟩]) (.ret)
@[simp] theorem q_s_l5Same_c2_run : type_of% (run_is q_s_l5Same_c2.eq_1) := run_is q_s_l5Same_c2.eq_1
def q_s_l5Same_c3 : QCode := .seq (.seq (.ops [⟨some 7, .assign (.const (.int .i64 0)), 3, none⟩]) (.block 0 (.loop q_s_l5Same_l0))) (q_s_l5Same_c2)
@[simp] theorem q_s_l5Same_c3_run : type_of% (run_is q_s_l5Same_c3.eq_1) := run_is q_s_l5Same_c3.eq_1
@[simp] def q_s_l5Same : QFn := ⟨36, [(.tmp 6, 4)], .seq (.ops [⟨some 6, .assign (.const (.bool false)), 4, none⟩]) (.seq (.seq (.ops [⟨some 8, .move (.tmp 1), 3, none⟩, ⟨some 9, .binOp .lss 3 (.tmp 8) (.const (.int .i64 0)) 3, 4, none⟩, ⟨some 10, .move (.tmp 9), 4, none⟩, ⟨some 11, .move (.tmp 1), 3, some (10, false)⟩, ⟨some 12, .move (.tmp 2), 38, some (10, false)⟩, ⟨some 13, .call { callee := .builtin .len, args := #[.tmp 12], argTypes := #[38] }, 3, some (10, false)⟩, ⟨some 14, .binOp .add 3 (.tmp 11) (.tmp 13) 3, 3, some (10, false)⟩, ⟨some 15, .move (.tmp 0), 38, some (10, false)⟩, ⟨some 16, .call { callee := .builtin .len, args := #[.tmp 15], argTypes := #[38] }, 3, some (10, false)⟩, ⟨some 17, .binOp .gtr 3 (.tmp 14) (.tmp 16) 3, 4, some (10, false)⟩, ⟨some 18, .pick (.tmp 10) (.const (.bool true)) (.tmp 17), 4, none⟩]) (.cond (.tmp 18) (.seq (.ops [⟨some 6, .assign (.const (.bool false)), 4, none⟩]) (.ret)) (.skip))) (q_s_l5Same_c3))⟩
theorem conv_s_l5Same : convF Tryd.f52 = some q_s_l5Same := by kernel_rfl
end Go.Qz
