/- The evaluator of the claim and what it says, part Qn0 (several texts in one). -/
import Derived.Test.YtfikcfndmbcaoaaDoorProg
import Derived.Test.YtfikcfndmbcaoaaDoorQj0
import Derived.KernelRfl
/- The types of the program, as the evaluator asks of them (printed by a program of ours). -/
namespace Go.Qz
open Go.Proofs

@[simp] theorem ty_size2 : sizeT Tryd.prog 2 = some 1 := by kernel_rfl
@[simp] theorem ty_agg2 : isAggT Tryd.prog 2 = false := by kernel_rfl
@[simp] theorem ty_bld2 : builderT Tryd.prog 2 = none := by kernel_rfl
@[simp] theorem ty_zero2 : zeroA Tryd.prog 2 = some [.ro (.int .i64 0)] := by kernel_rfl
@[simp] theorem ty_size3 : sizeT Tryd.prog 3 = some 1 := by kernel_rfl
@[simp] theorem ty_agg3 : isAggT Tryd.prog 3 = false := by kernel_rfl
@[simp] theorem ty_bld3 : builderT Tryd.prog 3 = none := by kernel_rfl
@[simp] theorem ty_zero3 : zeroA Tryd.prog 3 = some [.ro (.int .i64 0)] := by kernel_rfl
@[simp] theorem ty_size4 : sizeT Tryd.prog 4 = some 1 := by kernel_rfl
@[simp] theorem ty_agg4 : isAggT Tryd.prog 4 = false := by kernel_rfl
@[simp] theorem ty_bld4 : builderT Tryd.prog 4 = none := by kernel_rfl
@[simp] theorem ty_zero4 : zeroA Tryd.prog 4 = some [.ro (.bool false)] := by kernel_rfl
@[simp] theorem ty_size5 : sizeT Tryd.prog 5 = some 1 := by kernel_rfl
@[simp] theorem ty_agg5 : isAggT Tryd.prog 5 = false := by kernel_rfl
@[simp] theorem ty_bld5 : builderT Tryd.prog 5 = none := by kernel_rfl
@[simp] theorem ty_zero5 : zeroA Tryd.prog 5 = some [.ro (.int .u8 0)] := by kernel_rfl
@[simp] theorem ty_size6 : sizeT Tryd.prog 6 = some 1 := by kernel_rfl
@[simp] theorem ty_agg6 : isAggT Tryd.prog 6 = false := by kernel_rfl
@[simp] theorem ty_bld6 : builderT Tryd.prog 6 = none := by kernel_rfl
@[simp] theorem ty_zero6 : zeroA Tryd.prog 6 = some [.ro (.int .u8 0)] := by kernel_rfl
@[simp] theorem ty_size7 : sizeT Tryd.prog 7 = some 4 := by kernel_rfl
@[simp] theorem ty_agg7 : isAggT Tryd.prog 7 = true := by kernel_rfl
@[simp] theorem ty_bld7 : builderT Tryd.prog 7 = none := by kernel_rfl
@[simp] theorem ty_f7_0 : fieldAt Tryd.prog 7 0 = some (0, 2) := by kernel_rfl
@[simp] theorem ty_f7_1 : fieldAt Tryd.prog 7 1 = some (1, 3) := by kernel_rfl
@[simp] theorem ty_f7_2 : fieldAt Tryd.prog 7 2 = some (2, 4) := by kernel_rfl
@[simp] theorem ty_f7_3 : fieldAt Tryd.prog 7 3 = some (3, 6) := by kernel_rfl
@[simp] theorem ty_pl7 : placesOk Tryd.prog 7 = true := by kernel_rfl
@[simp] theorem ty_zero7 : zeroA Tryd.prog 7 = some [.ro (.int .i64 0), .ro (.int .i64 0), .ro (.bool false), .ro (.int .u8 0)] := by kernel_rfl
@[simp] theorem ty_size8 : sizeT Tryd.prog 8 = some 4 := by kernel_rfl
@[simp] theorem ty_agg8 : isAggT Tryd.prog 8 = true := by kernel_rfl
@[simp] theorem ty_bld8 : builderT Tryd.prog 8 = none := by kernel_rfl
@[simp] theorem ty_f8_0 : fieldAt Tryd.prog 8 0 = some (0, 2) := by kernel_rfl
@[simp] theorem ty_f8_1 : fieldAt Tryd.prog 8 1 = some (1, 3) := by kernel_rfl
@[simp] theorem ty_f8_2 : fieldAt Tryd.prog 8 2 = some (2, 4) := by kernel_rfl
@[simp] theorem ty_f8_3 : fieldAt Tryd.prog 8 3 = some (3, 6) := by kernel_rfl
@[simp] theorem ty_pl8 : placesOk Tryd.prog 8 = true := by kernel_rfl
@[simp] theorem ty_zero8 : zeroA Tryd.prog 8 = some [.ro (.int .i64 0), .ro (.int .i64 0), .ro (.bool false), .ro (.int .u8 0)] := by kernel_rfl
@[simp] theorem ty_size9 : sizeT Tryd.prog 9 = some 1 := by kernel_rfl
@[simp] theorem ty_agg9 : isAggT Tryd.prog 9 = false := by kernel_rfl
@[simp] theorem ty_bld9 : builderT Tryd.prog 9 = none := by kernel_rfl
@[simp] theorem ty_zero9 : zeroA Tryd.prog 9 = some [.ro (.str ⟨#[]⟩)] := by kernel_rfl
@[simp] theorem ty_size10 : sizeT Tryd.prog 10 = some 1 := by kernel_rfl
@[simp] theorem ty_agg10 : isAggT Tryd.prog 10 = false := by kernel_rfl
@[simp] theorem ty_bld10 : builderT Tryd.prog 10 = none := by kernel_rfl
@[simp] theorem ty_zero10 : zeroA Tryd.prog 10 = some [.ro (.str ⟨#[]⟩)] := by kernel_rfl
@[simp] theorem ty_size11 : sizeT Tryd.prog 11 = some 1 := by kernel_rfl
@[simp] theorem ty_agg11 : isAggT Tryd.prog 11 = false := by kernel_rfl
@[simp] theorem ty_bld11 : builderT Tryd.prog 11 = none := by kernel_rfl
@[simp] theorem ty_zero11 : zeroA Tryd.prog 11 = some [.ro (.str ⟨#[]⟩)] := by kernel_rfl
@[simp] theorem ty_size12 : sizeT Tryd.prog 12 = some 1 := by kernel_rfl
@[simp] theorem ty_agg12 : isAggT Tryd.prog 12 = false := by kernel_rfl
@[simp] theorem ty_bld12 : builderT Tryd.prog 12 = none := by kernel_rfl
@[simp] theorem ty_zero12 : zeroA Tryd.prog 12 = some [.ro (.int .u64 0)] := by kernel_rfl
@[simp] theorem ty_size13 : sizeT Tryd.prog 13 = some 2 := by kernel_rfl
@[simp] theorem ty_agg13 : isAggT Tryd.prog 13 = true := by kernel_rfl
@[simp] theorem ty_bld13 : builderT Tryd.prog 13 = none := by kernel_rfl
@[simp] theorem ty_f13_0 : fieldAt Tryd.prog 13 0 = some (0, 9) := by kernel_rfl
@[simp] theorem ty_f13_1 : fieldAt Tryd.prog 13 1 = some (1, 12) := by kernel_rfl
@[simp] theorem ty_pl13 : placesOk Tryd.prog 13 = true := by kernel_rfl
@[simp] theorem ty_zero13 : zeroA Tryd.prog 13 = some [.ro (.str ⟨#[]⟩), .ro (.int .u64 0)] := by kernel_rfl
@[simp] theorem ty_size14 : sizeT Tryd.prog 14 = some 2 := by kernel_rfl
@[simp] theorem ty_agg14 : isAggT Tryd.prog 14 = true := by kernel_rfl
@[simp] theorem ty_bld14 : builderT Tryd.prog 14 = none := by kernel_rfl
@[simp] theorem ty_f14_0 : fieldAt Tryd.prog 14 0 = some (0, 9) := by kernel_rfl
@[simp] theorem ty_f14_1 : fieldAt Tryd.prog 14 1 = some (1, 12) := by kernel_rfl
@[simp] theorem ty_pl14 : placesOk Tryd.prog 14 = true := by kernel_rfl
@[simp] theorem ty_zero14 : zeroA Tryd.prog 14 = some [.ro (.str ⟨#[]⟩), .ro (.int .u64 0)] := by kernel_rfl
@[simp] theorem ty_size15 : sizeT Tryd.prog 15 = some 1 := by kernel_rfl
@[simp] theorem ty_agg15 : isAggT Tryd.prog 15 = false := by kernel_rfl
@[simp] theorem ty_bld15 : builderT Tryd.prog 15 = none := by kernel_rfl
@[simp] theorem ty_zero15 : zeroA Tryd.prog 15 = some [.ro (.nilp)] := by kernel_rfl
@[simp] theorem ty_size16 : sizeT Tryd.prog 16 = some 1 := by kernel_rfl
@[simp] theorem ty_agg16 : isAggT Tryd.prog 16 = false := by kernel_rfl
@[simp] theorem ty_bld16 : builderT Tryd.prog 16 = none := by kernel_rfl
@[simp] theorem ty_zero16 : zeroA Tryd.prog 16 = some [.ro (.nilp)] := by kernel_rfl
@[simp] theorem ty_size17 : sizeT Tryd.prog 17 = some 1 := by kernel_rfl
@[simp] theorem ty_agg17 : isAggT Tryd.prog 17 = false := by kernel_rfl
@[simp] theorem ty_bld17 : builderT Tryd.prog 17 = none := by kernel_rfl
@[simp] theorem ty_zero17 : zeroA Tryd.prog 17 = some [.ro (.nilp)] := by kernel_rfl
@[simp] theorem ty_size18 : sizeT Tryd.prog 18 = some 1 := by kernel_rfl
@[simp] theorem ty_agg18 : isAggT Tryd.prog 18 = true := by kernel_rfl
@[simp] theorem ty_bld18 : builderT Tryd.prog 18 = none := by kernel_rfl
@[simp] theorem ty_f18_0 : fieldAt Tryd.prog 18 0 = some (0, 17) := by kernel_rfl
@[simp] theorem ty_pl18 : placesOk Tryd.prog 18 = true := by kernel_rfl
@[simp] theorem ty_zero18 : zeroA Tryd.prog 18 = some [.ro (.nilp)] := by kernel_rfl
@[simp] theorem ty_size19 : sizeT Tryd.prog 19 = some 1 := by kernel_rfl
@[simp] theorem ty_agg19 : isAggT Tryd.prog 19 = true := by kernel_rfl
@[simp] theorem ty_bld19 : builderT Tryd.prog 19 = none := by kernel_rfl
@[simp] theorem ty_f19_0 : fieldAt Tryd.prog 19 0 = some (0, 17) := by kernel_rfl
@[simp] theorem ty_pl19 : placesOk Tryd.prog 19 = true := by kernel_rfl
@[simp] theorem ty_zero19 : zeroA Tryd.prog 19 = some [.ro (.nilp)] := by kernel_rfl
@[simp] theorem ty_size20 : sizeT Tryd.prog 20 = some 1 := by kernel_rfl
@[simp] theorem ty_agg20 : isAggT Tryd.prog 20 = false := by kernel_rfl
@[simp] theorem ty_bld20 : builderT Tryd.prog 20 = none := by kernel_rfl
@[simp] theorem ty_zero20 : zeroA Tryd.prog 20 = some [.ro (.nili)] := by kernel_rfl
@[simp] theorem ty_size21 : sizeT Tryd.prog 21 = some 1 := by kernel_rfl
@[simp] theorem ty_agg21 : isAggT Tryd.prog 21 = false := by kernel_rfl
@[simp] theorem ty_bld21 : builderT Tryd.prog 21 = none := by kernel_rfl
@[simp] theorem ty_zero21 : zeroA Tryd.prog 21 = some [.ro (.int .i32 0)] := by kernel_rfl
@[simp] theorem ty_size22 : sizeT Tryd.prog 22 = some 1 := by kernel_rfl
@[simp] theorem ty_agg22 : isAggT Tryd.prog 22 = false := by kernel_rfl
@[simp] theorem ty_bld22 : builderT Tryd.prog 22 = none := by kernel_rfl
@[simp] theorem ty_byte22 : byteT Tryd.prog 22 = none := by kernel_rfl
@[simp] theorem ty_z22 : zOf Tryd.prog 22 = some 2 := by kernel_rfl
@[simp] theorem ty_elem22 : elemT Tryd.prog 50 = some 2 := by kernel_rfl
@[simp] theorem ty_zd22 : zeroD Tryd.prog 50 = some (.agg [.int .i64 0, .sl 1 []]) := by kernel_rfl
@[simp] theorem ty_zero22 : zeroA Tryd.prog 22 = some [.own (.sl 2 [])] := by kernel_rfl
@[simp] theorem ty_size25 : sizeT Tryd.prog 25 = some 1 := by kernel_rfl
@[simp] theorem ty_agg25 : isAggT Tryd.prog 25 = false := by kernel_rfl
@[simp] theorem ty_bld25 : builderT Tryd.prog 25 = none := by kernel_rfl
@[simp] theorem ty_byte25 : byteT Tryd.prog 25 = none := by kernel_rfl
@[simp] theorem ty_z25 : zOf Tryd.prog 25 = some 2 := by kernel_rfl
@[simp] theorem ty_elem25 : elemT Tryd.prog 52 = some 2 := by kernel_rfl
@[simp] theorem ty_zd25 : zeroD Tryd.prog 52 = some (.agg [.int .i64 0, .sl 1 []]) := by kernel_rfl
@[simp] theorem ty_zero25 : zeroA Tryd.prog 25 = some [.own (.sl 2 [])] := by kernel_rfl
@[simp] theorem ty_size29 : sizeT Tryd.prog 29 = some 1 := by kernel_rfl
@[simp] theorem ty_agg29 : isAggT Tryd.prog 29 = false := by kernel_rfl
@[simp] theorem ty_bld29 : builderT Tryd.prog 29 = none := by kernel_rfl
@[simp] theorem ty_byte29 : byteT Tryd.prog 29 = some 5 := by kernel_rfl
@[simp] theorem ty_z29 : zOf Tryd.prog 29 = some 1 := by kernel_rfl
@[simp] theorem ty_elem29 : elemT Tryd.prog 5 = some 1 := by kernel_rfl
@[simp] theorem ty_zd29 : zeroD Tryd.prog 5 = some (.int .u8 0) := by kernel_rfl
@[simp] theorem ty_zero29 : zeroA Tryd.prog 29 = some [.own (.sl 1 [])] := by kernel_rfl
@[simp] theorem ty_size30 : sizeT Tryd.prog 30 = some 1 := by kernel_rfl
@[simp] theorem ty_agg30 : isAggT Tryd.prog 30 = false := by kernel_rfl
@[simp] theorem ty_bld30 : builderT Tryd.prog 30 = none := by kernel_rfl
@[simp] theorem ty_byte30 : byteT Tryd.prog 30 = none := by kernel_rfl
@[simp] theorem ty_z30 : zOf Tryd.prog 30 = some 2 := by kernel_rfl
@[simp] theorem ty_elem30 : elemT Tryd.prog 37 = some 2 := by kernel_rfl
@[simp] theorem ty_zd30 : zeroD Tryd.prog 37 = some (.agg [.str ⟨#[]⟩, .str ⟨#[]⟩]) := by kernel_rfl
@[simp] theorem ty_zero30 : zeroA Tryd.prog 30 = some [.own (.sl 2 [])] := by kernel_rfl
@[simp] theorem ty_size36 : sizeT Tryd.prog 36 = some 2 := by kernel_rfl
@[simp] theorem ty_agg36 : isAggT Tryd.prog 36 = true := by kernel_rfl
@[simp] theorem ty_bld36 : builderT Tryd.prog 36 = none := by kernel_rfl
@[simp] theorem ty_f36_0 : fieldAt Tryd.prog 36 0 = some (0, 9) := by kernel_rfl
@[simp] theorem ty_f36_1 : fieldAt Tryd.prog 36 1 = some (1, 9) := by kernel_rfl
@[simp] theorem ty_pl36 : placesOk Tryd.prog 36 = true := by kernel_rfl
@[simp] theorem ty_zero36 : zeroA Tryd.prog 36 = some [.ro (.str ⟨#[]⟩), .ro (.str ⟨#[]⟩)] := by kernel_rfl
@[simp] theorem ty_size37 : sizeT Tryd.prog 37 = some 2 := by kernel_rfl
@[simp] theorem ty_agg37 : isAggT Tryd.prog 37 = true := by kernel_rfl
@[simp] theorem ty_bld37 : builderT Tryd.prog 37 = none := by kernel_rfl
@[simp] theorem ty_f37_0 : fieldAt Tryd.prog 37 0 = some (0, 9) := by kernel_rfl
@[simp] theorem ty_f37_1 : fieldAt Tryd.prog 37 1 = some (1, 9) := by kernel_rfl
@[simp] theorem ty_pl37 : placesOk Tryd.prog 37 = true := by kernel_rfl
@[simp] theorem ty_zero37 : zeroA Tryd.prog 37 = some [.ro (.str ⟨#[]⟩), .ro (.str ⟨#[]⟩)] := by kernel_rfl
@[simp] theorem ty_size38 : sizeT Tryd.prog 38 = some 1 := by kernel_rfl
@[simp] theorem ty_agg38 : isAggT Tryd.prog 38 = false := by kernel_rfl
@[simp] theorem ty_bld38 : builderT Tryd.prog 38 = none := by kernel_rfl
@[simp] theorem ty_byte38 : byteT Tryd.prog 38 = none := by kernel_rfl
@[simp] theorem ty_z38 : zOf Tryd.prog 38 = some 2 := by kernel_rfl
@[simp] theorem ty_elem38 : elemT Tryd.prog 80 = some 2 := by kernel_rfl
@[simp] theorem ty_zd38 : zeroD Tryd.prog 80 = some (.agg [.str ⟨#[]⟩, .str ⟨#[]⟩]) := by kernel_rfl
@[simp] theorem ty_zero38 : zeroA Tryd.prog 38 = some [.own (.sl 2 [])] := by kernel_rfl
@[simp] theorem ty_size48 : sizeT Tryd.prog 48 = some 1 := by kernel_rfl
@[simp] theorem ty_agg48 : isAggT Tryd.prog 48 = false := by kernel_rfl
@[simp] theorem ty_bld48 : builderT Tryd.prog 48 = none := by kernel_rfl
@[simp] theorem ty_byte48 : byteT Tryd.prog 48 = none := by kernel_rfl
@[simp] theorem ty_z48 : zOf Tryd.prog 48 = some 1 := by kernel_rfl
@[simp] theorem ty_elem48 : elemT Tryd.prog 9 = some 1 := by kernel_rfl
@[simp] theorem ty_zd48 : zeroD Tryd.prog 9 = some (.str ⟨#[]⟩) := by kernel_rfl
@[simp] theorem ty_zero48 : zeroA Tryd.prog 48 = some [.own (.sl 1 [])] := by kernel_rfl
@[simp] theorem ty_size49 : sizeT Tryd.prog 49 = some 2 := by kernel_rfl
@[simp] theorem ty_agg49 : isAggT Tryd.prog 49 = true := by kernel_rfl
@[simp] theorem ty_bld49 : builderT Tryd.prog 49 = none := by kernel_rfl
@[simp] theorem ty_f49_0 : fieldAt Tryd.prog 49 0 = some (0, 3) := by kernel_rfl
@[simp] theorem ty_f49_1 : fieldAt Tryd.prog 49 1 = some (1, 48) := by kernel_rfl
@[simp] theorem ty_pl49 : placesOk Tryd.prog 49 = true := by kernel_rfl
@[simp] theorem ty_zero49 : zeroA Tryd.prog 49 = some [.ro (.int .i64 0), .own (.sl 1 [])] := by kernel_rfl
@[simp] theorem ty_size50 : sizeT Tryd.prog 50 = some 2 := by kernel_rfl
@[simp] theorem ty_agg50 : isAggT Tryd.prog 50 = true := by kernel_rfl
@[simp] theorem ty_bld50 : builderT Tryd.prog 50 = none := by kernel_rfl
@[simp] theorem ty_f50_0 : fieldAt Tryd.prog 50 0 = some (0, 3) := by kernel_rfl
@[simp] theorem ty_f50_1 : fieldAt Tryd.prog 50 1 = some (1, 48) := by kernel_rfl
@[simp] theorem ty_pl50 : placesOk Tryd.prog 50 = true := by kernel_rfl
@[simp] theorem ty_zero50 : zeroA Tryd.prog 50 = some [.ro (.int .i64 0), .own (.sl 1 [])] := by kernel_rfl
@[simp] theorem ty_size52 : sizeT Tryd.prog 52 = some 2 := by kernel_rfl
@[simp] theorem ty_agg52 : isAggT Tryd.prog 52 = true := by kernel_rfl
@[simp] theorem ty_bld52 : builderT Tryd.prog 52 = none := by kernel_rfl
@[simp] theorem ty_f52_0 : fieldAt Tryd.prog 52 0 = some (0, 3) := by kernel_rfl
@[simp] theorem ty_f52_1 : fieldAt Tryd.prog 52 1 = some (1, 48) := by kernel_rfl
@[simp] theorem ty_pl52 : placesOk Tryd.prog 52 = true := by kernel_rfl
@[simp] theorem ty_zero52 : zeroA Tryd.prog 52 = some [.ro (.int .i64 0), .own (.sl 1 [])] := by kernel_rfl
@[simp] theorem ty_size54 : sizeT Tryd.prog 54 = some 1 := by kernel_rfl
@[simp] theorem ty_agg54 : isAggT Tryd.prog 54 = false := by kernel_rfl
@[simp] theorem ty_bld54 : builderT Tryd.prog 54 = none := by kernel_rfl
@[simp] theorem ty_zero54 : zeroA Tryd.prog 54 = some [.ro (.nilp)] := by kernel_rfl
@[simp] theorem ty_size55 : sizeT Tryd.prog 55 = some 2 := by kernel_rfl
@[simp] theorem ty_agg55 : isAggT Tryd.prog 55 = true := by kernel_rfl
@[simp] theorem ty_bld55 : builderT Tryd.prog 55 = some 5 := by kernel_rfl
@[simp] theorem ty_f55_0 : fieldAt Tryd.prog 55 0 = some (0, 54) := by kernel_rfl
@[simp] theorem ty_f55_1 : fieldAt Tryd.prog 55 1 = some (1, 29) := by kernel_rfl
@[simp] theorem ty_pl55 : placesOk Tryd.prog 55 = true := by kernel_rfl
@[simp] theorem ty_zero55 : zeroA Tryd.prog 55 = some [.ro (.nilp), .own (.sl 1 [])] := by kernel_rfl
@[simp] theorem ty_size56 : sizeT Tryd.prog 56 = some 2 := by kernel_rfl
@[simp] theorem ty_agg56 : isAggT Tryd.prog 56 = true := by kernel_rfl
@[simp] theorem ty_bld56 : builderT Tryd.prog 56 = some 5 := by kernel_rfl
@[simp] theorem ty_f56_0 : fieldAt Tryd.prog 56 0 = some (0, 54) := by kernel_rfl
@[simp] theorem ty_f56_1 : fieldAt Tryd.prog 56 1 = some (1, 29) := by kernel_rfl
@[simp] theorem ty_pl56 : placesOk Tryd.prog 56 = true := by kernel_rfl
@[simp] theorem ty_zero56 : zeroA Tryd.prog 56 = some [.ro (.nilp), .own (.sl 1 [])] := by kernel_rfl
@[simp] theorem ty_size57 : sizeT Tryd.prog 57 = some 1 := by kernel_rfl
@[simp] theorem ty_agg57 : isAggT Tryd.prog 57 = false := by kernel_rfl
@[simp] theorem ty_bld57 : builderT Tryd.prog 57 = none := by kernel_rfl
@[simp] theorem ty_zero57 : zeroA Tryd.prog 57 = some [.ro (.nili)] := by kernel_rfl
@[simp] theorem ty_size58 : sizeT Tryd.prog 58 = some 1 := by kernel_rfl
@[simp] theorem ty_agg58 : isAggT Tryd.prog 58 = false := by kernel_rfl
@[simp] theorem ty_bld58 : builderT Tryd.prog 58 = none := by kernel_rfl
@[simp] theorem ty_zero58 : zeroA Tryd.prog 58 = some [.ro (.nili)] := by kernel_rfl
@[simp] theorem ty_size64 : sizeT Tryd.prog 64 = some 1 := by kernel_rfl
@[simp] theorem ty_agg64 : isAggT Tryd.prog 64 = false := by kernel_rfl
@[simp] theorem ty_bld64 : builderT Tryd.prog 64 = none := by kernel_rfl
@[simp] theorem ty_zero64 : zeroA Tryd.prog 64 = some [.ro (.nilp)] := by kernel_rfl
@[simp] theorem ty_size72 : sizeT Tryd.prog 72 = some 2 := by kernel_rfl
@[simp] theorem ty_agg72 : isAggT Tryd.prog 72 = true := by kernel_rfl
@[simp] theorem ty_bld72 : builderT Tryd.prog 72 = none := by kernel_rfl
@[simp] theorem ty_f72_0 : fieldAt Tryd.prog 72 0 = some (0, 30) := by kernel_rfl
@[simp] theorem ty_f72_1 : fieldAt Tryd.prog 72 1 = some (1, 48) := by kernel_rfl
@[simp] theorem ty_pl72 : placesOk Tryd.prog 72 = true := by kernel_rfl
@[simp] theorem ty_zero72 : zeroA Tryd.prog 72 = some [.own (.sl 2 []), .own (.sl 1 [])] := by kernel_rfl
@[simp] theorem ty_size73 : sizeT Tryd.prog 73 = some 2 := by kernel_rfl
@[simp] theorem ty_agg73 : isAggT Tryd.prog 73 = true := by kernel_rfl
@[simp] theorem ty_bld73 : builderT Tryd.prog 73 = none := by kernel_rfl
@[simp] theorem ty_f73_0 : fieldAt Tryd.prog 73 0 = some (0, 30) := by kernel_rfl
@[simp] theorem ty_f73_1 : fieldAt Tryd.prog 73 1 = some (1, 48) := by kernel_rfl
@[simp] theorem ty_pl73 : placesOk Tryd.prog 73 = true := by kernel_rfl
@[simp] theorem ty_zero73 : zeroA Tryd.prog 73 = some [.own (.sl 2 []), .own (.sl 1 [])] := by kernel_rfl
@[simp] theorem ty_size80 : sizeT Tryd.prog 80 = some 2 := by kernel_rfl
@[simp] theorem ty_agg80 : isAggT Tryd.prog 80 = true := by kernel_rfl
@[simp] theorem ty_bld80 : builderT Tryd.prog 80 = none := by kernel_rfl
@[simp] theorem ty_f80_0 : fieldAt Tryd.prog 80 0 = some (0, 9) := by kernel_rfl
@[simp] theorem ty_f80_1 : fieldAt Tryd.prog 80 1 = some (1, 9) := by kernel_rfl
@[simp] theorem ty_pl80 : placesOk Tryd.prog 80 = true := by kernel_rfl
@[simp] theorem ty_zero80 : zeroA Tryd.prog 80 = some [.ro (.str ⟨#[]⟩), .ro (.str ⟨#[]⟩)] := by kernel_rfl
@[simp] theorem ty_size83 : sizeT Tryd.prog 83 = some 1 := by kernel_rfl
@[simp] theorem ty_agg83 : isAggT Tryd.prog 83 = true := by kernel_rfl
@[simp] theorem ty_bld83 : builderT Tryd.prog 83 = none := by kernel_rfl
@[simp] theorem ty_f83_0 : fieldAt Tryd.prog 83 0 = some (0, 9) := by kernel_rfl
@[simp] theorem ty_pl83 : placesOk Tryd.prog 83 = true := by kernel_rfl
@[simp] theorem ty_zero83 : zeroA Tryd.prog 83 = some [.ro (.str ⟨#[]⟩)] := by kernel_rfl
@[simp] theorem ty_size84 : sizeT Tryd.prog 84 = some 1 := by kernel_rfl
@[simp] theorem ty_agg84 : isAggT Tryd.prog 84 = true := by kernel_rfl
@[simp] theorem ty_bld84 : builderT Tryd.prog 84 = none := by kernel_rfl
@[simp] theorem ty_f84_0 : fieldAt Tryd.prog 84 0 = some (0, 9) := by kernel_rfl
@[simp] theorem ty_pl84 : placesOk Tryd.prog 84 = true := by kernel_rfl
@[simp] theorem ty_zero84 : zeroA Tryd.prog 84 = some [.ro (.str ⟨#[]⟩)] := by kernel_rfl
@[simp] theorem ty_size85 : sizeT Tryd.prog 85 = some 1 := by kernel_rfl
@[simp] theorem ty_agg85 : isAggT Tryd.prog 85 = true := by kernel_rfl
@[simp] theorem ty_bld85 : builderT Tryd.prog 85 = none := by kernel_rfl
@[simp] theorem ty_f85_0 : fieldAt Tryd.prog 85 0 = some (0, 84) := by kernel_rfl
@[simp] theorem ty_pl85 : placesOk Tryd.prog 85 = true := by kernel_rfl
@[simp] theorem ty_zero85 : zeroA Tryd.prog 85 = some [.ro (.str ⟨#[]⟩)] := by kernel_rfl
@[simp] theorem ty_size86 : sizeT Tryd.prog 86 = some 1 := by kernel_rfl
@[simp] theorem ty_agg86 : isAggT Tryd.prog 86 = true := by kernel_rfl
@[simp] theorem ty_bld86 : builderT Tryd.prog 86 = none := by kernel_rfl
@[simp] theorem ty_f86_0 : fieldAt Tryd.prog 86 0 = some (0, 84) := by kernel_rfl
@[simp] theorem ty_pl86 : placesOk Tryd.prog 86 = true := by kernel_rfl
@[simp] theorem ty_zero86 : zeroA Tryd.prog 86 = some [.ro (.str ⟨#[]⟩)] := by kernel_rfl
@[simp] theorem ty_size96 : sizeT Tryd.prog 96 = some 1 := by kernel_rfl
@[simp] theorem ty_agg96 : isAggT Tryd.prog 96 = false := by kernel_rfl
@[simp] theorem ty_bld96 : builderT Tryd.prog 96 = none := by kernel_rfl
@[simp] theorem ty_zero96 : zeroA Tryd.prog 96 = some [.ro (.nilp)] := by kernel_rfl
@[simp] theorem ty_size98 : sizeT Tryd.prog 98 = some 2 := by kernel_rfl
@[simp] theorem ty_agg98 : isAggT Tryd.prog 98 = true := by kernel_rfl
@[simp] theorem ty_bld98 : builderT Tryd.prog 98 = none := by kernel_rfl
@[simp] theorem ty_f98_0 : fieldAt Tryd.prog 98 0 = some (0, 29) := by kernel_rfl
@[simp] theorem ty_f98_1 : fieldAt Tryd.prog 98 1 = some (1, 3) := by kernel_rfl
@[simp] theorem ty_pl98 : placesOk Tryd.prog 98 = true := by kernel_rfl
@[simp] theorem ty_zero98 : zeroA Tryd.prog 98 = some [.own (.sl 1 []), .ro (.int .i64 0)] := by kernel_rfl
@[simp] theorem ty_size99 : sizeT Tryd.prog 99 = some 2 := by kernel_rfl
@[simp] theorem ty_agg99 : isAggT Tryd.prog 99 = true := by kernel_rfl
@[simp] theorem ty_bld99 : builderT Tryd.prog 99 = none := by kernel_rfl
@[simp] theorem ty_f99_0 : fieldAt Tryd.prog 99 0 = some (0, 29) := by kernel_rfl
@[simp] theorem ty_f99_1 : fieldAt Tryd.prog 99 1 = some (1, 3) := by kernel_rfl
@[simp] theorem ty_pl99 : placesOk Tryd.prog 99 = true := by kernel_rfl
@[simp] theorem ty_zero99 : zeroA Tryd.prog 99 = some [.own (.sl 1 []), .ro (.int .i64 0)] := by kernel_rfl
@[simp] theorem ty_size101 : sizeT Tryd.prog 101 = some 1 := by kernel_rfl
@[simp] theorem ty_agg101 : isAggT Tryd.prog 101 = false := by kernel_rfl
@[simp] theorem ty_bld101 : builderT Tryd.prog 101 = none := by kernel_rfl
@[simp] theorem ty_zero101 : zeroA Tryd.prog 101 = some [.ro (.nilp)] := by kernel_rfl
@[simp] theorem ty_size105 : sizeT Tryd.prog 105 = some 1 := by kernel_rfl
@[simp] theorem ty_agg105 : isAggT Tryd.prog 105 = true := by kernel_rfl
@[simp] theorem ty_bld105 : builderT Tryd.prog 105 = none := by kernel_rfl
@[simp] theorem ty_f105_0 : fieldAt Tryd.prog 105 0 = some (0, 3) := by kernel_rfl
@[simp] theorem ty_pl105 : placesOk Tryd.prog 105 = true := by kernel_rfl
@[simp] theorem ty_zero105 : zeroA Tryd.prog 105 = some [.ro (.int .i64 0)] := by kernel_rfl
@[simp] theorem ty_size106 : sizeT Tryd.prog 106 = some 1 := by kernel_rfl
@[simp] theorem ty_agg106 : isAggT Tryd.prog 106 = true := by kernel_rfl
@[simp] theorem ty_bld106 : builderT Tryd.prog 106 = none := by kernel_rfl
@[simp] theorem ty_f106_0 : fieldAt Tryd.prog 106 0 = some (0, 3) := by kernel_rfl
@[simp] theorem ty_pl106 : placesOk Tryd.prog 106 = true := by kernel_rfl
@[simp] theorem ty_zero106 : zeroA Tryd.prog 106 = some [.ro (.int .i64 0)] := by kernel_rfl
@[simp] theorem ty_size108 : sizeT Tryd.prog 108 = some 1 := by kernel_rfl
@[simp] theorem ty_agg108 : isAggT Tryd.prog 108 = false := by kernel_rfl
@[simp] theorem ty_bld108 : builderT Tryd.prog 108 = none := by kernel_rfl
@[simp] theorem ty_zero108 : zeroA Tryd.prog 108 = some [.ro (.nilp)] := by kernel_rfl
@[simp] theorem ty_size113 : sizeT Tryd.prog 113 = some 1 := by kernel_rfl
@[simp] theorem ty_agg113 : isAggT Tryd.prog 113 = false := by kernel_rfl
@[simp] theorem ty_bld113 : builderT Tryd.prog 113 = none := by kernel_rfl
@[simp] theorem ty_zero113 : zeroA Tryd.prog 113 = some [.ro (.nilp)] := by kernel_rfl
@[simp] theorem ty_size119 : sizeT Tryd.prog 119 = some 1 := by kernel_rfl
@[simp] theorem ty_agg119 : isAggT Tryd.prog 119 = false := by kernel_rfl
@[simp] theorem ty_bld119 : builderT Tryd.prog 119 = none := by kernel_rfl
@[simp] theorem ty_zero119 : zeroA Tryd.prog 119 = some [.ro (.nilp)] := by kernel_rfl
@[simp] theorem ty_size126 : sizeT Tryd.prog 126 = some 1 := by kernel_rfl
@[simp] theorem ty_agg126 : isAggT Tryd.prog 126 = false := by kernel_rfl
@[simp] theorem ty_bld126 : builderT Tryd.prog 126 = none := by kernel_rfl
@[simp] theorem ty_zero126 : zeroA Tryd.prog 126 = some [.ro (.int .u64 0)] := by kernel_rfl
@[simp] theorem ty_size127 : sizeT Tryd.prog 127 = some 3 := by kernel_rfl
@[simp] theorem ty_agg127 : isAggT Tryd.prog 127 = true := by kernel_rfl
@[simp] theorem ty_bld127 : builderT Tryd.prog 127 = none := by kernel_rfl
@[simp] theorem ty_f127_0 : fieldAt Tryd.prog 127 0 = some (0, 17) := by kernel_rfl
@[simp] theorem ty_f127_1 : fieldAt Tryd.prog 127 1 = some (1, 119) := by kernel_rfl
@[simp] theorem ty_f127_2 : fieldAt Tryd.prog 127 2 = some (2, 126) := by kernel_rfl
@[simp] theorem ty_pl127 : placesOk Tryd.prog 127 = true := by kernel_rfl
@[simp] theorem ty_zero127 : zeroA Tryd.prog 127 = some [.ro (.nilp), .ro (.nilp), .ro (.int .u64 0)] := by kernel_rfl
@[simp] theorem ty_size128 : sizeT Tryd.prog 128 = some 3 := by kernel_rfl
@[simp] theorem ty_agg128 : isAggT Tryd.prog 128 = true := by kernel_rfl
@[simp] theorem ty_bld128 : builderT Tryd.prog 128 = none := by kernel_rfl
@[simp] theorem ty_f128_0 : fieldAt Tryd.prog 128 0 = some (0, 17) := by kernel_rfl
@[simp] theorem ty_f128_1 : fieldAt Tryd.prog 128 1 = some (1, 119) := by kernel_rfl
@[simp] theorem ty_f128_2 : fieldAt Tryd.prog 128 2 = some (2, 126) := by kernel_rfl
@[simp] theorem ty_pl128 : placesOk Tryd.prog 128 = true := by kernel_rfl
@[simp] theorem ty_zero128 : zeroA Tryd.prog 128 = some [.ro (.nilp), .ro (.nilp), .ro (.int .u64 0)] := by kernel_rfl
@[simp] theorem ty_size130 : sizeT Tryd.prog 130 = some 1 := by kernel_rfl
@[simp] theorem ty_agg130 : isAggT Tryd.prog 130 = false := by kernel_rfl
@[simp] theorem ty_bld130 : builderT Tryd.prog 130 = none := by kernel_rfl
@[simp] theorem ty_zero130 : zeroA Tryd.prog 130 = some [.ro (.nili)] := by kernel_rfl
@[simp] theorem ty_size131 : sizeT Tryd.prog 131 = some 1 := by kernel_rfl
@[simp] theorem ty_agg131 : isAggT Tryd.prog 131 = false := by kernel_rfl
@[simp] theorem ty_bld131 : builderT Tryd.prog 131 = none := by kernel_rfl
@[simp] theorem ty_zero131 : zeroA Tryd.prog 131 = some [.ro (.nili)] := by kernel_rfl
@[simp] theorem ty_size133 : sizeT Tryd.prog 133 = some 1 := by kernel_rfl
@[simp] theorem ty_agg133 : isAggT Tryd.prog 133 = false := by kernel_rfl
@[simp] theorem ty_bld133 : builderT Tryd.prog 133 = none := by kernel_rfl
@[simp] theorem ty_zero133 : zeroA Tryd.prog 133 = some [.ro (.int .u8 0)] := by kernel_rfl
@[simp] theorem ty_size138 : sizeT Tryd.prog 138 = some 1 := by kernel_rfl
@[simp] theorem ty_agg138 : isAggT Tryd.prog 138 = false := by kernel_rfl
@[simp] theorem ty_bld138 : builderT Tryd.prog 138 = none := by kernel_rfl
@[simp] theorem ty_zero138 : zeroA Tryd.prog 138 = some [.ro (.nilp)] := by kernel_rfl
@[simp] theorem ty_size140 : sizeT Tryd.prog 140 = some 24 := by kernel_rfl
@[simp] theorem ty_agg140 : isAggT Tryd.prog 140 = true := by kernel_rfl
@[simp] theorem ty_bld140 : builderT Tryd.prog 140 = none := by kernel_rfl
@[simp] theorem ty_zero140 : zeroA Tryd.prog 140 = some [.ro (.int .u8 0), .ro (.int .u8 0), .ro (.int .u8 0), .ro (.int .u8 0), .ro (.int .u8 0), .ro (.int .u8 0), .ro (.int .u8 0), .ro (.int .u8 0), .ro (.int .u8 0), .ro (.int .u8 0), .ro (.int .u8 0), .ro (.int .u8 0), .ro (.int .u8 0), .ro (.int .u8 0), .ro (.int .u8 0), .ro (.int .u8 0), .ro (.int .u8 0), .ro (.int .u8 0), .ro (.int .u8 0), .ro (.int .u8 0), .ro (.int .u8 0), .ro (.int .u8 0), .ro (.int .u8 0), .ro (.int .u8 0)] := by kernel_rfl
@[simp] theorem ty_size141 : sizeT Tryd.prog 141 = some 1 := by kernel_rfl
@[simp] theorem ty_agg141 : isAggT Tryd.prog 141 = false := by kernel_rfl
@[simp] theorem ty_bld141 : builderT Tryd.prog 141 = none := by kernel_rfl
@[simp] theorem ty_zero141 : zeroA Tryd.prog 141 = some [.ro (.int .u64 0)] := by kernel_rfl
@[simp] theorem ty_size147 : sizeT Tryd.prog 147 = some 1 := by kernel_rfl
@[simp] theorem ty_agg147 : isAggT Tryd.prog 147 = false := by kernel_rfl
@[simp] theorem ty_bld147 : builderT Tryd.prog 147 = none := by kernel_rfl
@[simp] theorem ty_zero147 : zeroA Tryd.prog 147 = some [.ro (.int .u64 0)] := by kernel_rfl
@[simp] theorem ty_size149 : sizeT Tryd.prog 149 = some 1 := by kernel_rfl
@[simp] theorem ty_agg149 : isAggT Tryd.prog 149 = true := by kernel_rfl
@[simp] theorem ty_bld149 : builderT Tryd.prog 149 = none := by kernel_rfl
@[simp] theorem ty_f149_0 : fieldAt Tryd.prog 149 0 = some (0, 17) := by kernel_rfl
@[simp] theorem ty_pl149 : placesOk Tryd.prog 149 = true := by kernel_rfl
@[simp] theorem ty_zero149 : zeroA Tryd.prog 149 = some [.ro (.nilp)] := by kernel_rfl
@[simp] theorem ty_size150 : sizeT Tryd.prog 150 = some 1 := by kernel_rfl
@[simp] theorem ty_agg150 : isAggT Tryd.prog 150 = true := by kernel_rfl
@[simp] theorem ty_bld150 : builderT Tryd.prog 150 = none := by kernel_rfl
@[simp] theorem ty_f150_0 : fieldAt Tryd.prog 150 0 = some (0, 17) := by kernel_rfl
@[simp] theorem ty_pl150 : placesOk Tryd.prog 150 = true := by kernel_rfl
@[simp] theorem ty_zero150 : zeroA Tryd.prog 150 = some [.ro (.nilp)] := by kernel_rfl
@[simp] theorem ty_size151 : sizeT Tryd.prog 151 = some 1 := by kernel_rfl
@[simp] theorem ty_agg151 : isAggT Tryd.prog 151 = false := by kernel_rfl
@[simp] theorem ty_bld151 : builderT Tryd.prog 151 = none := by kernel_rfl
@[simp] theorem ty_zero151 : zeroA Tryd.prog 151 = some [.ro (.nilp)] := by kernel_rfl
@[simp] theorem ty_size155 : sizeT Tryd.prog 155 = some 1 := by kernel_rfl
@[simp] theorem ty_agg155 : isAggT Tryd.prog 155 = false := by kernel_rfl
@[simp] theorem ty_bld155 : builderT Tryd.prog 155 = none := by kernel_rfl
@[simp] theorem ty_zero155 : zeroA Tryd.prog 155 = some [.ro (.nili)] := by kernel_rfl
@[simp] theorem ty_size158 : sizeT Tryd.prog 158 = some 1 := by kernel_rfl
@[simp] theorem ty_agg158 : isAggT Tryd.prog 158 = false := by kernel_rfl
@[simp] theorem ty_bld158 : builderT Tryd.prog 158 = none := by kernel_rfl
@[simp] theorem ty_zero158 : zeroA Tryd.prog 158 = some [.ro (.nili)] := by kernel_rfl
@[simp] theorem ty_size160 : sizeT Tryd.prog 160 = some 1 := by kernel_rfl
@[simp] theorem ty_agg160 : isAggT Tryd.prog 160 = false := by kernel_rfl
@[simp] theorem ty_bld160 : builderT Tryd.prog 160 = none := by kernel_rfl
@[simp] theorem ty_zero160 : zeroA Tryd.prog 160 = some [.ro (.nili)] := by kernel_rfl
@[simp] theorem ty_size161 : sizeT Tryd.prog 161 = some 1 := by kernel_rfl
@[simp] theorem ty_agg161 : isAggT Tryd.prog 161 = false := by kernel_rfl
@[simp] theorem ty_bld161 : builderT Tryd.prog 161 = none := by kernel_rfl
@[simp] theorem ty_byte161 : byteT Tryd.prog 161 = none := by kernel_rfl
@[simp] theorem ty_z161 : zOf Tryd.prog 161 = some 1 := by kernel_rfl
@[simp] theorem ty_elem161 : elemT Tryd.prog 58 = some 1 := by kernel_rfl
@[simp] theorem ty_zd161 : zeroD Tryd.prog 58 = some (.nili) := by kernel_rfl
@[simp] theorem ty_zero161 : zeroA Tryd.prog 161 = some [.own (.sl 1 [])] := by kernel_rfl
@[simp] theorem ty_size165 : sizeT Tryd.prog 165 = some 20 := by kernel_rfl
@[simp] theorem ty_agg165 : isAggT Tryd.prog 165 = true := by kernel_rfl
@[simp] theorem ty_bld165 : builderT Tryd.prog 165 = none := by kernel_rfl
@[simp] theorem ty_zero165 : zeroA Tryd.prog 165 = some [.ro (.int .u64 0), .ro (.int .u64 0), .ro (.int .u64 0), .ro (.int .u64 0), .ro (.int .u64 0), .ro (.int .u64 0), .ro (.int .u64 0), .ro (.int .u64 0), .ro (.int .u64 0), .ro (.int .u64 0), .ro (.int .u64 0), .ro (.int .u64 0), .ro (.int .u64 0), .ro (.int .u64 0), .ro (.int .u64 0), .ro (.int .u64 0), .ro (.int .u64 0), .ro (.int .u64 0), .ro (.int .u64 0), .ro (.int .u64 0)] := by kernel_rfl
@[simp] theorem ty_size166 : sizeT Tryd.prog 166 = some 1 := by kernel_rfl
@[simp] theorem ty_agg166 : isAggT Tryd.prog 166 = false := by kernel_rfl
@[simp] theorem ty_bld166 : builderT Tryd.prog 166 = none := by kernel_rfl
@[simp] theorem ty_zero166 : zeroA Tryd.prog 166 = some [.ro (.int .u32 0)] := by kernel_rfl
@[simp] theorem ty_size167 : sizeT Tryd.prog 167 = some 65 := by kernel_rfl
@[simp] theorem ty_agg167 : isAggT Tryd.prog 167 = true := by kernel_rfl
@[simp] theorem ty_bld167 : builderT Tryd.prog 167 = none := by kernel_rfl
@[simp] theorem ty_zero167 : zeroA Tryd.prog 167 = some [.ro (.int .u8 0), .ro (.int .u8 0), .ro (.int .u8 0), .ro (.int .u8 0), .ro (.int .u8 0), .ro (.int .u8 0), .ro (.int .u8 0), .ro (.int .u8 0), .ro (.int .u8 0), .ro (.int .u8 0), .ro (.int .u8 0), .ro (.int .u8 0), .ro (.int .u8 0), .ro (.int .u8 0), .ro (.int .u8 0), .ro (.int .u8 0), .ro (.int .u8 0), .ro (.int .u8 0), .ro (.int .u8 0), .ro (.int .u8 0), .ro (.int .u8 0), .ro (.int .u8 0), .ro (.int .u8 0), .ro (.int .u8 0), .ro (.int .u8 0), .ro (.int .u8 0), .ro (.int .u8 0), .ro (.int .u8 0), .ro (.int .u8 0), .ro (.int .u8 0), .ro (.int .u8 0), .ro (.int .u8 0), .ro (.int .u8 0), .ro (.int .u8 0), .ro (.int .u8 0), .ro (.int .u8 0), .ro (.int .u8 0), .ro (.int .u8 0), .ro (.int .u8 0), .ro (.int .u8 0), .ro (.int .u8 0), .ro (.int .u8 0), .ro (.int .u8 0), .ro (.int .u8 0), .ro (.int .u8 0), .ro (.int .u8 0), .ro (.int .u8 0), .ro (.int .u8 0), .ro (.int .u8 0), .ro (.int .u8 0), .ro (.int .u8 0), .ro (.int .u8 0), .ro (.int .u8 0), .ro (.int .u8 0), .ro (.int .u8 0), .ro (.int .u8 0), .ro (.int .u8 0), .ro (.int .u8 0), .ro (.int .u8 0), .ro (.int .u8 0), .ro (.int .u8 0), .ro (.int .u8 0), .ro (.int .u8 0), .ro (.int .u8 0), .ro (.int .u8 0)] := by kernel_rfl
@[simp] theorem ty_size176 : sizeT Tryd.prog 176 = some 32 := by kernel_rfl
@[simp] theorem ty_agg176 : isAggT Tryd.prog 176 = true := by kernel_rfl
@[simp] theorem ty_bld176 : builderT Tryd.prog 176 = none := by kernel_rfl
@[simp] theorem ty_zero176 : zeroA Tryd.prog 176 = some [.ro (.int .u8 0), .ro (.int .u8 0), .ro (.int .u8 0), .ro (.int .u8 0), .ro (.int .u8 0), .ro (.int .u8 0), .ro (.int .u8 0), .ro (.int .u8 0), .ro (.int .u8 0), .ro (.int .u8 0), .ro (.int .u8 0), .ro (.int .u8 0), .ro (.int .u8 0), .ro (.int .u8 0), .ro (.int .u8 0), .ro (.int .u8 0), .ro (.int .u8 0), .ro (.int .u8 0), .ro (.int .u8 0), .ro (.int .u8 0), .ro (.int .u8 0), .ro (.int .u8 0), .ro (.int .u8 0), .ro (.int .u8 0), .ro (.int .u8 0), .ro (.int .u8 0), .ro (.int .u8 0), .ro (.int .u8 0), .ro (.int .u8 0), .ro (.int .u8 0), .ro (.int .u8 0), .ro (.int .u8 0)] := by kernel_rfl
@[simp] theorem ty_size177 : sizeT Tryd.prog 177 = some 64 := by kernel_rfl
@[simp] theorem ty_agg177 : isAggT Tryd.prog 177 = true := by kernel_rfl
@[simp] theorem ty_bld177 : builderT Tryd.prog 177 = none := by kernel_rfl
@[simp] theorem ty_zero177 : zeroA Tryd.prog 177 = some [.ro (.int .u8 0), .ro (.int .u8 0), .ro (.int .u8 0), .ro (.int .u8 0), .ro (.int .u8 0), .ro (.int .u8 0), .ro (.int .u8 0), .ro (.int .u8 0), .ro (.int .u8 0), .ro (.int .u8 0), .ro (.int .u8 0), .ro (.int .u8 0), .ro (.int .u8 0), .ro (.int .u8 0), .ro (.int .u8 0), .ro (.int .u8 0), .ro (.int .u8 0), .ro (.int .u8 0), .ro (.int .u8 0), .ro (.int .u8 0), .ro (.int .u8 0), .ro (.int .u8 0), .ro (.int .u8 0), .ro (.int .u8 0), .ro (.int .u8 0), .ro (.int .u8 0), .ro (.int .u8 0), .ro (.int .u8 0), .ro (.int .u8 0), .ro (.int .u8 0), .ro (.int .u8 0), .ro (.int .u8 0), .ro (.int .u8 0), .ro (.int .u8 0), .ro (.int .u8 0), .ro (.int .u8 0), .ro (.int .u8 0), .ro (.int .u8 0), .ro (.int .u8 0), .ro (.int .u8 0), .ro (.int .u8 0), .ro (.int .u8 0), .ro (.int .u8 0), .ro (.int .u8 0), .ro (.int .u8 0), .ro (.int .u8 0), .ro (.int .u8 0), .ro (.int .u8 0), .ro (.int .u8 0), .ro (.int .u8 0), .ro (.int .u8 0), .ro (.int .u8 0), .ro (.int .u8 0), .ro (.int .u8 0), .ro (.int .u8 0), .ro (.int .u8 0), .ro (.int .u8 0), .ro (.int .u8 0), .ro (.int .u8 0), .ro (.int .u8 0), .ro (.int .u8 0), .ro (.int .u8 0), .ro (.int .u8 0), .ro (.int .u8 0)] := by kernel_rfl
@[simp] theorem ty_size178 : sizeT Tryd.prog 178 = some 256 := by kernel_rfl
@[simp] theorem ty_agg178 : isAggT Tryd.prog 178 = true := by kernel_rfl
@[simp] theorem ty_bld178 : builderT Tryd.prog 178 = none := by kernel_rfl
@[simp] theorem ty_zero178 : zeroA Tryd.prog 178 = some [.ro (.int .u8 0), .ro (.int .u8 0), .ro (.int .u8 0), .ro (.int .u8 0), .ro (.int .u8 0), .ro (.int .u8 0), .ro (.int .u8 0), .ro (.int .u8 0), .ro (.int .u8 0), .ro (.int .u8 0), .ro (.int .u8 0), .ro (.int .u8 0), .ro (.int .u8 0), .ro (.int .u8 0), .ro (.int .u8 0), .ro (.int .u8 0), .ro (.int .u8 0), .ro (.int .u8 0), .ro (.int .u8 0), .ro (.int .u8 0), .ro (.int .u8 0), .ro (.int .u8 0), .ro (.int .u8 0), .ro (.int .u8 0), .ro (.int .u8 0), .ro (.int .u8 0), .ro (.int .u8 0), .ro (.int .u8 0), .ro (.int .u8 0), .ro (.int .u8 0), .ro (.int .u8 0), .ro (.int .u8 0), .ro (.int .u8 0), .ro (.int .u8 0), .ro (.int .u8 0), .ro (.int .u8 0), .ro (.int .u8 0), .ro (.int .u8 0), .ro (.int .u8 0), .ro (.int .u8 0), .ro (.int .u8 0), .ro (.int .u8 0), .ro (.int .u8 0), .ro (.int .u8 0), .ro (.int .u8 0), .ro (.int .u8 0), .ro (.int .u8 0), .ro (.int .u8 0), .ro (.int .u8 0), .ro (.int .u8 0), .ro (.int .u8 0), .ro (.int .u8 0), .ro (.int .u8 0), .ro (.int .u8 0), .ro (.int .u8 0), .ro (.int .u8 0), .ro (.int .u8 0), .ro (.int .u8 0), .ro (.int .u8 0), .ro (.int .u8 0), .ro (.int .u8 0), .ro (.int .u8 0), .ro (.int .u8 0), .ro (.int .u8 0), .ro (.int .u8 0), .ro (.int .u8 0), .ro (.int .u8 0), .ro (.int .u8 0), .ro (.int .u8 0), .ro (.int .u8 0), .ro (.int .u8 0), .ro (.int .u8 0), .ro (.int .u8 0), .ro (.int .u8 0), .ro (.int .u8 0), .ro (.int .u8 0), .ro (.int .u8 0), .ro (.int .u8 0), .ro (.int .u8 0), .ro (.int .u8 0), .ro (.int .u8 0), .ro (.int .u8 0), .ro (.int .u8 0), .ro (.int .u8 0), .ro (.int .u8 0), .ro (.int .u8 0), .ro (.int .u8 0), .ro (.int .u8 0), .ro (.int .u8 0), .ro (.int .u8 0), .ro (.int .u8 0), .ro (.int .u8 0), .ro (.int .u8 0), .ro (.int .u8 0), .ro (.int .u8 0), .ro (.int .u8 0), .ro (.int .u8 0), .ro (.int .u8 0), .ro (.int .u8 0), .ro (.int .u8 0), .ro (.int .u8 0), .ro (.int .u8 0), .ro (.int .u8 0), .ro (.int .u8 0), .ro (.int .u8 0), .ro (.int .u8 0), .ro (.int .u8 0), .ro (.int .u8 0), .ro (.int .u8 0), .ro (.int .u8 0), .ro (.int .u8 0), .ro (.int .u8 0), .ro (.int .u8 0), .ro (.int .u8 0), .ro (.int .u8 0), .ro (.int .u8 0), .ro (.int .u8 0), .ro (.int .u8 0), .ro (.int .u8 0), .ro (.int .u8 0), .ro (.int .u8 0), .ro (.int .u8 0), .ro (.int .u8 0), .ro (.int .u8 0), .ro (.int .u8 0), .ro (.int .u8 0), .ro (.int .u8 0), .ro (.int .u8 0), .ro (.int .u8 0), .ro (.int .u8 0), .ro (.int .u8 0), .ro (.int .u8 0), .ro (.int .u8 0), .ro (.int .u8 0), .ro (.int .u8 0), .ro (.int .u8 0), .ro (.int .u8 0), .ro (.int .u8 0), .ro (.int .u8 0), .ro (.int .u8 0), .ro (.int .u8 0), .ro (.int .u8 0), .ro (.int .u8 0), .ro (.int .u8 0), .ro (.int .u8 0), .ro (.int .u8 0), .ro (.int .u8 0), .ro (.int .u8 0), .ro (.int .u8 0), .ro (.int .u8 0), .ro (.int .u8 0), .ro (.int .u8 0), .ro (.int .u8 0), .ro (.int .u8 0), .ro (.int .u8 0), .ro (.int .u8 0), .ro (.int .u8 0), .ro (.int .u8 0), .ro (.int .u8 0), .ro (.int .u8 0), .ro (.int .u8 0), .ro (.int .u8 0), .ro (.int .u8 0), .ro (.int .u8 0), .ro (.int .u8 0), .ro (.int .u8 0), .ro (.int .u8 0), .ro (.int .u8 0), .ro (.int .u8 0), .ro (.int .u8 0), .ro (.int .u8 0), .ro (.int .u8 0), .ro (.int .u8 0), .ro (.int .u8 0), .ro (.int .u8 0), .ro (.int .u8 0), .ro (.int .u8 0), .ro (.int .u8 0), .ro (.int .u8 0), .ro (.int .u8 0), .ro (.int .u8 0), .ro (.int .u8 0), .ro (.int .u8 0), .ro (.int .u8 0), .ro (.int .u8 0), .ro (.int .u8 0), .ro (.int .u8 0), .ro (.int .u8 0), .ro (.int .u8 0), .ro (.int .u8 0), .ro (.int .u8 0), .ro (.int .u8 0), .ro (.int .u8 0), .ro (.int .u8 0), .ro (.int .u8 0), .ro (.int .u8 0), .ro (.int .u8 0), .ro (.int .u8 0), .ro (.int .u8 0), .ro (.int .u8 0), .ro (.int .u8 0), .ro (.int .u8 0), .ro (.int .u8 0), .ro (.int .u8 0), .ro (.int .u8 0), .ro (.int .u8 0), .ro (.int .u8 0), .ro (.int .u8 0), .ro (.int .u8 0), .ro (.int .u8 0), .ro (.int .u8 0), .ro (.int .u8 0), .ro (.int .u8 0), .ro (.int .u8 0), .ro (.int .u8 0), .ro (.int .u8 0), .ro (.int .u8 0), .ro (.int .u8 0), .ro (.int .u8 0), .ro (.int .u8 0), .ro (.int .u8 0), .ro (.int .u8 0), .ro (.int .u8 0), .ro (.int .u8 0), .ro (.int .u8 0), .ro (.int .u8 0), .ro (.int .u8 0), .ro (.int .u8 0), .ro (.int .u8 0), .ro (.int .u8 0), .ro (.int .u8 0), .ro (.int .u8 0), .ro (.int .u8 0), .ro (.int .u8 0), .ro (.int .u8 0), .ro (.int .u8 0), .ro (.int .u8 0), .ro (.int .u8 0), .ro (.int .u8 0), .ro (.int .u8 0), .ro (.int .u8 0), .ro (.int .u8 0), .ro (.int .u8 0), .ro (.int .u8 0), .ro (.int .u8 0), .ro (.int .u8 0), .ro (.int .u8 0), .ro (.int .u8 0), .ro (.int .u8 0), .ro (.int .u8 0), .ro (.int .u8 0), .ro (.int .u8 0), .ro (.int .u8 0), .ro (.int .u8 0), .ro (.int .u8 0), .ro (.int .u8 0)] := by kernel_rfl
@[simp] theorem ty_size179 : sizeT Tryd.prog 179 = some 2 := by kernel_rfl
@[simp] theorem ty_agg179 : isAggT Tryd.prog 179 = true := by kernel_rfl
@[simp] theorem ty_bld179 : builderT Tryd.prog 179 = none := by kernel_rfl
@[simp] theorem ty_f179_0 : fieldAt Tryd.prog 179 0 = some (0, 5) := by kernel_rfl
@[simp] theorem ty_f179_1 : fieldAt Tryd.prog 179 1 = some (1, 5) := by kernel_rfl
@[simp] theorem ty_pl179 : placesOk Tryd.prog 179 = true := by kernel_rfl
@[simp] theorem ty_zero179 : zeroA Tryd.prog 179 = some [.ro (.int .u8 0), .ro (.int .u8 0)] := by kernel_rfl
@[simp] theorem ty_size180 : sizeT Tryd.prog 180 = some 2 := by kernel_rfl
@[simp] theorem ty_agg180 : isAggT Tryd.prog 180 = true := by kernel_rfl
@[simp] theorem ty_bld180 : builderT Tryd.prog 180 = none := by kernel_rfl
@[simp] theorem ty_f180_0 : fieldAt Tryd.prog 180 0 = some (0, 5) := by kernel_rfl
@[simp] theorem ty_f180_1 : fieldAt Tryd.prog 180 1 = some (1, 5) := by kernel_rfl
@[simp] theorem ty_pl180 : placesOk Tryd.prog 180 = true := by kernel_rfl
@[simp] theorem ty_zero180 : zeroA Tryd.prog 180 = some [.ro (.int .u8 0), .ro (.int .u8 0)] := by kernel_rfl
@[simp] theorem ty_size181 : sizeT Tryd.prog 181 = some 32 := by kernel_rfl
@[simp] theorem ty_agg181 : isAggT Tryd.prog 181 = true := by kernel_rfl
@[simp] theorem ty_bld181 : builderT Tryd.prog 181 = none := by kernel_rfl
@[simp] theorem ty_zero181 : zeroA Tryd.prog 181 = some [.ro (.int .u8 0), .ro (.int .u8 0), .ro (.int .u8 0), .ro (.int .u8 0), .ro (.int .u8 0), .ro (.int .u8 0), .ro (.int .u8 0), .ro (.int .u8 0), .ro (.int .u8 0), .ro (.int .u8 0), .ro (.int .u8 0), .ro (.int .u8 0), .ro (.int .u8 0), .ro (.int .u8 0), .ro (.int .u8 0), .ro (.int .u8 0), .ro (.int .u8 0), .ro (.int .u8 0), .ro (.int .u8 0), .ro (.int .u8 0), .ro (.int .u8 0), .ro (.int .u8 0), .ro (.int .u8 0), .ro (.int .u8 0), .ro (.int .u8 0), .ro (.int .u8 0), .ro (.int .u8 0), .ro (.int .u8 0), .ro (.int .u8 0), .ro (.int .u8 0), .ro (.int .u8 0), .ro (.int .u8 0)] := by kernel_rfl
@[simp] theorem ty_size182 : sizeT Tryd.prog 182 = some 4 := by kernel_rfl
@[simp] theorem ty_agg182 : isAggT Tryd.prog 182 = true := by kernel_rfl
@[simp] theorem ty_bld182 : builderT Tryd.prog 182 = none := by kernel_rfl
@[simp] theorem ty_f182_0 : fieldAt Tryd.prog 182 0 = some (0, 17) := by kernel_rfl
@[simp] theorem ty_f182_1 : fieldAt Tryd.prog 182 1 = some (1, 17) := by kernel_rfl
@[simp] theorem ty_f182_2 : fieldAt Tryd.prog 182 2 = some (2, 17) := by kernel_rfl
@[simp] theorem ty_f182_3 : fieldAt Tryd.prog 182 3 = some (3, 9) := by kernel_rfl
@[simp] theorem ty_pl182 : placesOk Tryd.prog 182 = true := by kernel_rfl
@[simp] theorem ty_zero182 : zeroA Tryd.prog 182 = some [.ro (.nilp), .ro (.nilp), .ro (.nilp), .ro (.str ⟨#[]⟩)] := by kernel_rfl
@[simp] theorem ty_size183 : sizeT Tryd.prog 183 = some 4 := by kernel_rfl
@[simp] theorem ty_agg183 : isAggT Tryd.prog 183 = true := by kernel_rfl
@[simp] theorem ty_bld183 : builderT Tryd.prog 183 = none := by kernel_rfl
@[simp] theorem ty_f183_0 : fieldAt Tryd.prog 183 0 = some (0, 17) := by kernel_rfl
@[simp] theorem ty_f183_1 : fieldAt Tryd.prog 183 1 = some (1, 17) := by kernel_rfl
@[simp] theorem ty_f183_2 : fieldAt Tryd.prog 183 2 = some (2, 17) := by kernel_rfl
@[simp] theorem ty_f183_3 : fieldAt Tryd.prog 183 3 = some (3, 9) := by kernel_rfl
@[simp] theorem ty_pl183 : placesOk Tryd.prog 183 = true := by kernel_rfl
@[simp] theorem ty_zero183 : zeroA Tryd.prog 183 = some [.ro (.nilp), .ro (.nilp), .ro (.nilp), .ro (.str ⟨#[]⟩)] := by kernel_rfl
@[simp] theorem ty_size184 : sizeT Tryd.prog 184 = some 0 := by kernel_rfl
@[simp] theorem ty_agg184 : isAggT Tryd.prog 184 = true := by kernel_rfl
@[simp] theorem ty_bld184 : builderT Tryd.prog 184 = none := by kernel_rfl
@[simp] theorem ty_zero184 : zeroA Tryd.prog 184 = some [] := by kernel_rfl
@[simp] theorem ty_size185 : sizeT Tryd.prog 185 = some 0 := by kernel_rfl
@[simp] theorem ty_agg185 : isAggT Tryd.prog 185 = true := by kernel_rfl
@[simp] theorem ty_bld185 : builderT Tryd.prog 185 = none := by kernel_rfl
@[simp] theorem ty_f185_0 : fieldAt Tryd.prog 185 0 = some (0, 184) := by kernel_rfl
@[simp] theorem ty_pl185 : placesOk Tryd.prog 185 = true := by kernel_rfl
@[simp] theorem ty_zero185 : zeroA Tryd.prog 185 = some [] := by kernel_rfl
@[simp] theorem ty_size186 : sizeT Tryd.prog 186 = some 0 := by kernel_rfl
@[simp] theorem ty_agg186 : isAggT Tryd.prog 186 = true := by kernel_rfl
@[simp] theorem ty_bld186 : builderT Tryd.prog 186 = none := by kernel_rfl
@[simp] theorem ty_f186_0 : fieldAt Tryd.prog 186 0 = some (0, 184) := by kernel_rfl
@[simp] theorem ty_pl186 : placesOk Tryd.prog 186 = true := by kernel_rfl
@[simp] theorem ty_zero186 : zeroA Tryd.prog 186 = some [] := by kernel_rfl
@[simp] theorem ty_size189 : sizeT Tryd.prog 189 = some 1 := by kernel_rfl
@[simp] theorem ty_agg189 : isAggT Tryd.prog 189 = false := by kernel_rfl
@[simp] theorem ty_bld189 : builderT Tryd.prog 189 = none := by kernel_rfl
@[simp] theorem ty_zero189 : zeroA Tryd.prog 189 = some [.ro (.int .u8 0)] := by kernel_rfl
@[simp] theorem ty_size191 : sizeT Tryd.prog 191 = some 1 := by kernel_rfl
@[simp] theorem ty_agg191 : isAggT Tryd.prog 191 = false := by kernel_rfl
@[simp] theorem ty_bld191 : builderT Tryd.prog 191 = none := by kernel_rfl
@[simp] theorem ty_zero191 : zeroA Tryd.prog 191 = some [.ro (.int .i32 0)] := by kernel_rfl
@[simp] theorem ty_size192 : sizeT Tryd.prog 192 = some 1 := by kernel_rfl
@[simp] theorem ty_agg192 : isAggT Tryd.prog 192 = false := by kernel_rfl
@[simp] theorem ty_bld192 : builderT Tryd.prog 192 = none := by kernel_rfl
@[simp] theorem ty_zero192 : zeroA Tryd.prog 192 = some [.ro (.int .i32 0)] := by kernel_rfl
@[simp] theorem ty_size193 : sizeT Tryd.prog 193 = some 11 := by kernel_rfl
@[simp] theorem ty_agg193 : isAggT Tryd.prog 193 = true := by kernel_rfl
@[simp] theorem ty_bld193 : builderT Tryd.prog 193 = none := by kernel_rfl
@[simp] theorem ty_f193_0 : fieldAt Tryd.prog 193 0 = some (0, 12) := by kernel_rfl
@[simp] theorem ty_f193_1 : fieldAt Tryd.prog 193 1 = some (1, 12) := by kernel_rfl
@[simp] theorem ty_f193_2 : fieldAt Tryd.prog 193 2 = some (2, 166) := by kernel_rfl
@[simp] theorem ty_f193_3 : fieldAt Tryd.prog 193 3 = some (3, 189) := by kernel_rfl
@[simp] theorem ty_f193_4 : fieldAt Tryd.prog 193 4 = some (4, 5) := by kernel_rfl
@[simp] theorem ty_f193_5 : fieldAt Tryd.prog 193 5 = some (5, 5) := by kernel_rfl
@[simp] theorem ty_f193_6 : fieldAt Tryd.prog 193 6 = some (6, 133) := by kernel_rfl
@[simp] theorem ty_f193_7 : fieldAt Tryd.prog 193 7 = some (7, 190) := by kernel_rfl
@[simp] theorem ty_f193_8 : fieldAt Tryd.prog 193 8 = some (8, 96) := by kernel_rfl
@[simp] theorem ty_f193_9 : fieldAt Tryd.prog 193 9 = some (9, 191) := by kernel_rfl
@[simp] theorem ty_f193_10 : fieldAt Tryd.prog 193 10 = some (10, 192) := by kernel_rfl
@[simp] theorem ty_pl193 : placesOk Tryd.prog 193 = true := by kernel_rfl
@[simp] theorem ty_zero193 : zeroA Tryd.prog 193 = some [.ro (.int .u64 0), .ro (.int .u64 0), .ro (.int .u32 0), .ro (.int .u8 0), .ro (.int .u8 0), .ro (.int .u8 0), .ro (.int .u8 0), .ro (.nilf), .ro (.nilp), .ro (.int .i32 0), .ro (.int .i32 0)] := by kernel_rfl
@[simp] theorem ty_size194 : sizeT Tryd.prog 194 = some 11 := by kernel_rfl
@[simp] theorem ty_agg194 : isAggT Tryd.prog 194 = true := by kernel_rfl
@[simp] theorem ty_bld194 : builderT Tryd.prog 194 = none := by kernel_rfl
@[simp] theorem ty_f194_0 : fieldAt Tryd.prog 194 0 = some (0, 12) := by kernel_rfl
@[simp] theorem ty_f194_1 : fieldAt Tryd.prog 194 1 = some (1, 12) := by kernel_rfl
@[simp] theorem ty_f194_2 : fieldAt Tryd.prog 194 2 = some (2, 166) := by kernel_rfl
@[simp] theorem ty_f194_3 : fieldAt Tryd.prog 194 3 = some (3, 189) := by kernel_rfl
@[simp] theorem ty_f194_4 : fieldAt Tryd.prog 194 4 = some (4, 5) := by kernel_rfl
@[simp] theorem ty_f194_5 : fieldAt Tryd.prog 194 5 = some (5, 5) := by kernel_rfl
@[simp] theorem ty_f194_6 : fieldAt Tryd.prog 194 6 = some (6, 133) := by kernel_rfl
@[simp] theorem ty_f194_7 : fieldAt Tryd.prog 194 7 = some (7, 190) := by kernel_rfl
@[simp] theorem ty_f194_8 : fieldAt Tryd.prog 194 8 = some (8, 96) := by kernel_rfl
@[simp] theorem ty_f194_9 : fieldAt Tryd.prog 194 9 = some (9, 191) := by kernel_rfl
@[simp] theorem ty_f194_10 : fieldAt Tryd.prog 194 10 = some (10, 192) := by kernel_rfl
@[simp] theorem ty_pl194 : placesOk Tryd.prog 194 = true := by kernel_rfl
@[simp] theorem ty_zero194 : zeroA Tryd.prog 194 = some [.ro (.int .u64 0), .ro (.int .u64 0), .ro (.int .u32 0), .ro (.int .u8 0), .ro (.int .u8 0), .ro (.int .u8 0), .ro (.int .u8 0), .ro (.nilf), .ro (.nilp), .ro (.int .i32 0), .ro (.int .i32 0)] := by kernel_rfl
@[simp] theorem ty_size197 : sizeT Tryd.prog 197 = some 2 := by kernel_rfl
@[simp] theorem ty_agg197 : isAggT Tryd.prog 197 = true := by kernel_rfl
@[simp] theorem ty_bld197 : builderT Tryd.prog 197 = none := by kernel_rfl
@[simp] theorem ty_f197_0 : fieldAt Tryd.prog 197 0 = some (0, 9) := by kernel_rfl
@[simp] theorem ty_f197_1 : fieldAt Tryd.prog 197 1 = some (1, 133) := by kernel_rfl
@[simp] theorem ty_pl197 : placesOk Tryd.prog 197 = true := by kernel_rfl
@[simp] theorem ty_zero197 : zeroA Tryd.prog 197 = some [.ro (.str ⟨#[]⟩), .ro (.int .u8 0)] := by kernel_rfl
@[simp] theorem ty_size198 : sizeT Tryd.prog 198 = some 2 := by kernel_rfl
@[simp] theorem ty_agg198 : isAggT Tryd.prog 198 = true := by kernel_rfl
@[simp] theorem ty_bld198 : builderT Tryd.prog 198 = none := by kernel_rfl
@[simp] theorem ty_f198_0 : fieldAt Tryd.prog 198 0 = some (0, 9) := by kernel_rfl
@[simp] theorem ty_f198_1 : fieldAt Tryd.prog 198 1 = some (1, 133) := by kernel_rfl
@[simp] theorem ty_pl198 : placesOk Tryd.prog 198 = true := by kernel_rfl
@[simp] theorem ty_zero198 : zeroA Tryd.prog 198 = some [.ro (.str ⟨#[]⟩), .ro (.int .u8 0)] := by kernel_rfl
@[simp] theorem ty_size199 : sizeT Tryd.prog 199 = some 1 := by kernel_rfl
@[simp] theorem ty_agg199 : isAggT Tryd.prog 199 = false := by kernel_rfl
@[simp] theorem ty_bld199 : builderT Tryd.prog 199 = none := by kernel_rfl
@[simp] theorem ty_zero199 : zeroA Tryd.prog 199 = some [.ro (.nilp)] := by kernel_rfl
@[simp] theorem ty_size201 : sizeT Tryd.prog 201 = some 1 := by kernel_rfl
@[simp] theorem ty_agg201 : isAggT Tryd.prog 201 = false := by kernel_rfl
@[simp] theorem ty_bld201 : builderT Tryd.prog 201 = none := by kernel_rfl
@[simp] theorem ty_zero201 : zeroA Tryd.prog 201 = some [.ro (.int .u16 0)] := by kernel_rfl
@[simp] theorem ty_size202 : sizeT Tryd.prog 202 = some 5 := by kernel_rfl
@[simp] theorem ty_agg202 : isAggT Tryd.prog 202 = true := by kernel_rfl
@[simp] theorem ty_bld202 : builderT Tryd.prog 202 = none := by kernel_rfl
@[simp] theorem ty_f202_0 : fieldAt Tryd.prog 202 0 = some (0, 191) := by kernel_rfl
@[simp] theorem ty_f202_1 : fieldAt Tryd.prog 202 1 = some (1, 201) := by kernel_rfl
@[simp] theorem ty_f202_2 : fieldAt Tryd.prog 202 2 = some (2, 201) := by kernel_rfl
@[simp] theorem ty_f202_3 : fieldAt Tryd.prog 202 3 = some (3, 166) := by kernel_rfl
@[simp] theorem ty_f202_4 : fieldAt Tryd.prog 202 4 = some (4, 166) := by kernel_rfl
@[simp] theorem ty_pl202 : placesOk Tryd.prog 202 = true := by kernel_rfl
@[simp] theorem ty_zero202 : zeroA Tryd.prog 202 = some [.ro (.int .i32 0), .ro (.int .u16 0), .ro (.int .u16 0), .ro (.int .u32 0), .ro (.int .u32 0)] := by kernel_rfl
@[simp] theorem ty_size203 : sizeT Tryd.prog 203 = some 5 := by kernel_rfl
@[simp] theorem ty_agg203 : isAggT Tryd.prog 203 = true := by kernel_rfl
@[simp] theorem ty_bld203 : builderT Tryd.prog 203 = none := by kernel_rfl
@[simp] theorem ty_f203_0 : fieldAt Tryd.prog 203 0 = some (0, 191) := by kernel_rfl
@[simp] theorem ty_f203_1 : fieldAt Tryd.prog 203 1 = some (1, 201) := by kernel_rfl
@[simp] theorem ty_f203_2 : fieldAt Tryd.prog 203 2 = some (2, 201) := by kernel_rfl
@[simp] theorem ty_f203_3 : fieldAt Tryd.prog 203 3 = some (3, 166) := by kernel_rfl
@[simp] theorem ty_f203_4 : fieldAt Tryd.prog 203 4 = some (4, 166) := by kernel_rfl
@[simp] theorem ty_pl203 : placesOk Tryd.prog 203 = true := by kernel_rfl
@[simp] theorem ty_zero203 : zeroA Tryd.prog 203 = some [.ro (.int .i32 0), .ro (.int .u16 0), .ro (.int .u16 0), .ro (.int .u32 0), .ro (.int .u32 0)] := by kernel_rfl
@[simp] theorem ty_size204 : sizeT Tryd.prog 204 = some 1 := by kernel_rfl
@[simp] theorem ty_agg204 : isAggT Tryd.prog 204 = false := by kernel_rfl
@[simp] theorem ty_bld204 : builderT Tryd.prog 204 = none := by kernel_rfl
@[simp] theorem ty_byte204 : byteT Tryd.prog 204 = none := by kernel_rfl
@[simp] theorem ty_z204 : zOf Tryd.prog 204 = some 4 := by kernel_rfl
@[simp] theorem ty_elem204 : elemT Tryd.prog 207 = some 4 := by kernel_rfl
@[simp] theorem ty_zd204 : zeroD Tryd.prog 207 = some (.agg [.int .i32 0, .int .i32 0, .int .i32 0, .int .i32 0]) := by kernel_rfl
@[simp] theorem ty_zero204 : zeroA Tryd.prog 204 = some [.own (.sl 4 [])] := by kernel_rfl
@[simp] theorem ty_size205 : sizeT Tryd.prog 205 = some 1 := by kernel_rfl
@[simp] theorem ty_agg205 : isAggT Tryd.prog 205 = false := by kernel_rfl
@[simp] theorem ty_bld205 : builderT Tryd.prog 205 = none := by kernel_rfl
@[simp] theorem ty_zero205 : zeroA Tryd.prog 205 = some [.ro (.int .i32 0)] := by kernel_rfl
@[simp] theorem ty_size206 : sizeT Tryd.prog 206 = some 4 := by kernel_rfl
@[simp] theorem ty_agg206 : isAggT Tryd.prog 206 = true := by kernel_rfl
@[simp] theorem ty_bld206 : builderT Tryd.prog 206 = none := by kernel_rfl
@[simp] theorem ty_f206_0 : fieldAt Tryd.prog 206 0 = some (0, 191) := by kernel_rfl
@[simp] theorem ty_f206_1 : fieldAt Tryd.prog 206 1 = some (1, 192) := by kernel_rfl
@[simp] theorem ty_f206_2 : fieldAt Tryd.prog 206 2 = some (2, 205) := by kernel_rfl
@[simp] theorem ty_f206_3 : fieldAt Tryd.prog 206 3 = some (3, 205) := by kernel_rfl
@[simp] theorem ty_pl206 : placesOk Tryd.prog 206 = true := by kernel_rfl
@[simp] theorem ty_zero206 : zeroA Tryd.prog 206 = some [.ro (.int .i32 0), .ro (.int .i32 0), .ro (.int .i32 0), .ro (.int .i32 0)] := by kernel_rfl
@[simp] theorem ty_size207 : sizeT Tryd.prog 207 = some 4 := by kernel_rfl
@[simp] theorem ty_agg207 : isAggT Tryd.prog 207 = true := by kernel_rfl
@[simp] theorem ty_bld207 : builderT Tryd.prog 207 = none := by kernel_rfl
@[simp] theorem ty_f207_0 : fieldAt Tryd.prog 207 0 = some (0, 191) := by kernel_rfl
@[simp] theorem ty_f207_1 : fieldAt Tryd.prog 207 1 = some (1, 192) := by kernel_rfl
@[simp] theorem ty_f207_2 : fieldAt Tryd.prog 207 2 = some (2, 205) := by kernel_rfl
@[simp] theorem ty_f207_3 : fieldAt Tryd.prog 207 3 = some (3, 205) := by kernel_rfl
@[simp] theorem ty_pl207 : placesOk Tryd.prog 207 = true := by kernel_rfl
@[simp] theorem ty_zero207 : zeroA Tryd.prog 207 = some [.ro (.int .i32 0), .ro (.int .i32 0), .ro (.int .i32 0), .ro (.int .i32 0)] := by kernel_rfl
@[simp] theorem ty_size208 : sizeT Tryd.prog 208 = some 1 := by kernel_rfl
@[simp] theorem ty_agg208 : isAggT Tryd.prog 208 = false := by kernel_rfl
@[simp] theorem ty_bld208 : builderT Tryd.prog 208 = none := by kernel_rfl
@[simp] theorem ty_zero208 : zeroA Tryd.prog 208 = some [.ro (.nilp)] := by kernel_rfl
attribute [simp] Tryd.underlying10
attribute [simp] Tryd.underlying101
attribute [simp] Tryd.underlying105
attribute [simp] Tryd.underlying106
attribute [simp] Tryd.underlying108
attribute [simp] Tryd.underlying11
attribute [simp] Tryd.underlying113
attribute [simp] Tryd.underlying119
attribute [simp] Tryd.underlying12
attribute [simp] Tryd.underlying126
attribute [simp] Tryd.underlying127
attribute [simp] Tryd.underlying128
attribute [simp] Tryd.underlying13
attribute [simp] Tryd.underlying130
attribute [simp] Tryd.underlying131
attribute [simp] Tryd.underlying133
attribute [simp] Tryd.underlying138
attribute [simp] Tryd.underlying14
attribute [simp] Tryd.underlying140
attribute [simp] Tryd.underlying141
attribute [simp] Tryd.underlying147
attribute [simp] Tryd.underlying149
attribute [simp] Tryd.underlying15
attribute [simp] Tryd.underlying150
attribute [simp] Tryd.underlying151
attribute [simp] Tryd.underlying155
attribute [simp] Tryd.underlying158
attribute [simp] Tryd.underlying16
attribute [simp] Tryd.underlying160
attribute [simp] Tryd.underlying161
attribute [simp] Tryd.underlying165
attribute [simp] Tryd.underlying166
attribute [simp] Tryd.underlying167
attribute [simp] Tryd.underlying17
attribute [simp] Tryd.underlying176
attribute [simp] Tryd.underlying177
attribute [simp] Tryd.underlying178
attribute [simp] Tryd.underlying179
attribute [simp] Tryd.underlying18
attribute [simp] Tryd.underlying180
attribute [simp] Tryd.underlying181
attribute [simp] Tryd.underlying182
attribute [simp] Tryd.underlying183
attribute [simp] Tryd.underlying184
attribute [simp] Tryd.underlying185
attribute [simp] Tryd.underlying186
attribute [simp] Tryd.underlying189
attribute [simp] Tryd.underlying19
attribute [simp] Tryd.underlying191
attribute [simp] Tryd.underlying192
attribute [simp] Tryd.underlying193
attribute [simp] Tryd.underlying194
attribute [simp] Tryd.underlying197
attribute [simp] Tryd.underlying198
attribute [simp] Tryd.underlying199
attribute [simp] Tryd.underlying2
attribute [simp] Tryd.underlying20
attribute [simp] Tryd.underlying201
attribute [simp] Tryd.underlying202
attribute [simp] Tryd.underlying203
attribute [simp] Tryd.underlying204
attribute [simp] Tryd.underlying205
attribute [simp] Tryd.underlying206
attribute [simp] Tryd.underlying207
attribute [simp] Tryd.underlying208
attribute [simp] Tryd.underlying21
attribute [simp] Tryd.underlying22
attribute [simp] Tryd.underlying25
attribute [simp] Tryd.underlying29
attribute [simp] Tryd.underlying3
attribute [simp] Tryd.underlying30
attribute [simp] Tryd.underlying36
attribute [simp] Tryd.underlying37
attribute [simp] Tryd.underlying38
attribute [simp] Tryd.underlying4
attribute [simp] Tryd.underlying48
attribute [simp] Tryd.underlying49
attribute [simp] Tryd.underlying5
attribute [simp] Tryd.underlying50
attribute [simp] Tryd.underlying52
attribute [simp] Tryd.underlying54
attribute [simp] Tryd.underlying55
attribute [simp] Tryd.underlying56
attribute [simp] Tryd.underlying57
attribute [simp] Tryd.underlying58
attribute [simp] Tryd.underlying6
attribute [simp] Tryd.underlying64
attribute [simp] Tryd.underlying7
attribute [simp] Tryd.underlying72
attribute [simp] Tryd.underlying73
attribute [simp] Tryd.underlying8
attribute [simp] Tryd.underlying80
attribute [simp] Tryd.underlying83
attribute [simp] Tryd.underlying84
attribute [simp] Tryd.underlying85
attribute [simp] Tryd.underlying86
attribute [simp] Tryd.underlying9
attribute [simp] Tryd.underlying96
attribute [simp] Tryd.underlying98
attribute [simp] Tryd.underlying99
end Go.Qz

/- The functions of the program in short (printed by a program of ours). -/
namespace Go.Qz
open Go.Proofs
/-! 8 w_FnExactHunksGet -/
abbrev fn_w_FnExactHunksGet : FuncId := 8
def q_w_FnExactHunksGet_c0 : QCode := .seq (.ops [⟨some 2, .assign (.const (.bool true)), 4, none⟩]) (.ret)
@[simp] theorem q_w_FnExactHunksGet_c0_run (c : Ctx) (e : Env) (ks : List Fr) : Run c q_w_FnExactHunksGet_c0 e ks = Run c (.seq (.ops [⟨some 2, .assign (.const (.bool true)), 4, none⟩]) (.ret)) e ks := (rfl)
def q_w_FnExactHunksGet_c1 : QCode := .seq (.seq (.ops [⟨some 63, .move (.tmp 8), 3, none⟩, ⟨some 64, .move (.tmp 7), 3, none⟩, ⟨some 65, .binOp .neq 3 (.tmp 63) (.tmp 64) 3, 4, none⟩]) (.cond (.tmp 65) (.seq (.ops [⟨some 2, .assign (.const (.bool false)), 4, none⟩]) (.ret)) (.skip))) (q_w_FnExactHunksGet_c0)
@[simp] theorem q_w_FnExactHunksGet_c1_run (c : Ctx) (e : Env) (ks : List Fr) : Run c q_w_FnExactHunksGet_c1 e ks = Run c (.seq (.seq (.ops [⟨some 63, .move (.tmp 8), 3, none⟩, ⟨some 64, .move (.tmp 7), 3, none⟩, ⟨some 65, .binOp .neq 3 (.tmp 63) (.tmp 64) 3, 4, none⟩]) (.cond (.tmp 65) (.seq (.ops [⟨some 2, .assign (.const (.bool false)), 4, none⟩]) (.ret)) (.skip))) (q_w_FnExactHunksGet_c0)) e ks := (rfl)
def q_w_FnExactHunksGet_c2 : QCode := .seq (.ops [⟨some 8, .assign (.const (.int .i64 1)), 3, none⟩]) (.seq (.ops [⟨some 58, .move (.tmp 5), 25, none⟩, ⟨some 59, .move (.tmp 8), 3, none⟩, ⟨some 60, .call { callee := .value (.func 23), args := #[.tmp 58, .tmp 59], argTypes := #[25, 3] }, 3, none⟩, ⟨some 8, .assign (.tmp 60), 3, none⟩]) (.seq (.seq (.ops [⟨some 61, .move (.tmp 8), 3, none⟩, ⟨some 62, .binOp .lss 3 (.tmp 61) (.const (.int .i64 0)) 3, 4, none⟩]) (.cond (.tmp 62) (.seq (.ops [⟨some 2, .assign (.const (.bool false)), 4, none⟩]) (.ret)) (.skip))) (q_w_FnExactHunksGet_c1)))
@[simp] theorem q_w_FnExactHunksGet_c2_run (c : Ctx) (e : Env) (ks : List Fr) : Run c q_w_FnExactHunksGet_c2 e ks = Run c (.seq (.ops [⟨some 8, .assign (.const (.int .i64 1)), 3, none⟩]) (.seq (.ops [⟨some 58, .move (.tmp 5), 25, none⟩, ⟨some 59, .move (.tmp 8), 3, none⟩, ⟨some 60, .call { callee := .value (.func 23), args := #[.tmp 58, .tmp 59], argTypes := #[25, 3] }, 3, none⟩, ⟨some 8, .assign (.tmp 60), 3, none⟩]) (.seq (.seq (.ops [⟨some 61, .move (.tmp 8), 3, none⟩, ⟨some 62, .binOp .lss 3 (.tmp 61) (.const (.int .i64 0)) 3, 4, none⟩]) (.cond (.tmp 62) (.seq (.ops [⟨some 2, .assign (.const (.bool false)), 4, none⟩]) (.ret)) (.skip))) (q_w_FnExactHunksGet_c1)))) e ks := (rfl)
def q_w_FnExactHunksGet_c3 : QCode := .seq (.ops [⟨some 45, .move (.tmp 0), 9, none⟩, ⟨some 46, .call { callee := .value (.func 21), args := #[.tmp 45], argTypes := #[9] }, 43, none⟩, ⟨some 44, .move (.tmp 46), 43, none⟩, ⟨some 47, .extract (.tmp 44) 0, 25, none⟩, ⟨some 48, .extract (.tmp 44) 1, 4, none⟩, ⟨some 9, .assign (.tmp 47), 25, none⟩, ⟨some 10, .assign (.tmp 48), 4, none⟩]) (.seq (.seq (.ops [⟨some 49, .move (.tmp 9), 25, none⟩, ⟨some 50, .move (.tmp 3), 25, none⟩, ⟨some 51, .call { callee := .value (.func 13), args := #[.tmp 49, .tmp 50], argTypes := #[25, 25] }, 4, none⟩, ⟨some 52, .unOp .not 4 (.tmp 51), 4, none⟩, ⟨some 53, .move (.tmp 52), 4, none⟩, ⟨some 54, .move (.tmp 10), 4, some (53, false)⟩, ⟨some 55, .move (.tmp 4), 4, some (53, false)⟩, ⟨some 56, .binOp .neq 4 (.tmp 54) (.tmp 55) 4, 4, some (53, false)⟩, ⟨some 57, .pick (.tmp 53) (.const (.bool true)) (.tmp 56), 4, none⟩]) (.cond (.tmp 57) (.seq (.ops [⟨some 2, .assign (.const (.bool false)), 4, none⟩]) (.ret)) (.skip))) (q_w_FnExactHunksGet_c2))
@[simp] theorem q_w_FnExactHunksGet_c3_run (c : Ctx) (e : Env) (ks : List Fr) : Run c q_w_FnExactHunksGet_c3 e ks = Run c (.seq (.ops [⟨some 45, .move (.tmp 0), 9, none⟩, ⟨some 46, .call { callee := .value (.func 21), args := #[.tmp 45], argTypes := #[9] }, 43, none⟩, ⟨some 44, .move (.tmp 46), 43, none⟩, ⟨some 47, .extract (.tmp 44) 0, 25, none⟩, ⟨some 48, .extract (.tmp 44) 1, 4, none⟩, ⟨some 9, .assign (.tmp 47), 25, none⟩, ⟨some 10, .assign (.tmp 48), 4, none⟩]) (.seq (.seq (.ops [⟨some 49, .move (.tmp 9), 25, none⟩, ⟨some 50, .move (.tmp 3), 25, none⟩, ⟨some 51, .call { callee := .value (.func 13), args := #[.tmp 49, .tmp 50], argTypes := #[25, 25] }, 4, none⟩, ⟨some 52, .unOp .not 4 (.tmp 51), 4, none⟩, ⟨some 53, .move (.tmp 52), 4, none⟩, ⟨some 54, .move (.tmp 10), 4, some (53, false)⟩, ⟨some 55, .move (.tmp 4), 4, some (53, false)⟩, ⟨some 56, .binOp .neq 4 (.tmp 54) (.tmp 55) 4, 4, some (53, false)⟩, ⟨some 57, .pick (.tmp 53) (.const (.bool true)) (.tmp 56), 4, none⟩]) (.cond (.tmp 57) (.seq (.ops [⟨some 2, .assign (.const (.bool false)), 4, none⟩]) (.ret)) (.skip))) (q_w_FnExactHunksGet_c2))) e ks := (rfl)
def q_w_FnExactHunksGet_c4 : QCode := .seq (.seq (.ops [⟨some 41, .move (.tmp 8), 3, none⟩, ⟨some 42, .move (.tmp 7), 3, none⟩, ⟨some 43, .binOp .neq 3 (.tmp 41) (.tmp 42) 3, 4, none⟩]) (.cond (.tmp 43) (.seq (.ops [⟨some 2, .assign (.const (.bool false)), 4, none⟩]) (.ret)) (.skip))) (q_w_FnExactHunksGet_c3)
@[simp] theorem q_w_FnExactHunksGet_c4_run (c : Ctx) (e : Env) (ks : List Fr) : Run c q_w_FnExactHunksGet_c4 e ks = Run c (.seq (.seq (.ops [⟨some 41, .move (.tmp 8), 3, none⟩, ⟨some 42, .move (.tmp 7), 3, none⟩, ⟨some 43, .binOp .neq 3 (.tmp 41) (.tmp 42) 3, 4, none⟩]) (.cond (.tmp 43) (.seq (.ops [⟨some 2, .assign (.const (.bool false)), 4, none⟩]) (.ret)) (.skip))) (q_w_FnExactHunksGet_c3)) e ks := (rfl)
def q_w_FnExactHunksGet_c5 : QCode := .seq (.ops [⟨some 7, .assign (.const (.int .i64 1)), 3, none⟩]) (.seq (.ops [⟨some 33, .move (.tmp 5), 25, none⟩, ⟨some 34, .move (.tmp 7), 3, none⟩, ⟨some 35, .call { callee := .value (.func 22), args := #[.tmp 33, .tmp 34], argTypes := #[25, 3] }, 3, none⟩, ⟨some 7, .assign (.tmp 35), 3, none⟩]) (.seq (.ops [⟨some 8, .assign (.const (.int .i64 1)), 3, none⟩]) (.seq (.ops [⟨some 36, .move (.tmp 5), 25, none⟩, ⟨some 37, .move (.tmp 8), 3, none⟩, ⟨some 38, .call { callee := .value (.func 23), args := #[.tmp 36, .tmp 37], argTypes := #[25, 3] }, 3, none⟩, ⟨some 8, .assign (.tmp 38), 3, none⟩]) (.seq (.seq (.ops [⟨some 39, .move (.tmp 8), 3, none⟩, ⟨some 40, .binOp .lss 3 (.tmp 39) (.const (.int .i64 0)) 3, 4, none⟩]) (.cond (.tmp 40) (.seq (.ops [⟨some 2, .assign (.const (.bool false)), 4, none⟩]) (.ret)) (.skip))) (q_w_FnExactHunksGet_c4)))))
@[simp] theorem q_w_FnExactHunksGet_c5_run (c : Ctx) (e : Env) (ks : List Fr) : Run c q_w_FnExactHunksGet_c5 e ks = Run c (.seq (.ops [⟨some 7, .assign (.const (.int .i64 1)), 3, none⟩]) (.seq (.ops [⟨some 33, .move (.tmp 5), 25, none⟩, ⟨some 34, .move (.tmp 7), 3, none⟩, ⟨some 35, .call { callee := .value (.func 22), args := #[.tmp 33, .tmp 34], argTypes := #[25, 3] }, 3, none⟩, ⟨some 7, .assign (.tmp 35), 3, none⟩]) (.seq (.ops [⟨some 8, .assign (.const (.int .i64 1)), 3, none⟩]) (.seq (.ops [⟨some 36, .move (.tmp 5), 25, none⟩, ⟨some 37, .move (.tmp 8), 3, none⟩, ⟨some 38, .call { callee := .value (.func 23), args := #[.tmp 36, .tmp 37], argTypes := #[25, 3] }, 3, none⟩, ⟨some 8, .assign (.tmp 38), 3, none⟩]) (.seq (.seq (.ops [⟨some 39, .move (.tmp 8), 3, none⟩, ⟨some 40, .binOp .lss 3 (.tmp 39) (.const (.int .i64 0)) 3, 4, none⟩]) (.cond (.tmp 40) (.seq (.ops [⟨some 2, .assign (.const (.bool false)), 4, none⟩]) (.ret)) (.skip))) (q_w_FnExactHunksGet_c4)))))) e ks := (rfl)
def q_w_FnExactHunksGet_c6 : QCode := .seq (.ops [⟨some 15, .move (.tmp 0), 9, none⟩, ⟨some 16, .call { callee := .value (.func 20), args := #[.tmp 15], argTypes := #[9] }, 43, none⟩, ⟨some 14, .move (.tmp 16), 43, none⟩, ⟨some 17, .extract (.tmp 14) 0, 25, none⟩, ⟨some 18, .extract (.tmp 14) 1, 4, none⟩, ⟨some 3, .assign (.tmp 17), 25, none⟩, ⟨some 4, .assign (.tmp 18), 4, none⟩]) (.seq (.ops [⟨some 20, .move (.tmp 0), 9, none⟩, ⟨some 21, .call { callee := .value (.func 21), args := #[.tmp 20], argTypes := #[9] }, 43, none⟩, ⟨some 19, .move (.tmp 21), 43, none⟩, ⟨some 22, .extract (.tmp 19) 0, 25, none⟩, ⟨some 23, .extract (.tmp 19) 1, 4, none⟩, ⟨some 5, .assign (.tmp 22), 25, none⟩, ⟨some 6, .assign (.tmp 23), 4, none⟩]) (.seq (.seq (.ops [⟨some 24, .move (.tmp 5), 25, none⟩, ⟨some 25, .move (.tmp 3), 25, none⟩, ⟨some 26, .call { callee := .value (.func 13), args := #[.tmp 24, .tmp 25], argTypes := #[25, 25] }, 4, none⟩, ⟨some 27, .unOp .not 4 (.tmp 26), 4, none⟩, ⟨some 28, .move (.tmp 27), 4, none⟩, ⟨some 29, .move (.tmp 6), 4, some (28, false)⟩, ⟨some 30, .move (.tmp 4), 4, some (28, false)⟩, ⟨some 31, .binOp .neq 4 (.tmp 29) (.tmp 30) 4, 4, some (28, false)⟩, ⟨some 32, .pick (.tmp 28) (.const (.bool true)) (.tmp 31), 4, none⟩]) (.cond (.tmp 32) (.seq (.ops [⟨some 2, .assign (.const (.bool false)), 4, none⟩]) (.ret)) (.skip))) (q_w_FnExactHunksGet_c5)))
@[simp] theorem q_w_FnExactHunksGet_c6_run (c : Ctx) (e : Env) (ks : List Fr) : Run c q_w_FnExactHunksGet_c6 e ks = Run c (.seq (.ops [⟨some 15, .move (.tmp 0), 9, none⟩, ⟨some 16, .call { callee := .value (.func 20), args := #[.tmp 15], argTypes := #[9] }, 43, none⟩, ⟨some 14, .move (.tmp 16), 43, none⟩, ⟨some 17, .extract (.tmp 14) 0, 25, none⟩, ⟨some 18, .extract (.tmp 14) 1, 4, none⟩, ⟨some 3, .assign (.tmp 17), 25, none⟩, ⟨some 4, .assign (.tmp 18), 4, none⟩]) (.seq (.ops [⟨some 20, .move (.tmp 0), 9, none⟩, ⟨some 21, .call { callee := .value (.func 21), args := #[.tmp 20], argTypes := #[9] }, 43, none⟩, ⟨some 19, .move (.tmp 21), 43, none⟩, ⟨some 22, .extract (.tmp 19) 0, 25, none⟩, ⟨some 23, .extract (.tmp 19) 1, 4, none⟩, ⟨some 5, .assign (.tmp 22), 25, none⟩, ⟨some 6, .assign (.tmp 23), 4, none⟩]) (.seq (.seq (.ops [⟨some 24, .move (.tmp 5), 25, none⟩, ⟨some 25, .move (.tmp 3), 25, none⟩, ⟨some 26, .call { callee := .value (.func 13), args := #[.tmp 24, .tmp 25], argTypes := #[25, 25] }, 4, none⟩, ⟨some 27, .unOp .not 4 (.tmp 26), 4, none⟩, ⟨some 28, .move (.tmp 27), 4, none⟩, ⟨some 29, .move (.tmp 6), 4, some (28, false)⟩, ⟨some 30, .move (.tmp 4), 4, some (28, false)⟩, ⟨some 31, .binOp .neq 4 (.tmp 29) (.tmp 30) 4, 4, some (28, false)⟩, ⟨some 32, .pick (.tmp 28) (.const (.bool true)) (.tmp 31), 4, none⟩]) (.cond (.tmp 32) (.seq (.ops [⟨some 2, .assign (.const (.bool false)), 4, none⟩]) (.ret)) (.skip))) (q_w_FnExactHunksGet_c5)))) e ks := (rfl)
@[simp] def q_w_FnExactHunksGet : QFn := ⟨66, [(.tmp 2, 4)], .seq (.ops [⟨some 2, .assign (.const (.bool false)), 4, none⟩]) (.seq (.seq (.ops [⟨some 11, .move (.tmp 0), 9, none⟩, ⟨some 12, .call { callee := .builtin .len, args := #[.tmp 11], argTypes := #[9] }, 3, none⟩, ⟨some 13, .binOp .gtr 3 (.tmp 12) (.const (.int .i64 1048576)) 3, 4, none⟩]) (.cond (.tmp 13) (.seq (.ops [⟨some 2, .assign (.const (.bool true)), 4, none⟩]) (.ret)) (.skip))) (q_w_FnExactHunksGet_c6))⟩
theorem conv_w_FnExactHunksGet : convF Tryd.f8 = some q_w_FnExactHunksGet := by kernel_rfl
/-! 9 w_szHunkS -/
abbrev fn_w_szHunkS : FuncId := 9
def q_w_szHunkS_c0 : QCode := .ops [⟨some 16, .move (.tmp 5), 3, none⟩, ⟨some 17, .binOp .add 3 (.tmp 16) (.const (.int .i64 1)) 3, 3, none⟩, ⟨some 5, .assign (.tmp 17), 3, none⟩]
@[simp] theorem q_w_szHunkS_c0_run (c : Ctx) (e : Env) (ks : List Fr) : Run c q_w_szHunkS_c0 e ks = Run c (.ops [⟨some 16, .move (.tmp 5), 3, none⟩, ⟨some 17, .binOp .add 3 (.tmp 16) (.const (.int .i64 1)) 3, 3, none⟩, ⟨some 5, .assign (.tmp 17), 3, none⟩]) e ks := (rfl)
def q_w_szHunkS_c1 : QCode := .seq (.block 1 (.seq (.ops [⟨some 18, .move (.tmp 0), 22, none⟩, ⟨some 19, .move (.tmp 5), 3, none⟩, ⟨some 20, .indexAddr 22 (.tmp 18) (.tmp 19), 0, none⟩, ⟨some 21, .load 50 (.tmp 20), 50, none⟩, ⟨some 22, .move (.tmp 1), 3, none⟩, ⟨some 23, .call { callee := .value (.func 24), args := #[.tmp 21, .tmp 22], argTypes := #[50, 3] }, 3, none⟩, ⟨some 1, .assign (.tmp 23), 3, none⟩]) (.seq (.ops [⟨some 24, .move (.tmp 1), 3, none⟩, ⟨some 25, .binOp .lss 3 (.tmp 24) (.const (.int .i64 0)) 3, 4, none⟩]) (.cond (.tmp 25) (.seq (.ops [⟨some 4, .assign (.const (.int .i64 (-1))), 3, none⟩]) (.ret)) (.skip))))) (q_w_szHunkS_c0)
@[simp] theorem q_w_szHunkS_c1_run (c : Ctx) (e : Env) (ks : List Fr) : Run c q_w_szHunkS_c1 e ks = Run c (.seq (.block 1 (.seq (.ops [⟨some 18, .move (.tmp 0), 22, none⟩, ⟨some 19, .move (.tmp 5), 3, none⟩, ⟨some 20, .indexAddr 22 (.tmp 18) (.tmp 19), 0, none⟩, ⟨some 21, .load 50 (.tmp 20), 50, none⟩, ⟨some 22, .move (.tmp 1), 3, none⟩, ⟨some 23, .call { callee := .value (.func 24), args := #[.tmp 21, .tmp 22], argTypes := #[50, 3] }, 3, none⟩, ⟨some 1, .assign (.tmp 23), 3, none⟩]) (.seq (.ops [⟨some 24, .move (.tmp 1), 3, none⟩, ⟨some 25, .binOp .lss 3 (.tmp 24) (.const (.int .i64 0)) 3, 4, none⟩]) (.cond (.tmp 25) (.seq (.ops [⟨some 4, .assign (.const (.int .i64 (-1))), 3, none⟩]) (.ret)) (.skip))))) (q_w_szHunkS_c0)) e ks := (rfl)
def q_w_szHunkS_l0 : QCode := .seq (.seq (.ops [⟨some 12, .move (.tmp 5), 3, none⟩, ⟨some 13, .move (.tmp 0), 22, none⟩, ⟨some 14, .call { callee := .builtin .len, args := #[.tmp 13], argTypes := #[22] }, 3, none⟩, ⟨some 15, .binOp .lss 3 (.tmp 12) (.tmp 14) 3, 4, none⟩]) (.cond (.tmp 15) (.skip) (.exit 0))) (q_w_szHunkS_c1)
@[simp] theorem q_w_szHunkS_l0_run (c : Ctx) (e : Env) (ks : List Fr) : Run c q_w_szHunkS_l0 e ks = Run c (.seq (.seq (.ops [⟨some 12, .move (.tmp 5), 3, none⟩, ⟨some 13, .move (.tmp 0), 22, none⟩, ⟨some 14, .call { callee := .builtin .len, args := #[.tmp 13], argTypes := #[22] }, 3, none⟩, ⟨some 15, .binOp .lss 3 (.tmp 12) (.tmp 14) 3, 4, none⟩]) (.cond (.tmp 15) (.skip) (.exit 0))) (q_w_szHunkS_c1)) e ks := (rfl)
def q_w_szHunkS_c2 : QCode := .seq (.ops [⟨some 26, .move (.tmp 1), 3, none⟩, ⟨some 4, .assign (.tmp 26), 3, none⟩]) (.ret)
@[simp] theorem q_w_szHunkS_c2_run (c : Ctx) (e : Env) (ks : List Fr) : Run c q_w_szHunkS_c2 e ks = Run c (.seq (.ops [⟨some 26, .move (.tmp 1), 3, none⟩, ⟨some 4, .assign (.tmp 26), 3, none⟩]) (.ret)) e ks := (rfl)
def q_w_szHunkS_c3 : QCode := .seq (.seq (.ops [⟨some 5, .assign (.const (.int .i64 0)), 3, none⟩]) (.block 0 (.loop q_w_szHunkS_l0))) (q_w_szHunkS_c2)
@[simp] theorem q_w_szHunkS_c3_run (c : Ctx) (e : Env) (ks : List Fr) : Run c q_w_szHunkS_c3 e ks = Run c (.seq (.seq (.ops [⟨some 5, .assign (.const (.int .i64 0)), 3, none⟩]) (.block 0 (.loop q_w_szHunkS_l0))) (q_w_szHunkS_c2)) e ks := (rfl)
@[simp] def q_w_szHunkS : QFn := ⟨27, [(.tmp 4, 3)], .seq (.ops [⟨some 4, .assign (.const (.int .i64 0)), 3, none⟩]) (.seq (.ops [⟨some 6, .move (.tmp 1), 3, none⟩, ⟨some 7, .move (.tmp 0), 22, none⟩, ⟨some 8, .call { callee := .builtin .len, args := #[.tmp 7], argTypes := #[22] }, 3, none⟩, ⟨some 9, .binOp .sub 3 (.tmp 6) (.tmp 8) 3, 3, none⟩, ⟨some 1, .assign (.tmp 9), 3, none⟩]) (.seq (.seq (.ops [⟨some 10, .move (.tmp 1), 3, none⟩, ⟨some 11, .binOp .lss 3 (.tmp 10) (.const (.int .i64 0)) 3, 4, none⟩]) (.cond (.tmp 11) (.seq (.ops [⟨some 4, .assign (.const (.int .i64 (-1))), 3, none⟩]) (.ret)) (.skip))) (q_w_szHunkS_c3)))⟩
theorem conv_w_szHunkS : convF Tryd.f9 = some q_w_szHunkS := by kernel_rfl
/-! 11 w_toHunkS -/
abbrev fn_w_toHunkS : FuncId := 11
def q_w_toHunkS_c0 : QCode := .ops [⟨some 12, .move (.tmp 4), 3, none⟩, ⟨some 13, .binOp .add 3 (.tmp 12) (.const (.int .i64 1)) 3, 3, none⟩, ⟨some 4, .assign (.tmp 13), 3, none⟩]
@[simp] theorem q_w_toHunkS_c0_run (c : Ctx) (e : Env) (ks : List Fr) : Run c q_w_toHunkS_c0 e ks = Run c (.ops [⟨some 12, .move (.tmp 4), 3, none⟩, ⟨some 13, .binOp .add 3 (.tmp 12) (.const (.int .i64 1)) 3, 3, none⟩, ⟨some 4, .assign (.tmp 13), 3, none⟩]) e ks := (rfl)
def q_w_toHunkS_c1 : QCode := .seq (.block 1 (.ops [⟨some 14, .move (.tmp 3), 25, none⟩, ⟨some 15, .move (.tmp 4), 3, none⟩, ⟨some 16, .move (.tmp 0), 22, none⟩, ⟨some 17, .move (.tmp 4), 3, none⟩, ⟨some 18, .indexAddr 22 (.tmp 16) (.tmp 17), 0, none⟩, ⟨some 19, .load 50 (.tmp 18), 50, none⟩, ⟨some 20, .call { callee := .value (.func 27), args := #[.tmp 19], argTypes := #[50] }, 52, none⟩, ⟨some 21, .indexAddr 25 (.tmp 14) (.tmp 15), 0, none⟩, ⟨none, .store 52 (.tmp 21) (.tmp 20), 0, none⟩])) (q_w_toHunkS_c0)
@[simp] theorem q_w_toHunkS_c1_run (c : Ctx) (e : Env) (ks : List Fr) : Run c q_w_toHunkS_c1 e ks = Run c (.seq (.block 1 (.ops [⟨some 14, .move (.tmp 3), 25, none⟩, ⟨some 15, .move (.tmp 4), 3, none⟩, ⟨some 16, .move (.tmp 0), 22, none⟩, ⟨some 17, .move (.tmp 4), 3, none⟩, ⟨some 18, .indexAddr 22 (.tmp 16) (.tmp 17), 0, none⟩, ⟨some 19, .load 50 (.tmp 18), 50, none⟩, ⟨some 20, .call { callee := .value (.func 27), args := #[.tmp 19], argTypes := #[50] }, 52, none⟩, ⟨some 21, .indexAddr 25 (.tmp 14) (.tmp 15), 0, none⟩, ⟨none, .store 52 (.tmp 21) (.tmp 20), 0, none⟩])) (q_w_toHunkS_c0)) e ks := (rfl)
def q_w_toHunkS_l0 : QCode := .seq (.seq (.ops [⟨some 8, .move (.tmp 4), 3, none⟩, ⟨some 9, .move (.tmp 0), 22, none⟩, ⟨some 10, .call { callee := .builtin .len, args := #[.tmp 9], argTypes := #[22] }, 3, none⟩, ⟨some 11, .binOp .lss 3 (.tmp 8) (.tmp 10) 3, 4, none⟩]) (.cond (.tmp 11) (.skip) (.exit 0))) (q_w_toHunkS_c1)
@[simp] theorem q_w_toHunkS_l0_run (c : Ctx) (e : Env) (ks : List Fr) : Run c q_w_toHunkS_l0 e ks = Run c (.seq (.seq (.ops [⟨some 8, .move (.tmp 4), 3, none⟩, ⟨some 9, .move (.tmp 0), 22, none⟩, ⟨some 10, .call { callee := .builtin .len, args := #[.tmp 9], argTypes := #[22] }, 3, none⟩, ⟨some 11, .binOp .lss 3 (.tmp 8) (.tmp 10) 3, 4, none⟩]) (.cond (.tmp 11) (.skip) (.exit 0))) (q_w_toHunkS_c1)) e ks := (rfl)
def q_w_toHunkS_c2 : QCode := .seq (.ops [⟨some 22, .move (.tmp 3), 25, none⟩, ⟨some 2, .assign (.tmp 22), 25, none⟩]) (.ret)
@[simp] theorem q_w_toHunkS_c2_run (c : Ctx) (e : Env) (ks : List Fr) : Run c q_w_toHunkS_c2 e ks = Run c (.seq (.ops [⟨some 22, .move (.tmp 3), 25, none⟩, ⟨some 2, .assign (.tmp 22), 25, none⟩]) (.ret)) e ks := (rfl)
@[simp] def q_w_toHunkS : QFn := ⟨23, [(.tmp 2, 25)], .seq (.ops [⟨some 2, .assign (.const (.slice none 0 0)), 25, none⟩]) (.seq (.ops [⟨some 5, .move (.tmp 0), 22, none⟩, ⟨some 6, .call { callee := .builtin .len, args := #[.tmp 5], argTypes := #[22] }, 3, none⟩, ⟨some 7, .makeSlice 25 (.tmp 6) (.tmp 6), 25, none⟩, ⟨some 3, .assign (.tmp 7), 25, none⟩]) (.seq (.seq (.ops [⟨some 4, .assign (.const (.int .i64 0)), 3, none⟩]) (.block 0 (.loop q_w_toHunkS_l0))) (q_w_toHunkS_c2)))⟩
theorem conv_w_toHunkS : convF Tryd.f11 = some q_w_toHunkS := by kernel_rfl
/-! 13 w_eqHunkS -/
abbrev fn_w_eqHunkS : FuncId := 13
def q_w_eqHunkS_c0 : QCode := .ops [⟨some 15, .move (.tmp 5), 3, none⟩, ⟨some 16, .binOp .add 3 (.tmp 15) (.const (.int .i64 1)) 3, 3, none⟩, ⟨some 5, .assign (.tmp 16), 3, none⟩]
@[simp] theorem q_w_eqHunkS_c0_run (c : Ctx) (e : Env) (ks : List Fr) : Run c q_w_eqHunkS_c0 e ks = Run c (.ops [⟨some 15, .move (.tmp 5), 3, none⟩, ⟨some 16, .binOp .add 3 (.tmp 15) (.const (.int .i64 1)) 3, 3, none⟩, ⟨some 5, .assign (.tmp 16), 3, none⟩]) e ks := (rfl)
def q_w_eqHunkS_c1 : QCode := .seq (.block 1 (.seq (.draw [⟨some 17, .move (.tmp 0), 25, none⟩, ⟨some 18, .move (.tmp 5), 3, none⟩, ⟨some 19, .indexAddr 25 (.tmp 17) (.tmp 18), 0, none⟩, ⟨some 20, .load 52 (.tmp 19), 52, none⟩, ⟨some 21, .move (.tmp 1), 25, none⟩, ⟨some 22, .move (.tmp 5), 3, none⟩, ⟨some 23, .indexAddr 25 (.tmp 21) (.tmp 22), 0, none⟩, ⟨some 24, .load 52 (.tmp 23), 52, none⟩] [⟨some 25, .call { callee := .value (.func 32), args := #[.tmp 20, .tmp 24], argTypes := #[52, 52] }, 4, none⟩, ⟨some 26, .unOp .not 4 (.tmp 25), 4, none⟩]) (.cond (.tmp 26) (.seq (.ops [⟨some 4, .assign (.const (.bool false)), 4, none⟩]) (.ret)) (.skip)))) (q_w_eqHunkS_c0)
@[simp] theorem q_w_eqHunkS_c1_run (c : Ctx) (e : Env) (ks : List Fr) : Run c q_w_eqHunkS_c1 e ks = Run c (.seq (.block 1 (.seq (.draw [⟨some 17, .move (.tmp 0), 25, none⟩, ⟨some 18, .move (.tmp 5), 3, none⟩, ⟨some 19, .indexAddr 25 (.tmp 17) (.tmp 18), 0, none⟩, ⟨some 20, .load 52 (.tmp 19), 52, none⟩, ⟨some 21, .move (.tmp 1), 25, none⟩, ⟨some 22, .move (.tmp 5), 3, none⟩, ⟨some 23, .indexAddr 25 (.tmp 21) (.tmp 22), 0, none⟩, ⟨some 24, .load 52 (.tmp 23), 52, none⟩] [⟨some 25, .call { callee := .value (.func 32), args := #[.tmp 20, .tmp 24], argTypes := #[52, 52] }, 4, none⟩, ⟨some 26, .unOp .not 4 (.tmp 25), 4, none⟩]) (.cond (.tmp 26) (.seq (.ops [⟨some 4, .assign (.const (.bool false)), 4, none⟩]) (.ret)) (.skip)))) (q_w_eqHunkS_c0)) e ks := (rfl)
def q_w_eqHunkS_l0 : QCode := .seq (.seq (.ops [⟨some 11, .move (.tmp 5), 3, none⟩, ⟨some 12, .move (.tmp 0), 25, none⟩, ⟨some 13, .call { callee := .builtin .len, args := #[.tmp 12], argTypes := #[25] }, 3, none⟩, ⟨some 14, .binOp .lss 3 (.tmp 11) (.tmp 13) 3, 4, none⟩]) (.cond (.tmp 14) (.skip) (.exit 0))) (q_w_eqHunkS_c1)
@[simp] theorem q_w_eqHunkS_l0_run (c : Ctx) (e : Env) (ks : List Fr) : Run c q_w_eqHunkS_l0 e ks = Run c (.seq (.seq (.ops [⟨some 11, .move (.tmp 5), 3, none⟩, ⟨some 12, .move (.tmp 0), 25, none⟩, ⟨some 13, .call { callee := .builtin .len, args := #[.tmp 12], argTypes := #[25] }, 3, none⟩, ⟨some 14, .binOp .lss 3 (.tmp 11) (.tmp 13) 3, 4, none⟩]) (.cond (.tmp 14) (.skip) (.exit 0))) (q_w_eqHunkS_c1)) e ks := (rfl)
def q_w_eqHunkS_c2 : QCode := .seq (.ops [⟨some 4, .assign (.const (.bool true)), 4, none⟩]) (.ret)
@[simp] theorem q_w_eqHunkS_c2_run (c : Ctx) (e : Env) (ks : List Fr) : Run c q_w_eqHunkS_c2 e ks = Run c (.seq (.ops [⟨some 4, .assign (.const (.bool true)), 4, none⟩]) (.ret)) e ks := (rfl)
def q_w_eqHunkS_c3 : QCode := .seq (.seq (.ops [⟨some 5, .assign (.const (.int .i64 0)), 3, none⟩]) (.block 0 (.loop q_w_eqHunkS_l0))) (q_w_eqHunkS_c2)
@[simp] theorem q_w_eqHunkS_c3_run (c : Ctx) (e : Env) (ks : List Fr) : Run c q_w_eqHunkS_c3 e ks = Run c (.seq (.seq (.ops [⟨some 5, .assign (.const (.int .i64 0)), 3, none⟩]) (.block 0 (.loop q_w_eqHunkS_l0))) (q_w_eqHunkS_c2)) e ks := (rfl)
@[simp] def q_w_eqHunkS : QFn := ⟨27, [(.tmp 4, 4)], .seq (.ops [⟨some 4, .assign (.const (.bool false)), 4, none⟩]) (.seq (.seq (.ops [⟨some 6, .move (.tmp 0), 25, none⟩, ⟨some 7, .call { callee := .builtin .len, args := #[.tmp 6], argTypes := #[25] }, 3, none⟩, ⟨some 8, .move (.tmp 1), 25, none⟩, ⟨some 9, .call { callee := .builtin .len, args := #[.tmp 8], argTypes := #[25] }, 3, none⟩, ⟨some 10, .binOp .neq 3 (.tmp 7) (.tmp 9) 3, 4, none⟩]) (.cond (.tmp 10) (.seq (.ops [⟨some 4, .assign (.const (.bool false)), 4, none⟩]) (.ret)) (.skip))) (q_w_eqHunkS_c3))⟩
theorem conv_w_eqHunkS : convF Tryd.f13 = some q_w_eqHunkS := by kernel_rfl
/-! 20 s_HunksGet -/
abbrev fn_s_HunksGet : FuncId := 20
def q_s_HunksGet_c0 : QCode := .seq (.ops [⟨some 14, .move (.tmp 4), 25, none⟩, ⟨some 2, .assign (.tmp 14), 25, none⟩, ⟨some 3, .assign (.const (.bool true)), 4, none⟩]) (.ret)
@[simp] theorem q_s_HunksGet_c0_run (c : Ctx) (e : Env) (ks : List Fr) : Run c q_s_HunksGet_c0 e ks = Run c (.seq (.ops [⟨some 14, .move (.tmp 4), 25, none⟩, ⟨some 2, .assign (.tmp 14), 25, none⟩, ⟨some 3, .assign (.const (.bool true)), 4, none⟩]) (.ret)) e ks := (rfl)
@[simp] def q_s_HunksGet : QFn := ⟨15, [(.tmp 2, 25), (.tmp 3, 4)], .seq (.ops [⟨some 2, .assign (.const (.slice none 0 0)), 25, none⟩, ⟨some 3, .assign (.const (.bool false)), 4, none⟩]) (.seq (.ops [⟨some 7, .move (.tmp 0), 9, none⟩, ⟨some 8, .call { callee := .value (.func 50), args := #[.tmp 7], argTypes := #[9] }, 43, none⟩, ⟨some 6, .move (.tmp 8), 43, none⟩, ⟨some 9, .extract (.tmp 6) 0, 25, none⟩, ⟨some 10, .extract (.tmp 6) 1, 4, none⟩, ⟨some 4, .assign (.tmp 9), 25, none⟩, ⟨some 5, .assign (.tmp 10), 4, none⟩]) (.seq (.seq (.ops [⟨some 11, .move (.tmp 5), 4, none⟩, ⟨some 12, .unOp .not 4 (.tmp 11), 4, none⟩]) (.cond (.tmp 12) (.seq (.ops [⟨some 13, .buildSlice 25 0 #[], 25, none⟩, ⟨some 2, .assign (.tmp 13), 25, none⟩, ⟨some 3, .assign (.const (.bool false)), 4, none⟩]) (.ret)) (.skip))) (q_s_HunksGet_c0)))⟩
theorem conv_s_HunksGet : convF Tryd.f20 = some q_s_HunksGet := by kernel_rfl
/-! 21 i_HunksGet -/
abbrev fn_i_HunksGet : FuncId := 21
def q_i_HunksGet_c0 : QCode := .ops [⟨some 26, .move (.tmp 5), 25, none⟩, ⟨some 27, .load 52 (.tmp 6), 52, none⟩, ⟨some 28, .buildSlice 25 1 #[(0, .tmp 27)], 25, none⟩, ⟨some 29, .call { callee := .builtin .append, args := #[.tmp 26, .tmp 28], argTypes := #[25, 25] }, 25, none⟩, ⟨some 5, .assign (.tmp 29), 25, none⟩]
@[simp] theorem q_i_HunksGet_c0_run (c : Ctx) (e : Env) (ks : List Fr) : Run c q_i_HunksGet_c0 e ks = Run c (.ops [⟨some 26, .move (.tmp 5), 25, none⟩, ⟨some 27, .load 52 (.tmp 6), 52, none⟩, ⟨some 28, .buildSlice 25 1 #[(0, .tmp 27)], 25, none⟩, ⟨some 29, .call { callee := .builtin .append, args := #[.tmp 26, .tmp 28], argTypes := #[25, 25] }, 25, none⟩, ⟨some 5, .assign (.tmp 29), 25, none⟩]) e ks := (rfl)
def q_i_HunksGet_c1 : QCode := .block 1 (.seq (.ops [⟨some 16, .call { callee := .value (.func 51), args := #[.tmp 4], argTypes := #[86] }, 87, none⟩, ⟨some 15, .move (.tmp 16), 87, none⟩, ⟨some 17, .extract (.tmp 15) 0, 52, none⟩, ⟨some 18, .extract (.tmp 15) 1, 4, none⟩, ⟨some 6, .alloc 52, 0, none⟩, ⟨none, .store 52 (.tmp 6) (.tmp 17), 0, none⟩, ⟨some 7, .assign (.tmp 18), 4, none⟩]) (.seq (.seq (.ops [⟨some 19, .move (.tmp 7), 4, none⟩, ⟨some 20, .unOp .not 4 (.tmp 19), 4, none⟩, ⟨some 21, .move (.tmp 20), 4, none⟩, ⟨some 22, .move (.tmp 5), 25, some (21, false)⟩, ⟨some 23, .call { callee := .builtin .len, args := #[.tmp 22], argTypes := #[25] }, 3, some (21, false)⟩, ⟨some 24, .binOp .eql 3 (.tmp 23) (.const (.int .i64 4)) 3, 4, some (21, false)⟩, ⟨some 25, .pick (.tmp 21) (.const (.bool true)) (.tmp 24), 4, none⟩]) (.cond (.tmp 25) (.seq (.ops [⟨some 2, .assign (.const (.slice none 0 0)), 25, none⟩, ⟨some 3, .assign (.const (.bool false)), 4, none⟩]) (.ret)) (.skip))) (q_i_HunksGet_c0)))
@[simp] theorem q_i_HunksGet_c1_run (c : Ctx) (e : Env) (ks : List Fr) : Run c q_i_HunksGet_c1 e ks = Run c (.block 1 (.seq (.ops [⟨some 16, .call { callee := .value (.func 51), args := #[.tmp 4], argTypes := #[86] }, 87, none⟩, ⟨some 15, .move (.tmp 16), 87, none⟩, ⟨some 17, .extract (.tmp 15) 0, 52, none⟩, ⟨some 18, .extract (.tmp 15) 1, 4, none⟩, ⟨some 6, .alloc 52, 0, none⟩, ⟨none, .store 52 (.tmp 6) (.tmp 17), 0, none⟩, ⟨some 7, .assign (.tmp 18), 4, none⟩]) (.seq (.seq (.ops [⟨some 19, .move (.tmp 7), 4, none⟩, ⟨some 20, .unOp .not 4 (.tmp 19), 4, none⟩, ⟨some 21, .move (.tmp 20), 4, none⟩, ⟨some 22, .move (.tmp 5), 25, some (21, false)⟩, ⟨some 23, .call { callee := .builtin .len, args := #[.tmp 22], argTypes := #[25] }, 3, some (21, false)⟩, ⟨some 24, .binOp .eql 3 (.tmp 23) (.const (.int .i64 4)) 3, 4, some (21, false)⟩, ⟨some 25, .pick (.tmp 21) (.const (.bool true)) (.tmp 24), 4, none⟩]) (.cond (.tmp 25) (.seq (.ops [⟨some 2, .assign (.const (.slice none 0 0)), 25, none⟩, ⟨some 3, .assign (.const (.bool false)), 4, none⟩]) (.ret)) (.skip))) (q_i_HunksGet_c0)))) e ks := (rfl)
def q_i_HunksGet_l0 : QCode := .seq (.seq (.ops [⟨some 11, .fieldAddr 86 (.tmp 4) 0, 0, none⟩, ⟨some 12, .fieldAddr 84 (.tmp 11) 0, 0, none⟩, ⟨some 13, .load 9 (.tmp 12), 9, none⟩, ⟨some 14, .binOp .neq 9 (.tmp 13) (.const (.string { data := #[] })) 9, 4, none⟩]) (.cond (.tmp 14) (.skip) (.exit 0))) (q_i_HunksGet_c1)
@[simp] theorem q_i_HunksGet_l0_run (c : Ctx) (e : Env) (ks : List Fr) : Run c q_i_HunksGet_l0 e ks = Run c (.seq (.seq (.ops [⟨some 11, .fieldAddr 86 (.tmp 4) 0, 0, none⟩, ⟨some 12, .fieldAddr 84 (.tmp 11) 0, 0, none⟩, ⟨some 13, .load 9 (.tmp 12), 9, none⟩, ⟨some 14, .binOp .neq 9 (.tmp 13) (.const (.string { data := #[] })) 9, 4, none⟩]) (.cond (.tmp 14) (.skip) (.exit 0))) (q_i_HunksGet_c1)) e ks := (rfl)
def q_i_HunksGet_c2 : QCode := .seq (.ops [⟨some 33, .move (.tmp 5), 25, none⟩, ⟨some 2, .assign (.tmp 33), 25, none⟩, ⟨some 3, .assign (.const (.bool true)), 4, none⟩]) (.ret)
@[simp] theorem q_i_HunksGet_c2_run (c : Ctx) (e : Env) (ks : List Fr) : Run c q_i_HunksGet_c2 e ks = Run c (.seq (.ops [⟨some 33, .move (.tmp 5), 25, none⟩, ⟨some 2, .assign (.tmp 33), 25, none⟩, ⟨some 3, .assign (.const (.bool true)), 4, none⟩]) (.ret)) e ks := (rfl)
def q_i_HunksGet_c3 : QCode := .seq (.seq (.ops [⟨some 30, .move (.tmp 5), 25, none⟩, ⟨some 31, .call { callee := .value (.func 28), args := #[.tmp 30], argTypes := #[25] }, 4, none⟩, ⟨some 32, .unOp .not 4 (.tmp 31), 4, none⟩]) (.cond (.tmp 32) (.seq (.ops [⟨some 2, .assign (.const (.slice none 0 0)), 25, none⟩, ⟨some 3, .assign (.const (.bool false)), 4, none⟩]) (.ret)) (.skip))) (q_i_HunksGet_c2)
@[simp] theorem q_i_HunksGet_c3_run (c : Ctx) (e : Env) (ks : List Fr) : Run c q_i_HunksGet_c3 e ks = Run c (.seq (.seq (.ops [⟨some 30, .move (.tmp 5), 25, none⟩, ⟨some 31, .call { callee := .value (.func 28), args := #[.tmp 30], argTypes := #[25] }, 4, none⟩, ⟨some 32, .unOp .not 4 (.tmp 31), 4, none⟩]) (.cond (.tmp 32) (.seq (.ops [⟨some 2, .assign (.const (.slice none 0 0)), 25, none⟩, ⟨some 3, .assign (.const (.bool false)), 4, none⟩]) (.ret)) (.skip))) (q_i_HunksGet_c2)) e ks := (rfl)
@[simp] def q_i_HunksGet : QFn := ⟨34, [(.tmp 2, 25), (.tmp 3, 4)], .seq (.ops [⟨some 2, .assign (.const (.slice none 0 0)), 25, none⟩, ⟨some 3, .assign (.const (.bool false)), 4, none⟩]) (.seq (.ops [⟨some 8, .move (.tmp 0), 9, none⟩, ⟨some 9, .build 84 #[(0, .tmp 8)], 84, none⟩, ⟨some 10, .build 86 #[(0, .tmp 9)], 86, none⟩, ⟨some 4, .alloc 86, 0, none⟩, ⟨none, .store 86 (.tmp 4) (.tmp 10), 0, none⟩]) (.seq (.ops [⟨some 5, .assign (.const (.slice none 0 0)), 25, none⟩]) (.seq (.block 0 (.loop q_i_HunksGet_l0)) (q_i_HunksGet_c3))))⟩
theorem conv_i_HunksGet : convF Tryd.f21 = some q_i_HunksGet := by kernel_rfl
/-! 22 w_markHunkS -/
abbrev fn_w_markHunkS : FuncId := 22
def q_w_markHunkS_c0 : QCode := .ops [⟨some 10, .move (.tmp 5), 3, none⟩, ⟨some 11, .binOp .add 3 (.tmp 10) (.const (.int .i64 1)) 3, 3, none⟩, ⟨some 5, .assign (.tmp 11), 3, none⟩]
@[simp] theorem q_w_markHunkS_c0_run (c : Ctx) (e : Env) (ks : List Fr) : Run c q_w_markHunkS_c0 e ks = Run c (.ops [⟨some 10, .move (.tmp 5), 3, none⟩, ⟨some 11, .binOp .add 3 (.tmp 10) (.const (.int .i64 1)) 3, 3, none⟩, ⟨some 5, .assign (.tmp 11), 3, none⟩]) e ks := (rfl)
def q_w_markHunkS_c1 : QCode := .seq (.block 1 (.seq (.ops [⟨some 12, .move (.tmp 0), 25, none⟩, ⟨some 13, .move (.tmp 5), 3, none⟩, ⟨some 14, .move (.tmp 1), 3, none⟩, ⟨some 15, .indexAddr 25 (.tmp 12) (.tmp 13), 0, none⟩, ⟨some 16, .fieldAddr 52 (.tmp 15) 0, 0, none⟩, ⟨none, .store 3 (.tmp 16) (.tmp 14), 0, none⟩]) (.seq (.ops [⟨some 17, .move (.tmp 1), 3, none⟩, ⟨some 18, .binOp .add 3 (.tmp 17) (.const (.int .i64 1)) 3, 3, none⟩, ⟨some 1, .assign (.tmp 18), 3, none⟩]) (.ops [⟨some 19, .move (.tmp 0), 25, none⟩, ⟨some 20, .move (.tmp 5), 3, none⟩, ⟨some 21, .indexAddr 25 (.tmp 19) (.tmp 20), 0, none⟩, ⟨some 22, .fieldAddr 52 (.tmp 21) 1, 0, none⟩, ⟨some 23, .load 48 (.tmp 22), 48, none⟩, ⟨some 24, .move (.tmp 1), 3, none⟩, ⟨some 25, .call { callee := .value (.func 52), args := #[.tmp 23, .tmp 24], argTypes := #[48, 3] }, 3, none⟩, ⟨some 1, .assign (.tmp 25), 3, none⟩])))) (q_w_markHunkS_c0)
@[simp] theorem q_w_markHunkS_c1_run (c : Ctx) (e : Env) (ks : List Fr) : Run c q_w_markHunkS_c1 e ks = Run c (.seq (.block 1 (.seq (.ops [⟨some 12, .move (.tmp 0), 25, none⟩, ⟨some 13, .move (.tmp 5), 3, none⟩, ⟨some 14, .move (.tmp 1), 3, none⟩, ⟨some 15, .indexAddr 25 (.tmp 12) (.tmp 13), 0, none⟩, ⟨some 16, .fieldAddr 52 (.tmp 15) 0, 0, none⟩, ⟨none, .store 3 (.tmp 16) (.tmp 14), 0, none⟩]) (.seq (.ops [⟨some 17, .move (.tmp 1), 3, none⟩, ⟨some 18, .binOp .add 3 (.tmp 17) (.const (.int .i64 1)) 3, 3, none⟩, ⟨some 1, .assign (.tmp 18), 3, none⟩]) (.ops [⟨some 19, .move (.tmp 0), 25, none⟩, ⟨some 20, .move (.tmp 5), 3, none⟩, ⟨some 21, .indexAddr 25 (.tmp 19) (.tmp 20), 0, none⟩, ⟨some 22, .fieldAddr 52 (.tmp 21) 1, 0, none⟩, ⟨some 23, .load 48 (.tmp 22), 48, none⟩, ⟨some 24, .move (.tmp 1), 3, none⟩, ⟨some 25, .call { callee := .value (.func 52), args := #[.tmp 23, .tmp 24], argTypes := #[48, 3] }, 3, none⟩, ⟨some 1, .assign (.tmp 25), 3, none⟩])))) (q_w_markHunkS_c0)) e ks := (rfl)
def q_w_markHunkS_l0 : QCode := .seq (.seq (.ops [⟨some 6, .move (.tmp 5), 3, none⟩, ⟨some 7, .move (.tmp 0), 25, none⟩, ⟨some 8, .call { callee := .builtin .len, args := #[.tmp 7], argTypes := #[25] }, 3, none⟩, ⟨some 9, .binOp .lss 3 (.tmp 6) (.tmp 8) 3, 4, none⟩]) (.cond (.tmp 9) (.skip) (.exit 0))) (q_w_markHunkS_c1)
@[simp] theorem q_w_markHunkS_l0_run (c : Ctx) (e : Env) (ks : List Fr) : Run c q_w_markHunkS_l0 e ks = Run c (.seq (.seq (.ops [⟨some 6, .move (.tmp 5), 3, none⟩, ⟨some 7, .move (.tmp 0), 25, none⟩, ⟨some 8, .call { callee := .builtin .len, args := #[.tmp 7], argTypes := #[25] }, 3, none⟩, ⟨some 9, .binOp .lss 3 (.tmp 6) (.tmp 8) 3, 4, none⟩]) (.cond (.tmp 9) (.skip) (.exit 0))) (q_w_markHunkS_c1)) e ks := (rfl)
def q_w_markHunkS_c2 : QCode := .seq (.ops [⟨some 26, .move (.tmp 1), 3, none⟩, ⟨some 4, .assign (.tmp 26), 3, none⟩]) (.ret)
@[simp] theorem q_w_markHunkS_c2_run (c : Ctx) (e : Env) (ks : List Fr) : Run c q_w_markHunkS_c2 e ks = Run c (.seq (.ops [⟨some 26, .move (.tmp 1), 3, none⟩, ⟨some 4, .assign (.tmp 26), 3, none⟩]) (.ret)) e ks := (rfl)
@[simp] def q_w_markHunkS : QFn := ⟨27, [(.tmp 4, 3)], .seq (.ops [⟨some 4, .assign (.const (.int .i64 0)), 3, none⟩]) (.seq (.seq (.ops [⟨some 5, .assign (.const (.int .i64 0)), 3, none⟩]) (.block 0 (.loop q_w_markHunkS_l0))) (q_w_markHunkS_c2))⟩
theorem conv_w_markHunkS : convF Tryd.f22 = some q_w_markHunkS := by kernel_rfl
/-! 23 w_heldHunkS -/
abbrev fn_w_heldHunkS : FuncId := 23
def q_w_heldHunkS_c0 : QCode := .seq (.ops [⟨some 19, .move (.tmp 1), 3, none⟩, ⟨some 20, .binOp .add 3 (.tmp 19) (.const (.int .i64 1)) 3, 3, none⟩, ⟨some 1, .assign (.tmp 20), 3, none⟩]) (.seq (.ops [⟨some 21, .move (.tmp 0), 25, none⟩, ⟨some 22, .move (.tmp 5), 3, none⟩, ⟨some 23, .indexAddr 25 (.tmp 21) (.tmp 22), 0, none⟩, ⟨some 24, .fieldAddr 52 (.tmp 23) 1, 0, none⟩, ⟨some 25, .load 48 (.tmp 24), 48, none⟩, ⟨some 26, .move (.tmp 1), 3, none⟩, ⟨some 27, .call { callee := .value (.func 53), args := #[.tmp 25, .tmp 26], argTypes := #[48, 3] }, 3, none⟩, ⟨some 1, .assign (.tmp 27), 3, none⟩]) (.seq (.ops [⟨some 28, .move (.tmp 1), 3, none⟩, ⟨some 29, .binOp .lss 3 (.tmp 28) (.const (.int .i64 0)) 3, 4, none⟩]) (.cond (.tmp 29) (.seq (.ops [⟨some 4, .assign (.const (.int .i64 (-1))), 3, none⟩]) (.ret)) (.skip))))
@[simp] theorem q_w_heldHunkS_c0_run (c : Ctx) (e : Env) (ks : List Fr) : Run c q_w_heldHunkS_c0 e ks = Run c (.seq (.ops [⟨some 19, .move (.tmp 1), 3, none⟩, ⟨some 20, .binOp .add 3 (.tmp 19) (.const (.int .i64 1)) 3, 3, none⟩, ⟨some 1, .assign (.tmp 20), 3, none⟩]) (.seq (.ops [⟨some 21, .move (.tmp 0), 25, none⟩, ⟨some 22, .move (.tmp 5), 3, none⟩, ⟨some 23, .indexAddr 25 (.tmp 21) (.tmp 22), 0, none⟩, ⟨some 24, .fieldAddr 52 (.tmp 23) 1, 0, none⟩, ⟨some 25, .load 48 (.tmp 24), 48, none⟩, ⟨some 26, .move (.tmp 1), 3, none⟩, ⟨some 27, .call { callee := .value (.func 53), args := #[.tmp 25, .tmp 26], argTypes := #[48, 3] }, 3, none⟩, ⟨some 1, .assign (.tmp 27), 3, none⟩]) (.seq (.ops [⟨some 28, .move (.tmp 1), 3, none⟩, ⟨some 29, .binOp .lss 3 (.tmp 28) (.const (.int .i64 0)) 3, 4, none⟩]) (.cond (.tmp 29) (.seq (.ops [⟨some 4, .assign (.const (.int .i64 (-1))), 3, none⟩]) (.ret)) (.skip))))) e ks := (rfl)
def q_w_heldHunkS_c1 : QCode := .ops [⟨some 10, .move (.tmp 5), 3, none⟩, ⟨some 11, .binOp .add 3 (.tmp 10) (.const (.int .i64 1)) 3, 3, none⟩, ⟨some 5, .assign (.tmp 11), 3, none⟩]
@[simp] theorem q_w_heldHunkS_c1_run (c : Ctx) (e : Env) (ks : List Fr) : Run c q_w_heldHunkS_c1 e ks = Run c (.ops [⟨some 10, .move (.tmp 5), 3, none⟩, ⟨some 11, .binOp .add 3 (.tmp 10) (.const (.int .i64 1)) 3, 3, none⟩, ⟨some 5, .assign (.tmp 11), 3, none⟩]) e ks := (rfl)
def q_w_heldHunkS_c2 : QCode := .seq (.block 1 (.seq (.seq (.ops [⟨some 12, .move (.tmp 0), 25, none⟩, ⟨some 13, .move (.tmp 5), 3, none⟩, ⟨some 14, .indexAddr 25 (.tmp 12) (.tmp 13), 0, none⟩, ⟨some 15, .fieldAddr 52 (.tmp 14) 0, 0, none⟩, ⟨some 16, .load 3 (.tmp 15), 3, none⟩, ⟨some 17, .move (.tmp 1), 3, none⟩, ⟨some 18, .binOp .neq 3 (.tmp 16) (.tmp 17) 3, 4, none⟩]) (.cond (.tmp 18) (.seq (.ops [⟨some 4, .assign (.const (.int .i64 (-1))), 3, none⟩]) (.ret)) (.skip))) (q_w_heldHunkS_c0))) (q_w_heldHunkS_c1)
@[simp] theorem q_w_heldHunkS_c2_run (c : Ctx) (e : Env) (ks : List Fr) : Run c q_w_heldHunkS_c2 e ks = Run c (.seq (.block 1 (.seq (.seq (.ops [⟨some 12, .move (.tmp 0), 25, none⟩, ⟨some 13, .move (.tmp 5), 3, none⟩, ⟨some 14, .indexAddr 25 (.tmp 12) (.tmp 13), 0, none⟩, ⟨some 15, .fieldAddr 52 (.tmp 14) 0, 0, none⟩, ⟨some 16, .load 3 (.tmp 15), 3, none⟩, ⟨some 17, .move (.tmp 1), 3, none⟩, ⟨some 18, .binOp .neq 3 (.tmp 16) (.tmp 17) 3, 4, none⟩]) (.cond (.tmp 18) (.seq (.ops [⟨some 4, .assign (.const (.int .i64 (-1))), 3, none⟩]) (.ret)) (.skip))) (q_w_heldHunkS_c0))) (q_w_heldHunkS_c1)) e ks := (rfl)
def q_w_heldHunkS_l0 : QCode := .seq (.seq (.ops [⟨some 6, .move (.tmp 5), 3, none⟩, ⟨some 7, .move (.tmp 0), 25, none⟩, ⟨some 8, .call { callee := .builtin .len, args := #[.tmp 7], argTypes := #[25] }, 3, none⟩, ⟨some 9, .binOp .lss 3 (.tmp 6) (.tmp 8) 3, 4, none⟩]) (.cond (.tmp 9) (.skip) (.exit 0))) (q_w_heldHunkS_c2)
@[simp] theorem q_w_heldHunkS_l0_run (c : Ctx) (e : Env) (ks : List Fr) : Run c q_w_heldHunkS_l0 e ks = Run c (.seq (.seq (.ops [⟨some 6, .move (.tmp 5), 3, none⟩, ⟨some 7, .move (.tmp 0), 25, none⟩, ⟨some 8, .call { callee := .builtin .len, args := #[.tmp 7], argTypes := #[25] }, 3, none⟩, ⟨some 9, .binOp .lss 3 (.tmp 6) (.tmp 8) 3, 4, none⟩]) (.cond (.tmp 9) (.skip) (.exit 0))) (q_w_heldHunkS_c2)) e ks := (rfl)
def q_w_heldHunkS_c3 : QCode := .seq (.ops [⟨some 30, .move (.tmp 1), 3, none⟩, ⟨some 4, .assign (.tmp 30), 3, none⟩]) (.ret)
@[simp] theorem q_w_heldHunkS_c3_run (c : Ctx) (e : Env) (ks : List Fr) : Run c q_w_heldHunkS_c3 e ks = Run c (.seq (.ops [⟨some 30, .move (.tmp 1), 3, none⟩, ⟨some 4, .assign (.tmp 30), 3, none⟩]) (.ret)) e ks := (rfl)
@[simp] def q_w_heldHunkS : QFn := ⟨31, [(.tmp 4, 3)], .seq (.ops [⟨some 4, .assign (.const (.int .i64 0)), 3, none⟩]) (.seq (.seq (.ops [⟨some 5, .assign (.const (.int .i64 0)), 3, none⟩]) (.block 0 (.loop q_w_heldHunkS_l0))) (q_w_heldHunkS_c3))⟩
theorem conv_w_heldHunkS : convF Tryd.f23 = some q_w_heldHunkS := by kernel_rfl
/-! 24 w_szHunk -/
abbrev fn_w_szHunk : FuncId := 24
def q_w_szHunk_c0 : QCode := .seq (.ops [⟨some 11, .move (.tmp 1), 3, none⟩, ⟨some 4, .assign (.tmp 11), 3, none⟩]) (.ret)
@[simp] theorem q_w_szHunk_c0_run (c : Ctx) (e : Env) (ks : List Fr) : Run c q_w_szHunk_c0 e ks = Run c (.seq (.ops [⟨some 11, .move (.tmp 1), 3, none⟩, ⟨some 4, .assign (.tmp 11), 3, none⟩]) (.ret)) e ks := (rfl)
@[simp] def q_w_szHunk : QFn := ⟨12, [(.tmp 4, 3)], .seq (.ops [⟨some 2, .box 50 (.tmp 0), 0, none⟩, ⟨some 4, .assign (.const (.int .i64 0)), 3, none⟩]) (.seq (.ops [⟨some 5, .fieldAddr 50 (.tmp 2) 1, 0, none⟩, ⟨some 6, .load 48 (.tmp 5), 48, none⟩, ⟨some 7, .move (.tmp 1), 3, none⟩, ⟨some 8, .call { callee := .value (.func 54), args := #[.tmp 6, .tmp 7], argTypes := #[48, 3] }, 3, none⟩, ⟨some 1, .assign (.tmp 8), 3, none⟩]) (.seq (.seq (.ops [⟨some 9, .move (.tmp 1), 3, none⟩, ⟨some 10, .binOp .lss 3 (.tmp 9) (.const (.int .i64 0)) 3, 4, none⟩]) (.cond (.tmp 10) (.seq (.ops [⟨some 4, .assign (.const (.int .i64 (-1))), 3, none⟩]) (.ret)) (.skip))) (q_w_szHunk_c0)))⟩
theorem conv_w_szHunk : convF Tryd.f24 = some q_w_szHunk := by kernel_rfl
/-! 25 s_HunksOk -/
abbrev fn_s_HunksOk : FuncId := 25
def q_s_HunksOk_c0 : QCode := .ops [⟨some 8, .move (.tmp 3), 3, none⟩, ⟨some 9, .binOp .add 3 (.tmp 8) (.const (.int .i64 1)) 3, 3, none⟩, ⟨some 3, .assign (.tmp 9), 3, none⟩]
@[simp] theorem q_s_HunksOk_c0_run (c : Ctx) (e : Env) (ks : List Fr) : Run c q_s_HunksOk_c0 e ks = Run c (.ops [⟨some 8, .move (.tmp 3), 3, none⟩, ⟨some 9, .binOp .add 3 (.tmp 8) (.const (.int .i64 1)) 3, 3, none⟩, ⟨some 3, .assign (.tmp 9), 3, none⟩]) e ks := (rfl)
def q_s_HunksOk_c1 : QCode := .seq (.block 1 (.seq (.draw [⟨some 10, .move (.tmp 0), 25, none⟩, ⟨some 11, .move (.tmp 3), 3, none⟩, ⟨some 12, .indexAddr 25 (.tmp 10) (.tmp 11), 0, none⟩, ⟨some 13, .load 52 (.tmp 12), 52, none⟩, ⟨some 14, .call { callee := .value (.func 55), args := #[.tmp 13], argTypes := #[52] }, 4, none⟩, ⟨some 15, .unOp .not 4 (.tmp 14), 4, none⟩, ⟨some 16, .move (.tmp 15), 4, none⟩, ⟨some 17, .move (.tmp 3), 3, some (16, false)⟩, ⟨some 18, .binOp .gtr 3 (.tmp 17) (.const (.int .i64 0)) 3, 4, some (16, false)⟩, ⟨some 19, .move (.tmp 18), 4, some (16, false)⟩, ⟨some 20, .move (.tmp 0), 25, some (19, true)⟩, ⟨some 21, .move (.tmp 3), 3, some (19, true)⟩, ⟨some 22, .indexAddr 25 (.tmp 20) (.tmp 21), 0, some (19, true)⟩, ⟨some 23, .fieldAddr 52 (.tmp 22) 0, 0, some (19, true)⟩, ⟨some 24, .load 3 (.tmp 23), 3, some (19, true)⟩, ⟨some 25, .move (.tmp 0), 25, some (19, true)⟩, ⟨some 26, .move (.tmp 3), 3, some (19, true)⟩, ⟨some 27, .binOp .sub 3 (.tmp 26) (.const (.int .i64 1)) 3, 3, some (19, true)⟩, ⟨some 28, .indexAddr 25 (.tmp 25) (.tmp 27), 0, some (19, true)⟩, ⟨some 29, .fieldAddr 52 (.tmp 28) 0, 0, some (19, true)⟩, ⟨some 30, .load 3 (.tmp 29), 3, some (19, true)⟩, ⟨some 31, .move (.tmp 0), 25, some (19, true)⟩, ⟨some 32, .move (.tmp 3), 3, some (19, true)⟩, ⟨some 33, .binOp .sub 3 (.tmp 32) (.const (.int .i64 1)) 3, 3, some (19, true)⟩, ⟨some 34, .indexAddr 25 (.tmp 31) (.tmp 33), 0, some (19, true)⟩, ⟨some 35, .load 52 (.tmp 34), 52, some (19, true)⟩, ⟨some 36, .call { callee := .value (.func 56), args := #[.tmp 35], argTypes := #[52] }, 48, some (19, true)⟩, ⟨some 37, .call { callee := .builtin .len, args := #[.tmp 36], argTypes := #[48] }, 3, some (19, true)⟩, ⟨some 38, .binOp .add 3 (.tmp 30) (.tmp 37) 3, 3, some (19, true)⟩] [⟨some 39, .binOp .lss 3 (.tmp 24) (.tmp 38) 3, 4, some (19, true)⟩, ⟨some 40, .pick (.tmp 19) (.tmp 39) (.const (.bool false)), 4, some (16, false)⟩, ⟨some 41, .pick (.tmp 16) (.const (.bool true)) (.tmp 40), 4, none⟩]) (.cond (.tmp 41) (.seq (.ops [⟨some 2, .assign (.const (.bool false)), 4, none⟩]) (.ret)) (.skip)))) (q_s_HunksOk_c0)
@[simp] theorem q_s_HunksOk_c1_run (c : Ctx) (e : Env) (ks : List Fr) : Run c q_s_HunksOk_c1 e ks = Run c (.seq (.block 1 (.seq (.draw [⟨some 10, .move (.tmp 0), 25, none⟩, ⟨some 11, .move (.tmp 3), 3, none⟩, ⟨some 12, .indexAddr 25 (.tmp 10) (.tmp 11), 0, none⟩, ⟨some 13, .load 52 (.tmp 12), 52, none⟩, ⟨some 14, .call { callee := .value (.func 55), args := #[.tmp 13], argTypes := #[52] }, 4, none⟩, ⟨some 15, .unOp .not 4 (.tmp 14), 4, none⟩, ⟨some 16, .move (.tmp 15), 4, none⟩, ⟨some 17, .move (.tmp 3), 3, some (16, false)⟩, ⟨some 18, .binOp .gtr 3 (.tmp 17) (.const (.int .i64 0)) 3, 4, some (16, false)⟩, ⟨some 19, .move (.tmp 18), 4, some (16, false)⟩, ⟨some 20, .move (.tmp 0), 25, some (19, true)⟩, ⟨some 21, .move (.tmp 3), 3, some (19, true)⟩, ⟨some 22, .indexAddr 25 (.tmp 20) (.tmp 21), 0, some (19, true)⟩, ⟨some 23, .fieldAddr 52 (.tmp 22) 0, 0, some (19, true)⟩, ⟨some 24, .load 3 (.tmp 23), 3, some (19, true)⟩, ⟨some 25, .move (.tmp 0), 25, some (19, true)⟩, ⟨some 26, .move (.tmp 3), 3, some (19, true)⟩, ⟨some 27, .binOp .sub 3 (.tmp 26) (.const (.int .i64 1)) 3, 3, some (19, true)⟩, ⟨some 28, .indexAddr 25 (.tmp 25) (.tmp 27), 0, some (19, true)⟩, ⟨some 29, .fieldAddr 52 (.tmp 28) 0, 0, some (19, true)⟩, ⟨some 30, .load 3 (.tmp 29), 3, some (19, true)⟩, ⟨some 31, .move (.tmp 0), 25, some (19, true)⟩, ⟨some 32, .move (.tmp 3), 3, some (19, true)⟩, ⟨some 33, .binOp .sub 3 (.tmp 32) (.const (.int .i64 1)) 3, 3, some (19, true)⟩, ⟨some 34, .indexAddr 25 (.tmp 31) (.tmp 33), 0, some (19, true)⟩, ⟨some 35, .load 52 (.tmp 34), 52, some (19, true)⟩, ⟨some 36, .call { callee := .value (.func 56), args := #[.tmp 35], argTypes := #[52] }, 48, some (19, true)⟩, ⟨some 37, .call { callee := .builtin .len, args := #[.tmp 36], argTypes := #[48] }, 3, some (19, true)⟩, ⟨some 38, .binOp .add 3 (.tmp 30) (.tmp 37) 3, 3, some (19, true)⟩] [⟨some 39, .binOp .lss 3 (.tmp 24) (.tmp 38) 3, 4, some (19, true)⟩, ⟨some 40, .pick (.tmp 19) (.tmp 39) (.const (.bool false)), 4, some (16, false)⟩, ⟨some 41, .pick (.tmp 16) (.const (.bool true)) (.tmp 40), 4, none⟩]) (.cond (.tmp 41) (.seq (.ops [⟨some 2, .assign (.const (.bool false)), 4, none⟩]) (.ret)) (.skip)))) (q_s_HunksOk_c0)) e ks := (rfl)
def q_s_HunksOk_l0 : QCode := .seq (.seq (.ops [⟨some 4, .move (.tmp 3), 3, none⟩, ⟨some 5, .move (.tmp 0), 25, none⟩, ⟨some 6, .call { callee := .builtin .len, args := #[.tmp 5], argTypes := #[25] }, 3, none⟩, ⟨some 7, .binOp .lss 3 (.tmp 4) (.tmp 6) 3, 4, none⟩]) (.cond (.tmp 7) (.skip) (.exit 0))) (q_s_HunksOk_c1)
@[simp] theorem q_s_HunksOk_l0_run (c : Ctx) (e : Env) (ks : List Fr) : Run c q_s_HunksOk_l0 e ks = Run c (.seq (.seq (.ops [⟨some 4, .move (.tmp 3), 3, none⟩, ⟨some 5, .move (.tmp 0), 25, none⟩, ⟨some 6, .call { callee := .builtin .len, args := #[.tmp 5], argTypes := #[25] }, 3, none⟩, ⟨some 7, .binOp .lss 3 (.tmp 4) (.tmp 6) 3, 4, none⟩]) (.cond (.tmp 7) (.skip) (.exit 0))) (q_s_HunksOk_c1)) e ks := (rfl)
def q_s_HunksOk_c2 : QCode := .seq (.ops [⟨some 42, .move (.tmp 0), 25, none⟩, ⟨some 43, .call { callee := .builtin .len, args := #[.tmp 42], argTypes := #[25] }, 3, none⟩, ⟨some 44, .binOp .leq 3 (.tmp 43) (.const (.int .i64 4)) 3, 4, none⟩, ⟨some 2, .assign (.tmp 44), 4, none⟩]) (.ret)
@[simp] theorem q_s_HunksOk_c2_run (c : Ctx) (e : Env) (ks : List Fr) : Run c q_s_HunksOk_c2 e ks = Run c (.seq (.ops [⟨some 42, .move (.tmp 0), 25, none⟩, ⟨some 43, .call { callee := .builtin .len, args := #[.tmp 42], argTypes := #[25] }, 3, none⟩, ⟨some 44, .binOp .leq 3 (.tmp 43) (.const (.int .i64 4)) 3, 4, none⟩, ⟨some 2, .assign (.tmp 44), 4, none⟩]) (.ret)) e ks := (rfl)
@[simp] def q_s_HunksOk : QFn := ⟨45, [(.tmp 2, 4)], .seq (.ops [⟨some 2, .assign (.const (.bool false)), 4, none⟩]) (.seq (.seq (.ops [⟨some 3, .assign (.const (.int .i64 0)), 3, none⟩]) (.block 0 (.loop q_s_HunksOk_l0))) (q_s_HunksOk_c2))⟩
theorem conv_s_HunksOk : convF Tryd.f25 = some q_s_HunksOk := by kernel_rfl
/-! 26 s_l5Put -/
abbrev fn_s_l5Put : FuncId := 26
def q_s_l5Put_c0 : QCode := .ops [⟨some 39, .move (.tmp 5), 3, none⟩, ⟨some 40, .binOp .add 3 (.tmp 39) (.const (.int .i64 1)) 3, 3, none⟩, ⟨some 5, .assign (.tmp 40), 3, none⟩]
@[simp] theorem q_s_l5Put_c0_run (c : Ctx) (e : Env) (ks : List Fr) : Run c q_s_l5Put_c0 e ks = Run c (.ops [⟨some 39, .move (.tmp 5), 3, none⟩, ⟨some 40, .binOp .add 3 (.tmp 39) (.const (.int .i64 1)) 3, 3, none⟩, ⟨some 5, .assign (.tmp 40), 3, none⟩]) e ks := (rfl)
def q_s_l5Put_c1 : QCode := .seq (.block 3 (.ops [⟨some 41, .move (.tmp 3), 9, none⟩, ⟨some 42, .move (.tmp 0), 25, none⟩, ⟨some 43, .move (.tmp 4), 3, none⟩, ⟨some 44, .indexAddr 25 (.tmp 42) (.tmp 43), 0, none⟩, ⟨some 45, .fieldAddr 52 (.tmp 44) 1, 0, none⟩, ⟨some 46, .load 48 (.tmp 45), 48, none⟩, ⟨some 47, .move (.tmp 5), 3, none⟩, ⟨some 48, .indexAddr 48 (.tmp 46) (.tmp 47), 0, none⟩, ⟨some 49, .load 9 (.tmp 48), 9, none⟩, ⟨some 50, .binOp .add 9 (.tmp 41) (.tmp 49) 9, 9, none⟩, ⟨some 51, .binOp .add 9 (.tmp 50) (.const (.string { data := #[10] })) 9, 9, none⟩, ⟨some 3, .assign (.tmp 51), 9, none⟩])) (q_s_l5Put_c0)
@[simp] theorem q_s_l5Put_c1_run (c : Ctx) (e : Env) (ks : List Fr) : Run c q_s_l5Put_c1 e ks = Run c (.seq (.block 3 (.ops [⟨some 41, .move (.tmp 3), 9, none⟩, ⟨some 42, .move (.tmp 0), 25, none⟩, ⟨some 43, .move (.tmp 4), 3, none⟩, ⟨some 44, .indexAddr 25 (.tmp 42) (.tmp 43), 0, none⟩, ⟨some 45, .fieldAddr 52 (.tmp 44) 1, 0, none⟩, ⟨some 46, .load 48 (.tmp 45), 48, none⟩, ⟨some 47, .move (.tmp 5), 3, none⟩, ⟨some 48, .indexAddr 48 (.tmp 46) (.tmp 47), 0, none⟩, ⟨some 49, .load 9 (.tmp 48), 9, none⟩, ⟨some 50, .binOp .add 9 (.tmp 41) (.tmp 49) 9, 9, none⟩, ⟨some 51, .binOp .add 9 (.tmp 50) (.const (.string { data := #[10] })) 9, 9, none⟩, ⟨some 3, .assign (.tmp 51), 9, none⟩])) (q_s_l5Put_c0)) e ks := (rfl)
def q_s_l5Put_l0 : QCode := .seq (.seq (.ops [⟨some 31, .move (.tmp 5), 3, none⟩, ⟨some 32, .move (.tmp 0), 25, none⟩, ⟨some 33, .move (.tmp 4), 3, none⟩, ⟨some 34, .indexAddr 25 (.tmp 32) (.tmp 33), 0, none⟩, ⟨some 35, .fieldAddr 52 (.tmp 34) 1, 0, none⟩, ⟨some 36, .load 48 (.tmp 35), 48, none⟩, ⟨some 37, .call { callee := .builtin .len, args := #[.tmp 36], argTypes := #[48] }, 3, none⟩, ⟨some 38, .binOp .lss 3 (.tmp 31) (.tmp 37) 3, 4, none⟩]) (.cond (.tmp 38) (.skip) (.exit 2))) (q_s_l5Put_c1)
@[simp] theorem q_s_l5Put_l0_run (c : Ctx) (e : Env) (ks : List Fr) : Run c q_s_l5Put_l0 e ks = Run c (.seq (.seq (.ops [⟨some 31, .move (.tmp 5), 3, none⟩, ⟨some 32, .move (.tmp 0), 25, none⟩, ⟨some 33, .move (.tmp 4), 3, none⟩, ⟨some 34, .indexAddr 25 (.tmp 32) (.tmp 33), 0, none⟩, ⟨some 35, .fieldAddr 52 (.tmp 34) 1, 0, none⟩, ⟨some 36, .load 48 (.tmp 35), 48, none⟩, ⟨some 37, .call { callee := .builtin .len, args := #[.tmp 36], argTypes := #[48] }, 3, none⟩, ⟨some 38, .binOp .lss 3 (.tmp 31) (.tmp 37) 3, 4, none⟩]) (.cond (.tmp 38) (.skip) (.exit 2))) (q_s_l5Put_c1)) e ks := (rfl)
def q_s_l5Put_c2 : QCode := .ops [⟨some 10, .move (.tmp 4), 3, none⟩, ⟨some 11, .binOp .add 3 (.tmp 10) (.const (.int .i64 1)) 3, 3, none⟩, ⟨some 4, .assign (.tmp 11), 3, none⟩]
@[simp] theorem q_s_l5Put_c2_run (c : Ctx) (e : Env) (ks : List Fr) : Run c q_s_l5Put_c2 e ks = Run c (.ops [⟨some 10, .move (.tmp 4), 3, none⟩, ⟨some 11, .binOp .add 3 (.tmp 10) (.const (.int .i64 1)) 3, 3, none⟩, ⟨some 4, .assign (.tmp 11), 3, none⟩]) e ks := (rfl)
def q_s_l5Put_c3 : QCode := .seq (.block 1 (.seq (.draw [⟨some 12, .move (.tmp 3), 9, none⟩, ⟨some 13, .binOp .add 9 (.tmp 12) (.const (.string { data := #[64, 32] })) 9, 9, none⟩, ⟨some 14, .move (.tmp 0), 25, none⟩, ⟨some 15, .move (.tmp 4), 3, none⟩, ⟨some 16, .indexAddr 25 (.tmp 14) (.tmp 15), 0, none⟩, ⟨some 17, .fieldAddr 52 (.tmp 16) 0, 0, none⟩, ⟨some 18, .load 3 (.tmp 17), 3, none⟩, ⟨some 19, .call { callee := .value (.func 57), args := #[.tmp 18], argTypes := #[3] }, 9, none⟩, ⟨some 20, .binOp .add 9 (.tmp 13) (.tmp 19) 9, 9, none⟩, ⟨some 21, .binOp .add 9 (.tmp 20) (.const (.string { data := #[32] })) 9, 9, none⟩, ⟨some 22, .move (.tmp 0), 25, none⟩, ⟨some 23, .move (.tmp 4), 3, none⟩, ⟨some 24, .indexAddr 25 (.tmp 22) (.tmp 23), 0, none⟩, ⟨some 25, .fieldAddr 52 (.tmp 24) 1, 0, none⟩, ⟨some 26, .load 48 (.tmp 25), 48, none⟩, ⟨some 27, .call { callee := .builtin .len, args := #[.tmp 26], argTypes := #[48] }, 3, none⟩, ⟨some 28, .call { callee := .value (.func 57), args := #[.tmp 27], argTypes := #[3] }, 9, none⟩] [⟨some 29, .binOp .add 9 (.tmp 21) (.tmp 28) 9, 9, none⟩, ⟨some 30, .binOp .add 9 (.tmp 29) (.const (.string { data := #[10] })) 9, 9, none⟩, ⟨some 3, .assign (.tmp 30), 9, none⟩]) (.seq (.ops [⟨some 5, .assign (.const (.int .i64 0)), 3, none⟩]) (.block 2 (.loop q_s_l5Put_l0))))) (q_s_l5Put_c2)
@[simp] theorem q_s_l5Put_c3_run (c : Ctx) (e : Env) (ks : List Fr) : Run c q_s_l5Put_c3 e ks = Run c (.seq (.block 1 (.seq (.draw [⟨some 12, .move (.tmp 3), 9, none⟩, ⟨some 13, .binOp .add 9 (.tmp 12) (.const (.string { data := #[64, 32] })) 9, 9, none⟩, ⟨some 14, .move (.tmp 0), 25, none⟩, ⟨some 15, .move (.tmp 4), 3, none⟩, ⟨some 16, .indexAddr 25 (.tmp 14) (.tmp 15), 0, none⟩, ⟨some 17, .fieldAddr 52 (.tmp 16) 0, 0, none⟩, ⟨some 18, .load 3 (.tmp 17), 3, none⟩, ⟨some 19, .call { callee := .value (.func 57), args := #[.tmp 18], argTypes := #[3] }, 9, none⟩, ⟨some 20, .binOp .add 9 (.tmp 13) (.tmp 19) 9, 9, none⟩, ⟨some 21, .binOp .add 9 (.tmp 20) (.const (.string { data := #[32] })) 9, 9, none⟩, ⟨some 22, .move (.tmp 0), 25, none⟩, ⟨some 23, .move (.tmp 4), 3, none⟩, ⟨some 24, .indexAddr 25 (.tmp 22) (.tmp 23), 0, none⟩, ⟨some 25, .fieldAddr 52 (.tmp 24) 1, 0, none⟩, ⟨some 26, .load 48 (.tmp 25), 48, none⟩, ⟨some 27, .call { callee := .builtin .len, args := #[.tmp 26], argTypes := #[48] }, 3, none⟩, ⟨some 28, .call { callee := .value (.func 57), args := #[.tmp 27], argTypes := #[3] }, 9, none⟩] [⟨some 29, .binOp .add 9 (.tmp 21) (.tmp 28) 9, 9, none⟩, ⟨some 30, .binOp .add 9 (.tmp 29) (.const (.string { data := #[10] })) 9, 9, none⟩, ⟨some 3, .assign (.tmp 30), 9, none⟩]) (.seq (.ops [⟨some 5, .assign (.const (.int .i64 0)), 3, none⟩]) (.block 2 (.loop q_s_l5Put_l0))))) (q_s_l5Put_c2)) e ks := (rfl)
def q_s_l5Put_l1 : QCode := .seq (.seq (.ops [⟨some 6, .move (.tmp 4), 3, none⟩, ⟨some 7, .move (.tmp 0), 25, none⟩, ⟨some 8, .call { callee := .builtin .len, args := #[.tmp 7], argTypes := #[25] }, 3, none⟩, ⟨some 9, .binOp .lss 3 (.tmp 6) (.tmp 8) 3, 4, none⟩]) (.cond (.tmp 9) (.skip) (.exit 0))) (q_s_l5Put_c3)
@[simp] theorem q_s_l5Put_l1_run (c : Ctx) (e : Env) (ks : List Fr) : Run c q_s_l5Put_l1 e ks = Run c (.seq (.seq (.ops [⟨some 6, .move (.tmp 4), 3, none⟩, ⟨some 7, .move (.tmp 0), 25, none⟩, ⟨some 8, .call { callee := .builtin .len, args := #[.tmp 7], argTypes := #[25] }, 3, none⟩, ⟨some 9, .binOp .lss 3 (.tmp 6) (.tmp 8) 3, 4, none⟩]) (.cond (.tmp 9) (.skip) (.exit 0))) (q_s_l5Put_c3)) e ks := (rfl)
def q_s_l5Put_c4 : QCode := .seq (.ops [⟨some 52, .move (.tmp 3), 9, none⟩, ⟨some 2, .assign (.tmp 52), 9, none⟩]) (.ret)
@[simp] theorem q_s_l5Put_c4_run (c : Ctx) (e : Env) (ks : List Fr) : Run c q_s_l5Put_c4 e ks = Run c (.seq (.ops [⟨some 52, .move (.tmp 3), 9, none⟩, ⟨some 2, .assign (.tmp 52), 9, none⟩]) (.ret)) e ks := (rfl)
@[simp] def q_s_l5Put : QFn := ⟨53, [(.tmp 2, 9)], .seq (.ops [⟨some 2, .assign (.const (.string { data := #[] })), 9, none⟩]) (.seq (.ops [⟨some 3, .assign (.const (.string { data := #[] })), 9, none⟩]) (.seq (.seq (.ops [⟨some 4, .assign (.const (.int .i64 0)), 3, none⟩]) (.block 0 (.loop q_s_l5Put_l1))) (q_s_l5Put_c4)))⟩
theorem conv_s_l5Put : convF Tryd.f26 = some q_s_l5Put := by kernel_rfl
/-! 27 w_toHunk -/
abbrev fn_w_toHunk : FuncId := 27
@[simp] def q_w_toHunk : QFn := ⟨12, [(.cell 2 52, 52)], .seq (.ops [⟨some 1, .box 50 (.tmp 0), 0, none⟩, ⟨some 2, .alloc 52, 0, none⟩]) (.seq (.ops [⟨some 3, .alloc 52, 0, none⟩]) (.seq (.ops [⟨some 4, .fieldAddr 50 (.tmp 1) 0, 0, none⟩, ⟨some 5, .load 3 (.tmp 4), 3, none⟩, ⟨some 6, .fieldAddr 52 (.tmp 3) 0, 0, none⟩, ⟨none, .store 3 (.tmp 6) (.tmp 5), 0, none⟩]) (.seq (.ops [⟨some 7, .fieldAddr 50 (.tmp 1) 1, 0, none⟩, ⟨some 8, .load 48 (.tmp 7), 48, none⟩, ⟨some 9, .call { callee := .value (.func 58), args := #[.tmp 8], argTypes := #[48] }, 48, none⟩, ⟨some 10, .fieldAddr 52 (.tmp 3) 1, 0, none⟩, ⟨none, .store 48 (.tmp 10) (.tmp 9), 0, none⟩]) (.seq (.ops [⟨some 11, .load 52 (.tmp 3), 52, none⟩, ⟨none, .store 52 (.tmp 2) (.tmp 11), 0, none⟩]) (.ret)))))⟩
theorem conv_w_toHunk : convF Tryd.f27 = some q_w_toHunk := by kernel_rfl
/-! 28 i_HunksOk -/
abbrev fn_i_HunksOk : FuncId := 28
def q_i_HunksOk_c0 : QCode := .seq (.ops [⟨some 43, .fieldAddr 52 (.tmp 5) 1, 0, none⟩, ⟨some 44, .load 48 (.tmp 43), 48, none⟩, ⟨some 45, .call { callee := .value (.func 61), args := #[.tmp 44], argTypes := #[48] }, 94, none⟩, ⟨some 42, .move (.tmp 45), 94, none⟩, ⟨some 46, .extract (.tmp 42) 0, 48, none⟩, ⟨some 47, .extract (.tmp 42) 1, 48, none⟩, ⟨some 6, .assign (.tmp 46), 48, none⟩, ⟨some 7, .assign (.tmp 47), 48, none⟩]) (.ops [⟨some 48, .fieldAddr 52 (.tmp 5) 0, 0, none⟩, ⟨some 49, .load 3 (.tmp 48), 3, none⟩, ⟨some 50, .move (.tmp 6), 48, none⟩, ⟨some 51, .call { callee := .builtin .len, args := #[.tmp 50], argTypes := #[48] }, 3, none⟩, ⟨some 52, .binOp .add 3 (.tmp 49) (.tmp 51) 3, 3, none⟩, ⟨some 3, .assign (.tmp 52), 3, none⟩])
@[simp] theorem q_i_HunksOk_c0_run (c : Ctx) (e : Env) (ks : List Fr) : Run c q_i_HunksOk_c0 e ks = Run c (.seq (.ops [⟨some 43, .fieldAddr 52 (.tmp 5) 1, 0, none⟩, ⟨some 44, .load 48 (.tmp 43), 48, none⟩, ⟨some 45, .call { callee := .value (.func 61), args := #[.tmp 44], argTypes := #[48] }, 94, none⟩, ⟨some 42, .move (.tmp 45), 94, none⟩, ⟨some 46, .extract (.tmp 42) 0, 48, none⟩, ⟨some 47, .extract (.tmp 42) 1, 48, none⟩, ⟨some 6, .assign (.tmp 46), 48, none⟩, ⟨some 7, .assign (.tmp 47), 48, none⟩]) (.ops [⟨some 48, .fieldAddr 52 (.tmp 5) 0, 0, none⟩, ⟨some 49, .load 3 (.tmp 48), 3, none⟩, ⟨some 50, .move (.tmp 6), 48, none⟩, ⟨some 51, .call { callee := .builtin .len, args := #[.tmp 50], argTypes := #[48] }, 3, none⟩, ⟨some 52, .binOp .add 3 (.tmp 49) (.tmp 51) 3, 3, none⟩, ⟨some 3, .assign (.tmp 52), 3, none⟩])) e ks := (rfl)
def q_i_HunksOk_c1 : QCode := .seq (.seq (.ops [⟨some 38, .fieldAddr 52 (.tmp 5) 1, 0, none⟩, ⟨some 39, .load 48 (.tmp 38), 48, none⟩, ⟨some 40, .call { callee := .value (.func 59), args := #[.tmp 39, .func 60], argTypes := #[48, 46] }, 4, none⟩, ⟨some 41, .unOp .not 4 (.tmp 40), 4, none⟩]) (.cond (.tmp 41) (.seq (.ops [⟨some 2, .assign (.const (.bool false)), 4, none⟩]) (.ret)) (.skip))) (q_i_HunksOk_c0)
@[simp] theorem q_i_HunksOk_c1_run (c : Ctx) (e : Env) (ks : List Fr) : Run c q_i_HunksOk_c1 e ks = Run c (.seq (.seq (.ops [⟨some 38, .fieldAddr 52 (.tmp 5) 1, 0, none⟩, ⟨some 39, .load 48 (.tmp 38), 48, none⟩, ⟨some 40, .call { callee := .value (.func 59), args := #[.tmp 39, .func 60], argTypes := #[48, 46] }, 4, none⟩, ⟨some 41, .unOp .not 4 (.tmp 40), 4, none⟩]) (.cond (.tmp 41) (.seq (.ops [⟨some 2, .assign (.const (.bool false)), 4, none⟩]) (.ret)) (.skip))) (q_i_HunksOk_c0)) e ks := (rfl)
def q_i_HunksOk_c2 : QCode := .ops [⟨some 53, .binOp .add 3 (.tmp 13) (.const (.int .i64 1)) 3, 3, none⟩, ⟨some 13, .move (.tmp 53), 3, none⟩]
@[simp] theorem q_i_HunksOk_c2_run (c : Ctx) (e : Env) (ks : List Fr) : Run c q_i_HunksOk_c2 e ks = Run c (.ops [⟨some 53, .binOp .add 3 (.tmp 13) (.const (.int .i64 1)) 3, 3, none⟩, ⟨some 13, .move (.tmp 53), 3, none⟩]) e ks := (rfl)
def q_i_HunksOk_c3 : QCode := .seq (.block 1 (.seq (.ops [⟨some 15, .indexAddr 25 (.tmp 11) (.tmp 13), 0, none⟩, ⟨some 16, .load 52 (.tmp 15), 52, none⟩, ⟨some 5, .alloc 52, 0, none⟩, ⟨none, .store 52 (.tmp 5) (.tmp 16), 0, none⟩]) (.seq (.seq (.ops [⟨some 17, .fieldAddr 52 (.tmp 5) 0, 0, none⟩, ⟨some 18, .load 3 (.tmp 17), 3, none⟩, ⟨some 19, .move (.tmp 3), 3, none⟩, ⟨some 20, .binOp .lss 3 (.tmp 18) (.tmp 19) 3, 4, none⟩, ⟨some 21, .move (.tmp 20), 4, none⟩, ⟨some 22, .fieldAddr 52 (.tmp 5) 0, 0, some (21, false)⟩, ⟨some 23, .load 3 (.tmp 22), 3, some (21, false)⟩, ⟨some 24, .binOp .gtr 3 (.tmp 23) (.const (.int .i64 999)) 3, 4, some (21, false)⟩, ⟨some 25, .pick (.tmp 21) (.const (.bool true)) (.tmp 24), 4, none⟩, ⟨some 26, .move (.tmp 25), 4, none⟩, ⟨some 27, .fieldAddr 52 (.tmp 5) 1, 0, some (26, false)⟩, ⟨some 28, .load 48 (.tmp 27), 48, some (26, false)⟩, ⟨some 29, .call { callee := .builtin .len, args := #[.tmp 28], argTypes := #[48] }, 3, some (26, false)⟩, ⟨some 30, .binOp .lss 3 (.tmp 29) (.const (.int .i64 1)) 3, 4, some (26, false)⟩, ⟨some 31, .pick (.tmp 26) (.const (.bool true)) (.tmp 30), 4, none⟩, ⟨some 32, .move (.tmp 31), 4, none⟩, ⟨some 33, .fieldAddr 52 (.tmp 5) 1, 0, some (32, false)⟩, ⟨some 34, .load 48 (.tmp 33), 48, some (32, false)⟩, ⟨some 35, .call { callee := .builtin .len, args := #[.tmp 34], argTypes := #[48] }, 3, some (32, false)⟩, ⟨some 36, .binOp .gtr 3 (.tmp 35) (.const (.int .i64 30)) 3, 4, some (32, false)⟩, ⟨some 37, .pick (.tmp 32) (.const (.bool true)) (.tmp 36), 4, none⟩]) (.cond (.tmp 37) (.seq (.ops [⟨some 2, .assign (.const (.bool false)), 4, none⟩]) (.ret)) (.skip))) (q_i_HunksOk_c1)))) (q_i_HunksOk_c2)
@[simp] theorem q_i_HunksOk_c3_run (c : Ctx) (e : Env) (ks : List Fr) : Run c q_i_HunksOk_c3 e ks = Run c (.seq (.block 1 (.seq (.ops [⟨some 15, .indexAddr 25 (.tmp 11) (.tmp 13), 0, none⟩, ⟨some 16, .load 52 (.tmp 15), 52, none⟩, ⟨some 5, .alloc 52, 0, none⟩, ⟨none, .store 52 (.tmp 5) (.tmp 16), 0, none⟩]) (.seq (.seq (.ops [⟨some 17, .fieldAddr 52 (.tmp 5) 0, 0, none⟩, ⟨some 18, .load 3 (.tmp 17), 3, none⟩, ⟨some 19, .move (.tmp 3), 3, none⟩, ⟨some 20, .binOp .lss 3 (.tmp 18) (.tmp 19) 3, 4, none⟩, ⟨some 21, .move (.tmp 20), 4, none⟩, ⟨some 22, .fieldAddr 52 (.tmp 5) 0, 0, some (21, false)⟩, ⟨some 23, .load 3 (.tmp 22), 3, some (21, false)⟩, ⟨some 24, .binOp .gtr 3 (.tmp 23) (.const (.int .i64 999)) 3, 4, some (21, false)⟩, ⟨some 25, .pick (.tmp 21) (.const (.bool true)) (.tmp 24), 4, none⟩, ⟨some 26, .move (.tmp 25), 4, none⟩, ⟨some 27, .fieldAddr 52 (.tmp 5) 1, 0, some (26, false)⟩, ⟨some 28, .load 48 (.tmp 27), 48, some (26, false)⟩, ⟨some 29, .call { callee := .builtin .len, args := #[.tmp 28], argTypes := #[48] }, 3, some (26, false)⟩, ⟨some 30, .binOp .lss 3 (.tmp 29) (.const (.int .i64 1)) 3, 4, some (26, false)⟩, ⟨some 31, .pick (.tmp 26) (.const (.bool true)) (.tmp 30), 4, none⟩, ⟨some 32, .move (.tmp 31), 4, none⟩, ⟨some 33, .fieldAddr 52 (.tmp 5) 1, 0, some (32, false)⟩, ⟨some 34, .load 48 (.tmp 33), 48, some (32, false)⟩, ⟨some 35, .call { callee := .builtin .len, args := #[.tmp 34], argTypes := #[48] }, 3, some (32, false)⟩, ⟨some 36, .binOp .gtr 3 (.tmp 35) (.const (.int .i64 30)) 3, 4, some (32, false)⟩, ⟨some 37, .pick (.tmp 32) (.const (.bool true)) (.tmp 36), 4, none⟩]) (.cond (.tmp 37) (.seq (.ops [⟨some 2, .assign (.const (.bool false)), 4, none⟩]) (.ret)) (.skip))) (q_i_HunksOk_c1)))) (q_i_HunksOk_c2)) e ks := (rfl)
def q_i_HunksOk_l0 : QCode := .seq (.ops [⟨some 14, .binOp .lss 3 (.tmp 13) (.tmp 12) 3, 0, none⟩]) (.seq (.cond (.tmp 14) (.skip) (.exit 0)) (q_i_HunksOk_c3))
@[simp] theorem q_i_HunksOk_l0_run (c : Ctx) (e : Env) (ks : List Fr) : Run c q_i_HunksOk_l0 e ks = Run c (.seq (.ops [⟨some 14, .binOp .lss 3 (.tmp 13) (.tmp 12) 3, 0, none⟩]) (.seq (.cond (.tmp 14) (.skip) (.exit 0)) (q_i_HunksOk_c3))) e ks := (rfl)
def q_i_HunksOk_c4 : QCode := .seq (.ops [⟨some 2, .assign (.const (.bool true)), 4, none⟩]) (.ret)
@[simp] theorem q_i_HunksOk_c4_run (c : Ctx) (e : Env) (ks : List Fr) : Run c q_i_HunksOk_c4 e ks = Run c (.seq (.ops [⟨some 2, .assign (.const (.bool true)), 4, none⟩]) (.ret)) e ks := (rfl)
def q_i_HunksOk_c5 : QCode := .seq (.ops [⟨some 3, .assign (.const (.int .i64 1)), 3, none⟩]) (.seq (.seq (.ops [⟨some 11, .move (.tmp 0), 25, none⟩, ⟨some 12, .call { callee := .builtin .len, args := #[.tmp 11], argTypes := #[25] }, 3, none⟩, ⟨some 13, .move (.const (.int .i64 0)), 3, none⟩]) (.block 0 (.loop q_i_HunksOk_l0))) (q_i_HunksOk_c4))
@[simp] theorem q_i_HunksOk_c5_run (c : Ctx) (e : Env) (ks : List Fr) : Run c q_i_HunksOk_c5 e ks = Run c (.seq (.ops [⟨some 3, .assign (.const (.int .i64 1)), 3, none⟩]) (.seq (.seq (.ops [⟨some 11, .move (.tmp 0), 25, none⟩, ⟨some 12, .call { callee := .builtin .len, args := #[.tmp 11], argTypes := #[25] }, 3, none⟩, ⟨some 13, .move (.const (.int .i64 0)), 3, none⟩]) (.block 0 (.loop q_i_HunksOk_l0))) (q_i_HunksOk_c4))) e ks := (rfl)
@[simp] def q_i_HunksOk : QFn := ⟨54, [(.tmp 2, 4)], .seq (.ops [⟨some 2, .assign (.const (.bool false)), 4, none⟩]) (.seq (.seq (.ops [⟨some 8, .move (.tmp 0), 25, none⟩, ⟨some 9, .call { callee := .builtin .len, args := #[.tmp 8], argTypes := #[25] }, 3, none⟩, ⟨some 10, .binOp .gtr 3 (.tmp 9) (.const (.int .i64 4)) 3, 4, none⟩]) (.cond (.tmp 10) (.seq (.ops [⟨some 2, .assign (.const (.bool false)), 4, none⟩]) (.ret)) (.skip))) (q_i_HunksOk_c5))⟩
theorem conv_i_HunksOk : convF Tryd.f28 = some q_i_HunksOk := by kernel_rfl
/-! 32 w_eqHunk -/
abbrev fn_w_eqHunk : FuncId := 32
def q_w_eqHunk_c0 : QCode := .seq (.ops [⟨some 4, .assign (.const (.bool true)), 4, none⟩]) (.ret)
@[simp] theorem q_w_eqHunk_c0_run (c : Ctx) (e : Env) (ks : List Fr) : Run c q_w_eqHunk_c0 e ks = Run c (.seq (.ops [⟨some 4, .assign (.const (.bool true)), 4, none⟩]) (.ret)) e ks := (rfl)
def q_w_eqHunk_c1 : QCode := .seq (.seq (.ops [⟨some 10, .fieldAddr 52 (.tmp 2) 1, 0, none⟩, ⟨some 11, .load 48 (.tmp 10), 48, none⟩, ⟨some 12, .fieldAddr 52 (.tmp 3) 1, 0, none⟩, ⟨some 13, .load 48 (.tmp 12), 48, none⟩, ⟨some 14, .call { callee := .value (.func 64), args := #[.tmp 11, .tmp 13], argTypes := #[48, 48] }, 4, none⟩, ⟨some 15, .unOp .not 4 (.tmp 14), 4, none⟩]) (.cond (.tmp 15) (.seq (.ops [⟨some 4, .assign (.const (.bool false)), 4, none⟩]) (.ret)) (.skip))) (q_w_eqHunk_c0)
@[simp] theorem q_w_eqHunk_c1_run (c : Ctx) (e : Env) (ks : List Fr) : Run c q_w_eqHunk_c1 e ks = Run c (.seq (.seq (.ops [⟨some 10, .fieldAddr 52 (.tmp 2) 1, 0, none⟩, ⟨some 11, .load 48 (.tmp 10), 48, none⟩, ⟨some 12, .fieldAddr 52 (.tmp 3) 1, 0, none⟩, ⟨some 13, .load 48 (.tmp 12), 48, none⟩, ⟨some 14, .call { callee := .value (.func 64), args := #[.tmp 11, .tmp 13], argTypes := #[48, 48] }, 4, none⟩, ⟨some 15, .unOp .not 4 (.tmp 14), 4, none⟩]) (.cond (.tmp 15) (.seq (.ops [⟨some 4, .assign (.const (.bool false)), 4, none⟩]) (.ret)) (.skip))) (q_w_eqHunk_c0)) e ks := (rfl)
@[simp] def q_w_eqHunk : QFn := ⟨16, [(.tmp 4, 4)], .seq (.ops [⟨some 2, .box 52 (.tmp 0), 0, none⟩, ⟨some 3, .box 52 (.tmp 1), 0, none⟩, ⟨some 4, .assign (.const (.bool false)), 4, none⟩]) (.seq (.seq (.ops [⟨some 5, .fieldAddr 52 (.tmp 2) 0, 0, none⟩, ⟨some 6, .load 3 (.tmp 5), 3, none⟩, ⟨some 7, .fieldAddr 52 (.tmp 3) 0, 0, none⟩, ⟨some 8, .load 3 (.tmp 7), 3, none⟩, ⟨some 9, .binOp .neq 3 (.tmp 6) (.tmp 8) 3, 4, none⟩]) (.cond (.tmp 9) (.seq (.ops [⟨some 4, .assign (.const (.bool false)), 4, none⟩]) (.ret)) (.skip))) (q_w_eqHunk_c1))⟩
theorem conv_w_eqHunk : convF Tryd.f32 = some q_w_eqHunk := by kernel_rfl
/-! 50 s_l5Get -/
abbrev fn_s_l5Get : FuncId := 50
def q_s_l5Get_c0 : QCode := .seq (.seq (.ice [5]) (.draw [⟨some 53, .move (.tmp 4), 25, none⟩, ⟨some 54, .move (.tmp 7), 48, none⟩, ⟨some 55, .indexAddr 48 (.tmp 54) (.const (.int .i64 1)), 0, none⟩, ⟨some 56, .load 9 (.tmp 55), 9, none⟩, ⟨some 57, .call { callee := .value (.func 77), args := #[.tmp 56], argTypes := #[9] }, 3, none⟩, ⟨some 58, .buildSlice 48 0 #[], 48, none⟩, ⟨some 59, .move (.tmp 5), 48, none⟩, ⟨some 60, .move (.tmp 6), 3, none⟩, ⟨some 61, .binOp .add 3 (.tmp 60) (.const (.int .i64 1)) 3, 3, none⟩, ⟨some 62, .move (.tmp 6), 3, none⟩, ⟨some 63, .binOp .add 3 (.tmp 62) (.const (.int .i64 1)) 3, 3, none⟩, ⟨some 64, .move (.tmp 8), 3, none⟩, ⟨some 65, .binOp .add 3 (.tmp 63) (.tmp 64) 3, 3, none⟩, ⟨some 66, .slice 48 (.tmp 59) (some (.tmp 61)) (some (.tmp 65)) none, 48, none⟩] [⟨some 67, .call { callee := .builtin .append, args := #[.tmp 58, .tmp 66], argTypes := #[48, 48] }, 48, none⟩, ⟨some 68, .build 52 #[(0, .tmp 57), (1, .tmp 67)], 52, none⟩, ⟨some 69, .buildSlice 25 1 #[(0, .tmp 68)], 25, none⟩, ⟨some 70, .call { callee := .builtin .append, args := #[.tmp 53, .tmp 69], argTypes := #[25, 25] }, 25, none⟩, ⟨some 4, .assign (.tmp 70), 25, none⟩])) (.ops [⟨some 71, .move (.tmp 6), 3, none⟩, ⟨some 72, .binOp .add 3 (.tmp 71) (.const (.int .i64 1)) 3, 3, none⟩, ⟨some 73, .move (.tmp 8), 3, none⟩, ⟨some 74, .binOp .add 3 (.tmp 72) (.tmp 73) 3, 3, none⟩, ⟨some 6, .assign (.tmp 74), 3, none⟩])
@[simp] theorem q_s_l5Get_c0_run (c : Ctx) (e : Env) (ks : List Fr) : Run c q_s_l5Get_c0 e ks = Run c (.seq (.seq (.ice [5]) (.draw [⟨some 53, .move (.tmp 4), 25, none⟩, ⟨some 54, .move (.tmp 7), 48, none⟩, ⟨some 55, .indexAddr 48 (.tmp 54) (.const (.int .i64 1)), 0, none⟩, ⟨some 56, .load 9 (.tmp 55), 9, none⟩, ⟨some 57, .call { callee := .value (.func 77), args := #[.tmp 56], argTypes := #[9] }, 3, none⟩, ⟨some 58, .buildSlice 48 0 #[], 48, none⟩, ⟨some 59, .move (.tmp 5), 48, none⟩, ⟨some 60, .move (.tmp 6), 3, none⟩, ⟨some 61, .binOp .add 3 (.tmp 60) (.const (.int .i64 1)) 3, 3, none⟩, ⟨some 62, .move (.tmp 6), 3, none⟩, ⟨some 63, .binOp .add 3 (.tmp 62) (.const (.int .i64 1)) 3, 3, none⟩, ⟨some 64, .move (.tmp 8), 3, none⟩, ⟨some 65, .binOp .add 3 (.tmp 63) (.tmp 64) 3, 3, none⟩, ⟨some 66, .slice 48 (.tmp 59) (some (.tmp 61)) (some (.tmp 65)) none, 48, none⟩] [⟨some 67, .call { callee := .builtin .append, args := #[.tmp 58, .tmp 66], argTypes := #[48, 48] }, 48, none⟩, ⟨some 68, .build 52 #[(0, .tmp 57), (1, .tmp 67)], 52, none⟩, ⟨some 69, .buildSlice 25 1 #[(0, .tmp 68)], 25, none⟩, ⟨some 70, .call { callee := .builtin .append, args := #[.tmp 53, .tmp 69], argTypes := #[25, 25] }, 25, none⟩, ⟨some 4, .assign (.tmp 70), 25, none⟩])) (.ops [⟨some 71, .move (.tmp 6), 3, none⟩, ⟨some 72, .binOp .add 3 (.tmp 71) (.const (.int .i64 1)) 3, 3, none⟩, ⟨some 73, .move (.tmp 8), 3, none⟩, ⟨some 74, .binOp .add 3 (.tmp 72) (.tmp 73) 3, 3, none⟩, ⟨some 6, .assign (.tmp 74), 3, none⟩])) e ks := (rfl)
def q_s_l5Get_c1 : QCode := .seq (.ops [⟨some 40, .move (.tmp 7), 48, none⟩, ⟨some 41, .indexAddr 48 (.tmp 40) (.const (.int .i64 2)), 0, none⟩, ⟨some 42, .load 9 (.tmp 41), 9, none⟩, ⟨some 43, .call { callee := .value (.func 77), args := #[.tmp 42], argTypes := #[9] }, 3, none⟩, ⟨some 8, .assign (.tmp 43), 3, none⟩]) (.seq (.seq (.ops [⟨some 44, .move (.tmp 8), 3, none⟩, ⟨some 45, .move (.tmp 5), 48, none⟩, ⟨some 46, .call { callee := .builtin .len, args := #[.tmp 45], argTypes := #[48] }, 3, none⟩, ⟨some 47, .move (.tmp 6), 3, none⟩, ⟨some 48, .binOp .sub 3 (.tmp 46) (.tmp 47) 3, 3, none⟩, ⟨some 49, .binOp .sub 3 (.tmp 48) (.const (.int .i64 2)) 3, 3, none⟩, ⟨some 50, .call { callee := .value (.func 73), args := #[.tmp 44, .const (.int .i64 1), .tmp 49], argTypes := #[3, 3, 3] }, 4, none⟩, ⟨some 51, .unOp .not 4 (.tmp 50), 4, none⟩]) (.cond (.tmp 51) (.seq (.ops [⟨some 52, .move (.tmp 4), 25, none⟩, ⟨some 2, .assign (.tmp 52), 25, none⟩, ⟨some 3, .assign (.const (.bool false)), 4, none⟩]) (.ret)) (.skip))) (q_s_l5Get_c0))
@[simp] theorem q_s_l5Get_c1_run (c : Ctx) (e : Env) (ks : List Fr) : Run c q_s_l5Get_c1 e ks = Run c (.seq (.ops [⟨some 40, .move (.tmp 7), 48, none⟩, ⟨some 41, .indexAddr 48 (.tmp 40) (.const (.int .i64 2)), 0, none⟩, ⟨some 42, .load 9 (.tmp 41), 9, none⟩, ⟨some 43, .call { callee := .value (.func 77), args := #[.tmp 42], argTypes := #[9] }, 3, none⟩, ⟨some 8, .assign (.tmp 43), 3, none⟩]) (.seq (.seq (.ops [⟨some 44, .move (.tmp 8), 3, none⟩, ⟨some 45, .move (.tmp 5), 48, none⟩, ⟨some 46, .call { callee := .builtin .len, args := #[.tmp 45], argTypes := #[48] }, 3, none⟩, ⟨some 47, .move (.tmp 6), 3, none⟩, ⟨some 48, .binOp .sub 3 (.tmp 46) (.tmp 47) 3, 3, none⟩, ⟨some 49, .binOp .sub 3 (.tmp 48) (.const (.int .i64 2)) 3, 3, none⟩, ⟨some 50, .call { callee := .value (.func 73), args := #[.tmp 44, .const (.int .i64 1), .tmp 49], argTypes := #[3, 3, 3] }, 4, none⟩, ⟨some 51, .unOp .not 4 (.tmp 50), 4, none⟩]) (.cond (.tmp 51) (.seq (.ops [⟨some 52, .move (.tmp 4), 25, none⟩, ⟨some 2, .assign (.tmp 52), 25, none⟩, ⟨some 3, .assign (.const (.bool false)), 4, none⟩]) (.ret)) (.skip))) (q_s_l5Get_c0))) e ks := (rfl)
def q_s_l5Get_c2 : QCode := .block 1 (.seq (.ops [⟨some 25, .move (.tmp 5), 48, none⟩, ⟨some 26, .move (.tmp 6), 3, none⟩, ⟨some 27, .indexAddr 48 (.tmp 25) (.tmp 26), 0, none⟩, ⟨some 28, .load 9 (.tmp 27), 9, none⟩, ⟨some 29, .call { callee := .value (.func 76), args := #[.tmp 28, .const (.int .u8 32), .const (.int .i64 2)], argTypes := #[9, 5, 3] }, 48, none⟩, ⟨some 7, .assign (.tmp 29), 48, none⟩]) (.seq (.seq (.ops [⟨some 30, .move (.tmp 7), 48, none⟩, ⟨some 31, .call { callee := .builtin .len, args := #[.tmp 30], argTypes := #[48] }, 3, none⟩, ⟨some 32, .binOp .neq 3 (.tmp 31) (.const (.int .i64 3)) 3, 4, none⟩, ⟨some 33, .move (.tmp 32), 4, none⟩, ⟨some 34, .move (.tmp 7), 48, some (33, false)⟩, ⟨some 35, .indexAddr 48 (.tmp 34) (.const (.int .i64 0)), 0, some (33, false)⟩, ⟨some 36, .load 9 (.tmp 35), 9, some (33, false)⟩, ⟨some 37, .binOp .neq 9 (.tmp 36) (.const (.string { data := #[64] })) 9, 4, some (33, false)⟩, ⟨some 38, .pick (.tmp 33) (.const (.bool true)) (.tmp 37), 4, none⟩]) (.cond (.tmp 38) (.seq (.ops [⟨some 39, .move (.tmp 4), 25, none⟩, ⟨some 2, .assign (.tmp 39), 25, none⟩, ⟨some 3, .assign (.const (.bool false)), 4, none⟩]) (.ret)) (.skip))) (q_s_l5Get_c1)))
@[simp] theorem q_s_l5Get_c2_run (c : Ctx) (e : Env) (ks : List Fr) : Run c q_s_l5Get_c2 e ks = Run c (.block 1 (.seq (.ops [⟨some 25, .move (.tmp 5), 48, none⟩, ⟨some 26, .move (.tmp 6), 3, none⟩, ⟨some 27, .indexAddr 48 (.tmp 25) (.tmp 26), 0, none⟩, ⟨some 28, .load 9 (.tmp 27), 9, none⟩, ⟨some 29, .call { callee := .value (.func 76), args := #[.tmp 28, .const (.int .u8 32), .const (.int .i64 2)], argTypes := #[9, 5, 3] }, 48, none⟩, ⟨some 7, .assign (.tmp 29), 48, none⟩]) (.seq (.seq (.ops [⟨some 30, .move (.tmp 7), 48, none⟩, ⟨some 31, .call { callee := .builtin .len, args := #[.tmp 30], argTypes := #[48] }, 3, none⟩, ⟨some 32, .binOp .neq 3 (.tmp 31) (.const (.int .i64 3)) 3, 4, none⟩, ⟨some 33, .move (.tmp 32), 4, none⟩, ⟨some 34, .move (.tmp 7), 48, some (33, false)⟩, ⟨some 35, .indexAddr 48 (.tmp 34) (.const (.int .i64 0)), 0, some (33, false)⟩, ⟨some 36, .load 9 (.tmp 35), 9, some (33, false)⟩, ⟨some 37, .binOp .neq 9 (.tmp 36) (.const (.string { data := #[64] })) 9, 4, some (33, false)⟩, ⟨some 38, .pick (.tmp 33) (.const (.bool true)) (.tmp 37), 4, none⟩]) (.cond (.tmp 38) (.seq (.ops [⟨some 39, .move (.tmp 4), 25, none⟩, ⟨some 2, .assign (.tmp 39), 25, none⟩, ⟨some 3, .assign (.const (.bool false)), 4, none⟩]) (.ret)) (.skip))) (q_s_l5Get_c1)))) e ks := (rfl)
def q_s_l5Get_l0 : QCode := .seq (.seq (.ops [⟨some 15, .move (.tmp 6), 3, none⟩, ⟨some 16, .binOp .add 3 (.tmp 15) (.const (.int .i64 1)) 3, 3, none⟩, ⟨some 17, .move (.tmp 5), 48, none⟩, ⟨some 18, .call { callee := .builtin .len, args := #[.tmp 17], argTypes := #[48] }, 3, none⟩, ⟨some 19, .binOp .lss 3 (.tmp 16) (.tmp 18) 3, 4, none⟩, ⟨some 20, .move (.tmp 19), 4, none⟩, ⟨some 21, .move (.tmp 4), 25, some (20, true)⟩, ⟨some 22, .call { callee := .builtin .len, args := #[.tmp 21], argTypes := #[25] }, 3, some (20, true)⟩, ⟨some 23, .binOp .leq 3 (.tmp 22) (.const (.int .i64 4)) 3, 4, some (20, true)⟩, ⟨some 24, .pick (.tmp 20) (.tmp 23) (.const (.bool false)), 4, none⟩]) (.cond (.tmp 24) (.skip) (.exit 0))) (q_s_l5Get_c2)
@[simp] theorem q_s_l5Get_l0_run (c : Ctx) (e : Env) (ks : List Fr) : Run c q_s_l5Get_l0 e ks = Run c (.seq (.seq (.ops [⟨some 15, .move (.tmp 6), 3, none⟩, ⟨some 16, .binOp .add 3 (.tmp 15) (.const (.int .i64 1)) 3, 3, none⟩, ⟨some 17, .move (.tmp 5), 48, none⟩, ⟨some 18, .call { callee := .builtin .len, args := #[.tmp 17], argTypes := #[48] }, 3, none⟩, ⟨some 19, .binOp .lss 3 (.tmp 16) (.tmp 18) 3, 4, none⟩, ⟨some 20, .move (.tmp 19), 4, none⟩, ⟨some 21, .move (.tmp 4), 25, some (20, true)⟩, ⟨some 22, .call { callee := .builtin .len, args := #[.tmp 21], argTypes := #[25] }, 3, some (20, true)⟩, ⟨some 23, .binOp .leq 3 (.tmp 22) (.const (.int .i64 4)) 3, 4, some (20, true)⟩, ⟨some 24, .pick (.tmp 20) (.tmp 23) (.const (.bool false)), 4, none⟩]) (.cond (.tmp 24) (.skip) (.exit 0))) (q_s_l5Get_c2)) e ks := (rfl)
def q_s_l5Get_c3 : QCode := .seq (.ops [⟨some 75, .move (.tmp 4), 25, none⟩, ⟨some 76, .move (.tmp 4), 25, none⟩, ⟨some 77, .call { callee := .value (.func 25), args := #[.tmp 76], argTypes := #[25] }, 4, none⟩, ⟨some 78, .move (.tmp 77), 4, none⟩, ⟨some 79, .move (.tmp 4), 25, some (78, true)⟩, ⟨some 80, .call { callee := .value (.func 26), args := #[.tmp 79], argTypes := #[25] }, 9, some (78, true)⟩, ⟨some 81, .move (.tmp 0), 9, some (78, true)⟩, ⟨some 82, .binOp .eql 9 (.tmp 80) (.tmp 81) 9, 4, some (78, true)⟩, ⟨some 83, .pick (.tmp 78) (.tmp 82) (.const (.bool false)), 4, none⟩, ⟨some 2, .assign (.tmp 75), 25, none⟩, ⟨some 3, .assign (.tmp 83), 4, none⟩]) (.ret)
@[simp] theorem q_s_l5Get_c3_run (c : Ctx) (e : Env) (ks : List Fr) : Run c q_s_l5Get_c3 e ks = Run c (.seq (.ops [⟨some 75, .move (.tmp 4), 25, none⟩, ⟨some 76, .move (.tmp 4), 25, none⟩, ⟨some 77, .call { callee := .value (.func 25), args := #[.tmp 76], argTypes := #[25] }, 4, none⟩, ⟨some 78, .move (.tmp 77), 4, none⟩, ⟨some 79, .move (.tmp 4), 25, some (78, true)⟩, ⟨some 80, .call { callee := .value (.func 26), args := #[.tmp 79], argTypes := #[25] }, 9, some (78, true)⟩, ⟨some 81, .move (.tmp 0), 9, some (78, true)⟩, ⟨some 82, .binOp .eql 9 (.tmp 80) (.tmp 81) 9, 4, some (78, true)⟩, ⟨some 83, .pick (.tmp 78) (.tmp 82) (.const (.bool false)), 4, none⟩, ⟨some 2, .assign (.tmp 75), 25, none⟩, ⟨some 3, .assign (.tmp 83), 4, none⟩]) (.ret)) e ks := (rfl)
@[simp] def q_s_l5Get : QFn := ⟨84, [(.tmp 2, 25), (.tmp 3, 4)], .seq (.ops [⟨some 2, .assign (.const (.slice none 0 0)), 25, none⟩, ⟨some 3, .assign (.const (.bool false)), 4, none⟩]) (.seq (.ops [⟨some 9, .buildSlice 25 0 #[], 25, none⟩, ⟨some 4, .assign (.tmp 9), 25, none⟩]) (.seq (.ops [⟨some 10, .move (.tmp 0), 9, none⟩, ⟨some 11, .move (.tmp 0), 9, none⟩, ⟨some 12, .call { callee := .builtin .len, args := #[.tmp 11], argTypes := #[9] }, 3, none⟩, ⟨some 13, .binOp .add 3 (.tmp 12) (.const (.int .i64 1)) 3, 3, none⟩, ⟨some 14, .call { callee := .value (.func 76), args := #[.tmp 10, .const (.int .u8 10), .tmp 13], argTypes := #[9, 5, 3] }, 48, none⟩, ⟨some 5, .assign (.tmp 14), 48, none⟩]) (.seq (.seq (.ops [⟨some 6, .assign (.const (.int .i64 0)), 3, none⟩]) (.block 0 (.loop q_s_l5Get_l0))) (q_s_l5Get_c3))))⟩
theorem conv_s_l5Get : convF Tryd.f50 = some q_s_l5Get := by kernel_rfl
/-! 51 i_hunkReader_hunk -/
abbrev fn_i_hunkReader_hunk : FuncId := 51
def q_i_hunkReader_hunk_c0 : QCode := .ops [⟨some 69, .fieldAddr 52 (.tmp 11) 1, 0, none⟩, ⟨some 70, .load 48 (.tmp 69), 48, none⟩, ⟨some 71, .move (.tmp 12), 9, none⟩, ⟨some 72, .buildSlice 48 1 #[(0, .tmp 71)], 48, none⟩, ⟨some 73, .call { callee := .builtin .append, args := #[.tmp 70, .tmp 72], argTypes := #[48, 48] }, 48, none⟩, ⟨some 74, .fieldAddr 52 (.tmp 11) 1, 0, none⟩, ⟨none, .store 48 (.tmp 74) (.tmp 73), 0, none⟩]
@[simp] theorem q_i_hunkReader_hunk_c0_run (c : Ctx) (e : Env) (ks : List Fr) : Run c q_i_hunkReader_hunk_c0 e ks = Run c (.ops [⟨some 69, .fieldAddr 52 (.tmp 11) 1, 0, none⟩, ⟨some 70, .load 48 (.tmp 69), 48, none⟩, ⟨some 71, .move (.tmp 12), 9, none⟩, ⟨some 72, .buildSlice 48 1 #[(0, .tmp 71)], 48, none⟩, ⟨some 73, .call { callee := .builtin .append, args := #[.tmp 70, .tmp 72], argTypes := #[48, 48] }, 48, none⟩, ⟨some 74, .fieldAddr 52 (.tmp 11) 1, 0, none⟩, ⟨none, .store 48 (.tmp 74) (.tmp 73), 0, none⟩]) e ks := (rfl)
def q_i_hunkReader_hunk_c1 : QCode := .ops [⟨some 75, .binOp .add 3 (.tmp 57) (.const (.int .i64 1)) 3, 3, none⟩, ⟨some 57, .move (.tmp 75), 3, none⟩]
@[simp] theorem q_i_hunkReader_hunk_c1_run (c : Ctx) (e : Env) (ks : List Fr) : Run c q_i_hunkReader_hunk_c1 e ks = Run c (.ops [⟨some 75, .binOp .add 3 (.tmp 57) (.const (.int .i64 1)) 3, 3, none⟩, ⟨some 57, .move (.tmp 75), 3, none⟩]) e ks := (rfl)
def q_i_hunkReader_hunk_c2 : QCode := .seq (.block 1 (.seq (.ops [⟨some 60, .move (.tmp 0), 113, none⟩, ⟨some 61, .nilCheck (.tmp 60), 0, none⟩, ⟨some 62, .fieldAddr 86 (.tmp 61) 0, 0, none⟩, ⟨some 63, .call { callee := .value (.func 78), args := #[.tmp 62], argTypes := #[84] }, 114, none⟩, ⟨some 59, .move (.tmp 63), 114, none⟩, ⟨some 64, .extract (.tmp 59) 0, 9, none⟩, ⟨some 65, .extract (.tmp 59) 1, 4, none⟩, ⟨some 12, .assign (.tmp 64), 9, none⟩, ⟨some 13, .assign (.tmp 65), 4, none⟩]) (.seq (.seq (.ops [⟨some 66, .move (.tmp 13), 4, none⟩, ⟨some 67, .unOp .not 4 (.tmp 66), 4, none⟩]) (.cond (.tmp 67) (.seq (.ops [⟨some 68, .build 52 #[], 52, none⟩, ⟨none, .store 52 (.tmp 2) (.tmp 68), 0, none⟩, ⟨some 3, .assign (.const (.bool false)), 4, none⟩]) (.ret)) (.skip))) (q_i_hunkReader_hunk_c0)))) (q_i_hunkReader_hunk_c1)
@[simp] theorem q_i_hunkReader_hunk_c2_run (c : Ctx) (e : Env) (ks : List Fr) : Run c q_i_hunkReader_hunk_c2 e ks = Run c (.seq (.block 1 (.seq (.ops [⟨some 60, .move (.tmp 0), 113, none⟩, ⟨some 61, .nilCheck (.tmp 60), 0, none⟩, ⟨some 62, .fieldAddr 86 (.tmp 61) 0, 0, none⟩, ⟨some 63, .call { callee := .value (.func 78), args := #[.tmp 62], argTypes := #[84] }, 114, none⟩, ⟨some 59, .move (.tmp 63), 114, none⟩, ⟨some 64, .extract (.tmp 59) 0, 9, none⟩, ⟨some 65, .extract (.tmp 59) 1, 4, none⟩, ⟨some 12, .assign (.tmp 64), 9, none⟩, ⟨some 13, .assign (.tmp 65), 4, none⟩]) (.seq (.seq (.ops [⟨some 66, .move (.tmp 13), 4, none⟩, ⟨some 67, .unOp .not 4 (.tmp 66), 4, none⟩]) (.cond (.tmp 67) (.seq (.ops [⟨some 68, .build 52 #[], 52, none⟩, ⟨none, .store 52 (.tmp 2) (.tmp 68), 0, none⟩, ⟨some 3, .assign (.const (.bool false)), 4, none⟩]) (.ret)) (.skip))) (q_i_hunkReader_hunk_c0)))) (q_i_hunkReader_hunk_c1)) e ks := (rfl)
def q_i_hunkReader_hunk_l0 : QCode := .seq (.ops [⟨some 58, .binOp .lss 3 (.tmp 57) (.tmp 56) 3, 4, none⟩]) (.seq (.cond (.tmp 58) (.skip) (.exit 0)) (q_i_hunkReader_hunk_c2))
@[simp] theorem q_i_hunkReader_hunk_l0_run (c : Ctx) (e : Env) (ks : List Fr) : Run c q_i_hunkReader_hunk_l0 e ks = Run c (.seq (.ops [⟨some 58, .binOp .lss 3 (.tmp 57) (.tmp 56) 3, 4, none⟩]) (.seq (.cond (.tmp 58) (.skip) (.exit 0)) (q_i_hunkReader_hunk_c2))) e ks := (rfl)
def q_i_hunkReader_hunk_c3 : QCode := .seq (.ops [⟨some 76, .load 52 (.tmp 11), 52, none⟩, ⟨none, .store 52 (.tmp 2) (.tmp 76), 0, none⟩, ⟨some 3, .assign (.const (.bool true)), 4, none⟩]) (.ret)
@[simp] theorem q_i_hunkReader_hunk_c3_run (c : Ctx) (e : Env) (ks : List Fr) : Run c q_i_hunkReader_hunk_c3 e ks = Run c (.seq (.ops [⟨some 76, .load 52 (.tmp 11), 52, none⟩, ⟨none, .store 52 (.tmp 2) (.tmp 76), 0, none⟩, ⟨some 3, .assign (.const (.bool true)), 4, none⟩]) (.ret)) e ks := (rfl)
def q_i_hunkReader_hunk_c4 : QCode := .seq (.ops [⟨some 54, .move (.tmp 7), 3, none⟩, ⟨some 55, .build 52 #[(0, .tmp 54)], 52, none⟩, ⟨some 11, .alloc 52, 0, none⟩, ⟨none, .store 52 (.tmp 11) (.tmp 55), 0, none⟩]) (.seq (.seq (.ops [⟨some 56, .move (.tmp 9), 3, none⟩, ⟨some 57, .move (.const (.int .i64 0)), 3, none⟩]) (.block 0 (.loop q_i_hunkReader_hunk_l0))) (q_i_hunkReader_hunk_c3))
@[simp] theorem q_i_hunkReader_hunk_c4_run (c : Ctx) (e : Env) (ks : List Fr) : Run c q_i_hunkReader_hunk_c4 e ks = Run c (.seq (.ops [⟨some 54, .move (.tmp 7), 3, none⟩, ⟨some 55, .build 52 #[(0, .tmp 54)], 52, none⟩, ⟨some 11, .alloc 52, 0, none⟩, ⟨none, .store 52 (.tmp 11) (.tmp 55), 0, none⟩]) (.seq (.seq (.ops [⟨some 56, .move (.tmp 9), 3, none⟩, ⟨some 57, .move (.const (.int .i64 0)), 3, none⟩]) (.block 0 (.loop q_i_hunkReader_hunk_l0))) (q_i_hunkReader_hunk_c3))) e ks := (rfl)
def q_i_hunkReader_hunk_c5 : QCode := .seq (.ops [⟨some 34, .move (.tmp 6), 48, none⟩, ⟨some 35, .indexAddr 48 (.tmp 34) (.const (.int .i64 1)), 0, none⟩, ⟨some 36, .load 9 (.tmp 35), 9, none⟩, ⟨some 37, .call { callee := .value (.func 80), args := #[.tmp 36, .const (.int .i64 999)], argTypes := #[9, 3] }, 117, none⟩, ⟨some 33, .move (.tmp 37), 117, none⟩, ⟨some 38, .extract (.tmp 33) 0, 3, none⟩, ⟨some 39, .extract (.tmp 33) 1, 4, none⟩, ⟨some 7, .assign (.tmp 38), 3, none⟩, ⟨some 8, .assign (.tmp 39), 4, none⟩]) (.seq (.ops [⟨some 41, .move (.tmp 6), 48, none⟩, ⟨some 42, .indexAddr 48 (.tmp 41) (.const (.int .i64 2)), 0, none⟩, ⟨some 43, .load 9 (.tmp 42), 9, none⟩, ⟨some 44, .call { callee := .value (.func 80), args := #[.tmp 43, .const (.int .i64 30)], argTypes := #[9, 3] }, 117, none⟩, ⟨some 40, .move (.tmp 44), 117, none⟩, ⟨some 45, .extract (.tmp 40) 0, 3, none⟩, ⟨some 46, .extract (.tmp 40) 1, 4, none⟩, ⟨some 9, .assign (.tmp 45), 3, none⟩, ⟨some 10, .assign (.tmp 46), 4, none⟩]) (.seq (.seq (.ops [⟨some 47, .move (.tmp 8), 4, none⟩, ⟨some 48, .unOp .not 4 (.tmp 47), 4, none⟩, ⟨some 49, .move (.tmp 48), 4, none⟩, ⟨some 50, .move (.tmp 10), 4, some (49, false)⟩, ⟨some 51, .unOp .not 4 (.tmp 50), 4, some (49, false)⟩, ⟨some 52, .pick (.tmp 49) (.const (.bool true)) (.tmp 51), 4, none⟩]) (.cond (.tmp 52) (.seq (.ops [⟨some 53, .build 52 #[], 52, none⟩, ⟨none, .store 52 (.tmp 2) (.tmp 53), 0, none⟩, ⟨some 3, .assign (.const (.bool false)), 4, none⟩]) (.ret)) (.skip))) (q_i_hunkReader_hunk_c4)))
@[simp] theorem q_i_hunkReader_hunk_c5_run (c : Ctx) (e : Env) (ks : List Fr) : Run c q_i_hunkReader_hunk_c5 e ks = Run c (.seq (.ops [⟨some 34, .move (.tmp 6), 48, none⟩, ⟨some 35, .indexAddr 48 (.tmp 34) (.const (.int .i64 1)), 0, none⟩, ⟨some 36, .load 9 (.tmp 35), 9, none⟩, ⟨some 37, .call { callee := .value (.func 80), args := #[.tmp 36, .const (.int .i64 999)], argTypes := #[9, 3] }, 117, none⟩, ⟨some 33, .move (.tmp 37), 117, none⟩, ⟨some 38, .extract (.tmp 33) 0, 3, none⟩, ⟨some 39, .extract (.tmp 33) 1, 4, none⟩, ⟨some 7, .assign (.tmp 38), 3, none⟩, ⟨some 8, .assign (.tmp 39), 4, none⟩]) (.seq (.ops [⟨some 41, .move (.tmp 6), 48, none⟩, ⟨some 42, .indexAddr 48 (.tmp 41) (.const (.int .i64 2)), 0, none⟩, ⟨some 43, .load 9 (.tmp 42), 9, none⟩, ⟨some 44, .call { callee := .value (.func 80), args := #[.tmp 43, .const (.int .i64 30)], argTypes := #[9, 3] }, 117, none⟩, ⟨some 40, .move (.tmp 44), 117, none⟩, ⟨some 45, .extract (.tmp 40) 0, 3, none⟩, ⟨some 46, .extract (.tmp 40) 1, 4, none⟩, ⟨some 9, .assign (.tmp 45), 3, none⟩, ⟨some 10, .assign (.tmp 46), 4, none⟩]) (.seq (.seq (.ops [⟨some 47, .move (.tmp 8), 4, none⟩, ⟨some 48, .unOp .not 4 (.tmp 47), 4, none⟩, ⟨some 49, .move (.tmp 48), 4, none⟩, ⟨some 50, .move (.tmp 10), 4, some (49, false)⟩, ⟨some 51, .unOp .not 4 (.tmp 50), 4, some (49, false)⟩, ⟨some 52, .pick (.tmp 49) (.const (.bool true)) (.tmp 51), 4, none⟩]) (.cond (.tmp 52) (.seq (.ops [⟨some 53, .build 52 #[], 52, none⟩, ⟨none, .store 52 (.tmp 2) (.tmp 53), 0, none⟩, ⟨some 3, .assign (.const (.bool false)), 4, none⟩]) (.ret)) (.skip))) (q_i_hunkReader_hunk_c4)))) e ks := (rfl)
@[simp] def q_i_hunkReader_hunk : QFn := ⟨77, [(.cell 2 52, 52), (.tmp 3, 4)], .seq (.ops [⟨some 2, .alloc 52, 0, none⟩, ⟨some 3, .assign (.const (.bool false)), 4, none⟩]) (.seq (.ops [⟨some 15, .move (.tmp 0), 113, none⟩, ⟨some 16, .nilCheck (.tmp 15), 0, none⟩, ⟨some 17, .fieldAddr 86 (.tmp 16) 0, 0, none⟩, ⟨some 18, .call { callee := .value (.func 78), args := #[.tmp 17], argTypes := #[84] }, 114, none⟩, ⟨some 14, .move (.tmp 18), 114, none⟩, ⟨some 19, .extract (.tmp 14) 0, 9, none⟩, ⟨some 20, .extract (.tmp 14) 1, 4, none⟩, ⟨some 4, .assign (.tmp 19), 9, none⟩, ⟨some 5, .assign (.tmp 20), 4, none⟩]) (.seq (.ops [⟨some 21, .move (.tmp 4), 9, none⟩, ⟨some 22, .call { callee := .value (.func 79), args := #[.tmp 21, .const (.string { data := #[32] }), .const (.int .i64 4)], argTypes := #[9, 9, 3] }, 48, none⟩, ⟨some 6, .assign (.tmp 22), 48, none⟩]) (.seq (.seq (.ops [⟨some 23, .move (.tmp 6), 48, none⟩, ⟨some 24, .call { callee := .builtin .len, args := #[.tmp 23], argTypes := #[48] }, 3, none⟩, ⟨some 25, .binOp .neq 3 (.tmp 24) (.const (.int .i64 3)) 3, 4, none⟩, ⟨some 26, .move (.tmp 25), 4, none⟩, ⟨some 27, .move (.tmp 6), 48, some (26, false)⟩, ⟨some 28, .indexAddr 48 (.tmp 27) (.const (.int .i64 0)), 0, some (26, false)⟩, ⟨some 29, .load 9 (.tmp 28), 9, some (26, false)⟩, ⟨some 30, .binOp .neq 9 (.tmp 29) (.const (.string { data := #[64] })) 9, 4, some (26, false)⟩, ⟨some 31, .pick (.tmp 26) (.const (.bool true)) (.tmp 30), 4, none⟩]) (.cond (.tmp 31) (.seq (.ops [⟨some 32, .build 52 #[], 52, none⟩, ⟨none, .store 52 (.tmp 2) (.tmp 32), 0, none⟩, ⟨some 3, .assign (.const (.bool false)), 4, none⟩]) (.ret)) (.skip))) (q_i_hunkReader_hunk_c5))))⟩
theorem conv_i_hunkReader_hunk : convF Tryd.f51 = some q_i_hunkReader_hunk := by kernel_rfl
/-! 52 w_markStringS -/
abbrev fn_w_markStringS : FuncId := 52
def q_w_markStringS_c0 : QCode := .ops [⟨some 10, .move (.tmp 5), 3, none⟩, ⟨some 11, .binOp .add 3 (.tmp 10) (.const (.int .i64 1)) 3, 3, none⟩, ⟨some 5, .assign (.tmp 11), 3, none⟩]
@[simp] theorem q_w_markStringS_c0_run (c : Ctx) (e : Env) (ks : List Fr) : Run c q_w_markStringS_c0 e ks = Run c (.ops [⟨some 10, .move (.tmp 5), 3, none⟩, ⟨some 11, .binOp .add 3 (.tmp 10) (.const (.int .i64 1)) 3, 3, none⟩, ⟨some 5, .assign (.tmp 11), 3, none⟩]) e ks := (rfl)
def q_w_markStringS_c1 : QCode := .seq (.block 1 (.seq (.ops [⟨some 12, .move (.tmp 0), 48, none⟩, ⟨some 13, .move (.tmp 5), 3, none⟩, ⟨some 14, .move (.tmp 1), 3, none⟩, ⟨some 15, .call { callee := .value (.func 81), args := #[.tmp 14], argTypes := #[3] }, 9, none⟩, ⟨some 16, .indexAddr 48 (.tmp 12) (.tmp 13), 0, none⟩, ⟨none, .store 9 (.tmp 16) (.tmp 15), 0, none⟩]) (.ops [⟨some 17, .move (.tmp 1), 3, none⟩, ⟨some 18, .binOp .add 3 (.tmp 17) (.const (.int .i64 1)) 3, 3, none⟩, ⟨some 1, .assign (.tmp 18), 3, none⟩]))) (q_w_markStringS_c0)
@[simp] theorem q_w_markStringS_c1_run (c : Ctx) (e : Env) (ks : List Fr) : Run c q_w_markStringS_c1 e ks = Run c (.seq (.block 1 (.seq (.ops [⟨some 12, .move (.tmp 0), 48, none⟩, ⟨some 13, .move (.tmp 5), 3, none⟩, ⟨some 14, .move (.tmp 1), 3, none⟩, ⟨some 15, .call { callee := .value (.func 81), args := #[.tmp 14], argTypes := #[3] }, 9, none⟩, ⟨some 16, .indexAddr 48 (.tmp 12) (.tmp 13), 0, none⟩, ⟨none, .store 9 (.tmp 16) (.tmp 15), 0, none⟩]) (.ops [⟨some 17, .move (.tmp 1), 3, none⟩, ⟨some 18, .binOp .add 3 (.tmp 17) (.const (.int .i64 1)) 3, 3, none⟩, ⟨some 1, .assign (.tmp 18), 3, none⟩]))) (q_w_markStringS_c0)) e ks := (rfl)
def q_w_markStringS_l0 : QCode := .seq (.seq (.ops [⟨some 6, .move (.tmp 5), 3, none⟩, ⟨some 7, .move (.tmp 0), 48, none⟩, ⟨some 8, .call { callee := .builtin .len, args := #[.tmp 7], argTypes := #[48] }, 3, none⟩, ⟨some 9, .binOp .lss 3 (.tmp 6) (.tmp 8) 3, 4, none⟩]) (.cond (.tmp 9) (.skip) (.exit 0))) (q_w_markStringS_c1)
@[simp] theorem q_w_markStringS_l0_run (c : Ctx) (e : Env) (ks : List Fr) : Run c q_w_markStringS_l0 e ks = Run c (.seq (.seq (.ops [⟨some 6, .move (.tmp 5), 3, none⟩, ⟨some 7, .move (.tmp 0), 48, none⟩, ⟨some 8, .call { callee := .builtin .len, args := #[.tmp 7], argTypes := #[48] }, 3, none⟩, ⟨some 9, .binOp .lss 3 (.tmp 6) (.tmp 8) 3, 4, none⟩]) (.cond (.tmp 9) (.skip) (.exit 0))) (q_w_markStringS_c1)) e ks := (rfl)
def q_w_markStringS_c2 : QCode := .seq (.ops [⟨some 19, .move (.tmp 1), 3, none⟩, ⟨some 4, .assign (.tmp 19), 3, none⟩]) (.ret)
@[simp] theorem q_w_markStringS_c2_run (c : Ctx) (e : Env) (ks : List Fr) : Run c q_w_markStringS_c2 e ks = Run c (.seq (.ops [⟨some 19, .move (.tmp 1), 3, none⟩, ⟨some 4, .assign (.tmp 19), 3, none⟩]) (.ret)) e ks := (rfl)
@[simp] def q_w_markStringS : QFn := ⟨20, [(.tmp 4, 3)], .seq (.ops [⟨some 4, .assign (.const (.int .i64 0)), 3, none⟩]) (.seq (.seq (.ops [⟨some 5, .assign (.const (.int .i64 0)), 3, none⟩]) (.block 0 (.loop q_w_markStringS_l0))) (q_w_markStringS_c2))⟩
theorem conv_w_markStringS : convF Tryd.f52 = some q_w_markStringS := by kernel_rfl
/-! 53 w_heldStringS -/
abbrev fn_w_heldStringS : FuncId := 53
def q_w_heldStringS_c0 : QCode := .ops [⟨some 19, .move (.tmp 1), 3, none⟩, ⟨some 20, .binOp .add 3 (.tmp 19) (.const (.int .i64 1)) 3, 3, none⟩, ⟨some 1, .assign (.tmp 20), 3, none⟩]
@[simp] theorem q_w_heldStringS_c0_run (c : Ctx) (e : Env) (ks : List Fr) : Run c q_w_heldStringS_c0 e ks = Run c (.ops [⟨some 19, .move (.tmp 1), 3, none⟩, ⟨some 20, .binOp .add 3 (.tmp 19) (.const (.int .i64 1)) 3, 3, none⟩, ⟨some 1, .assign (.tmp 20), 3, none⟩]) e ks := (rfl)
def q_w_heldStringS_c1 : QCode := .ops [⟨some 10, .move (.tmp 5), 3, none⟩, ⟨some 11, .binOp .add 3 (.tmp 10) (.const (.int .i64 1)) 3, 3, none⟩, ⟨some 5, .assign (.tmp 11), 3, none⟩]
@[simp] theorem q_w_heldStringS_c1_run (c : Ctx) (e : Env) (ks : List Fr) : Run c q_w_heldStringS_c1 e ks = Run c (.ops [⟨some 10, .move (.tmp 5), 3, none⟩, ⟨some 11, .binOp .add 3 (.tmp 10) (.const (.int .i64 1)) 3, 3, none⟩, ⟨some 5, .assign (.tmp 11), 3, none⟩]) e ks := (rfl)
def q_w_heldStringS_c2 : QCode := .seq (.block 1 (.seq (.seq (.draw [⟨some 12, .move (.tmp 0), 48, none⟩, ⟨some 13, .move (.tmp 5), 3, none⟩, ⟨some 14, .indexAddr 48 (.tmp 12) (.tmp 13), 0, none⟩, ⟨some 15, .load 9 (.tmp 14), 9, none⟩, ⟨some 16, .move (.tmp 1), 3, none⟩, ⟨some 17, .call { callee := .value (.func 81), args := #[.tmp 16], argTypes := #[3] }, 9, none⟩] [⟨some 18, .binOp .neq 9 (.tmp 15) (.tmp 17) 9, 4, none⟩]) (.cond (.tmp 18) (.seq (.ops [⟨some 4, .assign (.const (.int .i64 (-1))), 3, none⟩]) (.ret)) (.skip))) (q_w_heldStringS_c0))) (q_w_heldStringS_c1)
@[simp] theorem q_w_heldStringS_c2_run (c : Ctx) (e : Env) (ks : List Fr) : Run c q_w_heldStringS_c2 e ks = Run c (.seq (.block 1 (.seq (.seq (.draw [⟨some 12, .move (.tmp 0), 48, none⟩, ⟨some 13, .move (.tmp 5), 3, none⟩, ⟨some 14, .indexAddr 48 (.tmp 12) (.tmp 13), 0, none⟩, ⟨some 15, .load 9 (.tmp 14), 9, none⟩, ⟨some 16, .move (.tmp 1), 3, none⟩, ⟨some 17, .call { callee := .value (.func 81), args := #[.tmp 16], argTypes := #[3] }, 9, none⟩] [⟨some 18, .binOp .neq 9 (.tmp 15) (.tmp 17) 9, 4, none⟩]) (.cond (.tmp 18) (.seq (.ops [⟨some 4, .assign (.const (.int .i64 (-1))), 3, none⟩]) (.ret)) (.skip))) (q_w_heldStringS_c0))) (q_w_heldStringS_c1)) e ks := (rfl)
def q_w_heldStringS_l0 : QCode := .seq (.seq (.ops [⟨some 6, .move (.tmp 5), 3, none⟩, ⟨some 7, .move (.tmp 0), 48, none⟩, ⟨some 8, .call { callee := .builtin .len, args := #[.tmp 7], argTypes := #[48] }, 3, none⟩, ⟨some 9, .binOp .lss 3 (.tmp 6) (.tmp 8) 3, 4, none⟩]) (.cond (.tmp 9) (.skip) (.exit 0))) (q_w_heldStringS_c2)
@[simp] theorem q_w_heldStringS_l0_run (c : Ctx) (e : Env) (ks : List Fr) : Run c q_w_heldStringS_l0 e ks = Run c (.seq (.seq (.ops [⟨some 6, .move (.tmp 5), 3, none⟩, ⟨some 7, .move (.tmp 0), 48, none⟩, ⟨some 8, .call { callee := .builtin .len, args := #[.tmp 7], argTypes := #[48] }, 3, none⟩, ⟨some 9, .binOp .lss 3 (.tmp 6) (.tmp 8) 3, 4, none⟩]) (.cond (.tmp 9) (.skip) (.exit 0))) (q_w_heldStringS_c2)) e ks := (rfl)
def q_w_heldStringS_c3 : QCode := .seq (.ops [⟨some 21, .move (.tmp 1), 3, none⟩, ⟨some 4, .assign (.tmp 21), 3, none⟩]) (.ret)
@[simp] theorem q_w_heldStringS_c3_run (c : Ctx) (e : Env) (ks : List Fr) : Run c q_w_heldStringS_c3 e ks = Run c (.seq (.ops [⟨some 21, .move (.tmp 1), 3, none⟩, ⟨some 4, .assign (.tmp 21), 3, none⟩]) (.ret)) e ks := (rfl)
@[simp] def q_w_heldStringS : QFn := ⟨22, [(.tmp 4, 3)], .seq (.ops [⟨some 4, .assign (.const (.int .i64 0)), 3, none⟩]) (.seq (.seq (.ops [⟨some 5, .assign (.const (.int .i64 0)), 3, none⟩]) (.block 0 (.loop q_w_heldStringS_l0))) (q_w_heldStringS_c3))⟩
theorem conv_w_heldStringS : convF Tryd.f53 = some q_w_heldStringS := by kernel_rfl
/-! 54 w_szStringS -/
abbrev fn_w_szStringS : FuncId := 54
def q_w_szStringS_c0 : QCode := .ops [⟨some 16, .move (.tmp 5), 3, none⟩, ⟨some 17, .binOp .add 3 (.tmp 16) (.const (.int .i64 1)) 3, 3, none⟩, ⟨some 5, .assign (.tmp 17), 3, none⟩]
@[simp] theorem q_w_szStringS_c0_run (c : Ctx) (e : Env) (ks : List Fr) : Run c q_w_szStringS_c0 e ks = Run c (.ops [⟨some 16, .move (.tmp 5), 3, none⟩, ⟨some 17, .binOp .add 3 (.tmp 16) (.const (.int .i64 1)) 3, 3, none⟩, ⟨some 5, .assign (.tmp 17), 3, none⟩]) e ks := (rfl)
def q_w_szStringS_c1 : QCode := .seq (.block 1 (.seq (.ops [⟨some 18, .move (.tmp 1), 3, none⟩, ⟨some 19, .move (.tmp 0), 48, none⟩, ⟨some 20, .move (.tmp 5), 3, none⟩, ⟨some 21, .indexAddr 48 (.tmp 19) (.tmp 20), 0, none⟩, ⟨some 22, .load 9 (.tmp 21), 9, none⟩, ⟨some 23, .call { callee := .builtin .len, args := #[.tmp 22], argTypes := #[9] }, 3, none⟩, ⟨some 24, .binOp .sub 3 (.tmp 18) (.tmp 23) 3, 3, none⟩, ⟨some 1, .assign (.tmp 24), 3, none⟩]) (.seq (.ops [⟨some 25, .move (.tmp 1), 3, none⟩, ⟨some 26, .binOp .lss 3 (.tmp 25) (.const (.int .i64 0)) 3, 4, none⟩]) (.cond (.tmp 26) (.seq (.ops [⟨some 4, .assign (.const (.int .i64 (-1))), 3, none⟩]) (.ret)) (.skip))))) (q_w_szStringS_c0)
@[simp] theorem q_w_szStringS_c1_run (c : Ctx) (e : Env) (ks : List Fr) : Run c q_w_szStringS_c1 e ks = Run c (.seq (.block 1 (.seq (.ops [⟨some 18, .move (.tmp 1), 3, none⟩, ⟨some 19, .move (.tmp 0), 48, none⟩, ⟨some 20, .move (.tmp 5), 3, none⟩, ⟨some 21, .indexAddr 48 (.tmp 19) (.tmp 20), 0, none⟩, ⟨some 22, .load 9 (.tmp 21), 9, none⟩, ⟨some 23, .call { callee := .builtin .len, args := #[.tmp 22], argTypes := #[9] }, 3, none⟩, ⟨some 24, .binOp .sub 3 (.tmp 18) (.tmp 23) 3, 3, none⟩, ⟨some 1, .assign (.tmp 24), 3, none⟩]) (.seq (.ops [⟨some 25, .move (.tmp 1), 3, none⟩, ⟨some 26, .binOp .lss 3 (.tmp 25) (.const (.int .i64 0)) 3, 4, none⟩]) (.cond (.tmp 26) (.seq (.ops [⟨some 4, .assign (.const (.int .i64 (-1))), 3, none⟩]) (.ret)) (.skip))))) (q_w_szStringS_c0)) e ks := (rfl)
def q_w_szStringS_l0 : QCode := .seq (.seq (.ops [⟨some 12, .move (.tmp 5), 3, none⟩, ⟨some 13, .move (.tmp 0), 48, none⟩, ⟨some 14, .call { callee := .builtin .len, args := #[.tmp 13], argTypes := #[48] }, 3, none⟩, ⟨some 15, .binOp .lss 3 (.tmp 12) (.tmp 14) 3, 4, none⟩]) (.cond (.tmp 15) (.skip) (.exit 0))) (q_w_szStringS_c1)
@[simp] theorem q_w_szStringS_l0_run (c : Ctx) (e : Env) (ks : List Fr) : Run c q_w_szStringS_l0 e ks = Run c (.seq (.seq (.ops [⟨some 12, .move (.tmp 5), 3, none⟩, ⟨some 13, .move (.tmp 0), 48, none⟩, ⟨some 14, .call { callee := .builtin .len, args := #[.tmp 13], argTypes := #[48] }, 3, none⟩, ⟨some 15, .binOp .lss 3 (.tmp 12) (.tmp 14) 3, 4, none⟩]) (.cond (.tmp 15) (.skip) (.exit 0))) (q_w_szStringS_c1)) e ks := (rfl)
def q_w_szStringS_c2 : QCode := .seq (.ops [⟨some 27, .move (.tmp 1), 3, none⟩, ⟨some 4, .assign (.tmp 27), 3, none⟩]) (.ret)
@[simp] theorem q_w_szStringS_c2_run (c : Ctx) (e : Env) (ks : List Fr) : Run c q_w_szStringS_c2 e ks = Run c (.seq (.ops [⟨some 27, .move (.tmp 1), 3, none⟩, ⟨some 4, .assign (.tmp 27), 3, none⟩]) (.ret)) e ks := (rfl)
def q_w_szStringS_c3 : QCode := .seq (.seq (.ops [⟨some 5, .assign (.const (.int .i64 0)), 3, none⟩]) (.block 0 (.loop q_w_szStringS_l0))) (q_w_szStringS_c2)
@[simp] theorem q_w_szStringS_c3_run (c : Ctx) (e : Env) (ks : List Fr) : Run c q_w_szStringS_c3 e ks = Run c (.seq (.seq (.ops [⟨some 5, .assign (.const (.int .i64 0)), 3, none⟩]) (.block 0 (.loop q_w_szStringS_l0))) (q_w_szStringS_c2)) e ks := (rfl)
@[simp] def q_w_szStringS : QFn := ⟨28, [(.tmp 4, 3)], .seq (.ops [⟨some 4, .assign (.const (.int .i64 0)), 3, none⟩]) (.seq (.ops [⟨some 6, .move (.tmp 1), 3, none⟩, ⟨some 7, .move (.tmp 0), 48, none⟩, ⟨some 8, .call { callee := .builtin .len, args := #[.tmp 7], argTypes := #[48] }, 3, none⟩, ⟨some 9, .binOp .sub 3 (.tmp 6) (.tmp 8) 3, 3, none⟩, ⟨some 1, .assign (.tmp 9), 3, none⟩]) (.seq (.seq (.ops [⟨some 10, .move (.tmp 1), 3, none⟩, ⟨some 11, .binOp .lss 3 (.tmp 10) (.const (.int .i64 0)) 3, 4, none⟩]) (.cond (.tmp 11) (.seq (.ops [⟨some 4, .assign (.const (.int .i64 (-1))), 3, none⟩]) (.ret)) (.skip))) (q_w_szStringS_c3)))⟩
theorem conv_w_szStringS : convF Tryd.f54 = some q_w_szStringS := by kernel_rfl
/-! 55 s_l5Hunk -/
abbrev fn_s_l5Hunk : FuncId := 55
def q_s_l5Hunk_c0 : QCode := .ops [⟨some 10, .move (.tmp 3), 3, none⟩, ⟨some 11, .binOp .add 3 (.tmp 10) (.const (.int .i64 1)) 3, 3, none⟩, ⟨some 3, .assign (.tmp 11), 3, none⟩]
@[simp] theorem q_s_l5Hunk_c0_run (c : Ctx) (e : Env) (ks : List Fr) : Run c q_s_l5Hunk_c0 e ks = Run c (.ops [⟨some 10, .move (.tmp 3), 3, none⟩, ⟨some 11, .binOp .add 3 (.tmp 10) (.const (.int .i64 1)) 3, 3, none⟩, ⟨some 3, .assign (.tmp 11), 3, none⟩]) e ks := (rfl)
def q_s_l5Hunk_c1 : QCode := .seq (.block 1 (.seq (.ops [⟨some 12, .fieldAddr 52 (.tmp 1) 1, 0, none⟩, ⟨some 13, .load 48 (.tmp 12), 48, none⟩, ⟨some 14, .move (.tmp 3), 3, none⟩, ⟨some 15, .indexAddr 48 (.tmp 13) (.tmp 14), 0, none⟩, ⟨some 16, .load 9 (.tmp 15), 9, none⟩, ⟨some 4, .assign (.tmp 16), 9, none⟩]) (.seq (.ops [⟨some 17, .move (.tmp 4), 9, none⟩, ⟨some 18, .binOp .eql 9 (.tmp 17) (.const (.string { data := #[] })) 9, 4, none⟩, ⟨some 19, .move (.tmp 18), 4, none⟩, ⟨some 20, .move (.tmp 4), 9, some (19, false)⟩, ⟨some 21, .index 9 (.tmp 20) (.const (.int .i64 0)), 5, some (19, false)⟩, ⟨some 22, .binOp .neq 5 (.tmp 21) (.const (.int .u8 32)) 5, 4, some (19, false)⟩, ⟨some 23, .move (.tmp 22), 4, some (19, false)⟩, ⟨some 24, .move (.tmp 4), 9, some (23, true)⟩, ⟨some 25, .index 9 (.tmp 24) (.const (.int .i64 0)), 5, some (23, true)⟩, ⟨some 26, .binOp .neq 5 (.tmp 25) (.const (.int .u8 45)) 5, 4, some (23, true)⟩, ⟨some 27, .pick (.tmp 23) (.tmp 26) (.const (.bool false)), 4, some (19, false)⟩, ⟨some 28, .move (.tmp 27), 4, some (19, false)⟩, ⟨some 29, .move (.tmp 4), 9, some (28, true)⟩, ⟨some 30, .index 9 (.tmp 29) (.const (.int .i64 0)), 5, some (28, true)⟩, ⟨some 31, .binOp .neq 5 (.tmp 30) (.const (.int .u8 43)) 5, 4, some (28, true)⟩, ⟨some 32, .pick (.tmp 28) (.tmp 31) (.const (.bool false)), 4, some (19, false)⟩, ⟨some 33, .pick (.tmp 19) (.const (.bool true)) (.tmp 32), 4, none⟩, ⟨some 34, .move (.tmp 33), 4, none⟩, ⟨some 35, .move (.tmp 4), 9, some (34, false)⟩, ⟨some 36, .slice 9 (.tmp 35) (some (.const (.int .i64 1))) none none, 9, some (34, false)⟩, ⟨some 37, .call { callee := .value (.func 82), args := #[.tmp 36], argTypes := #[9] }, 4, some (34, false)⟩, ⟨some 38, .unOp .not 4 (.tmp 37), 4, some (34, false)⟩, ⟨some 39, .pick (.tmp 34) (.const (.bool true)) (.tmp 38), 4, none⟩]) (.cond (.tmp 39) (.seq (.ops [⟨some 2, .assign (.const (.bool false)), 4, none⟩]) (.ret)) (.skip))))) (q_s_l5Hunk_c0)
@[simp] theorem q_s_l5Hunk_c1_run (c : Ctx) (e : Env) (ks : List Fr) : Run c q_s_l5Hunk_c1 e ks = Run c (.seq (.block 1 (.seq (.ops [⟨some 12, .fieldAddr 52 (.tmp 1) 1, 0, none⟩, ⟨some 13, .load 48 (.tmp 12), 48, none⟩, ⟨some 14, .move (.tmp 3), 3, none⟩, ⟨some 15, .indexAddr 48 (.tmp 13) (.tmp 14), 0, none⟩, ⟨some 16, .load 9 (.tmp 15), 9, none⟩, ⟨some 4, .assign (.tmp 16), 9, none⟩]) (.seq (.ops [⟨some 17, .move (.tmp 4), 9, none⟩, ⟨some 18, .binOp .eql 9 (.tmp 17) (.const (.string { data := #[] })) 9, 4, none⟩, ⟨some 19, .move (.tmp 18), 4, none⟩, ⟨some 20, .move (.tmp 4), 9, some (19, false)⟩, ⟨some 21, .index 9 (.tmp 20) (.const (.int .i64 0)), 5, some (19, false)⟩, ⟨some 22, .binOp .neq 5 (.tmp 21) (.const (.int .u8 32)) 5, 4, some (19, false)⟩, ⟨some 23, .move (.tmp 22), 4, some (19, false)⟩, ⟨some 24, .move (.tmp 4), 9, some (23, true)⟩, ⟨some 25, .index 9 (.tmp 24) (.const (.int .i64 0)), 5, some (23, true)⟩, ⟨some 26, .binOp .neq 5 (.tmp 25) (.const (.int .u8 45)) 5, 4, some (23, true)⟩, ⟨some 27, .pick (.tmp 23) (.tmp 26) (.const (.bool false)), 4, some (19, false)⟩, ⟨some 28, .move (.tmp 27), 4, some (19, false)⟩, ⟨some 29, .move (.tmp 4), 9, some (28, true)⟩, ⟨some 30, .index 9 (.tmp 29) (.const (.int .i64 0)), 5, some (28, true)⟩, ⟨some 31, .binOp .neq 5 (.tmp 30) (.const (.int .u8 43)) 5, 4, some (28, true)⟩, ⟨some 32, .pick (.tmp 28) (.tmp 31) (.const (.bool false)), 4, some (19, false)⟩, ⟨some 33, .pick (.tmp 19) (.const (.bool true)) (.tmp 32), 4, none⟩, ⟨some 34, .move (.tmp 33), 4, none⟩, ⟨some 35, .move (.tmp 4), 9, some (34, false)⟩, ⟨some 36, .slice 9 (.tmp 35) (some (.const (.int .i64 1))) none none, 9, some (34, false)⟩, ⟨some 37, .call { callee := .value (.func 82), args := #[.tmp 36], argTypes := #[9] }, 4, some (34, false)⟩, ⟨some 38, .unOp .not 4 (.tmp 37), 4, some (34, false)⟩, ⟨some 39, .pick (.tmp 34) (.const (.bool true)) (.tmp 38), 4, none⟩]) (.cond (.tmp 39) (.seq (.ops [⟨some 2, .assign (.const (.bool false)), 4, none⟩]) (.ret)) (.skip))))) (q_s_l5Hunk_c0)) e ks := (rfl)
def q_s_l5Hunk_l0 : QCode := .seq (.seq (.ops [⟨some 5, .move (.tmp 3), 3, none⟩, ⟨some 6, .fieldAddr 52 (.tmp 1) 1, 0, none⟩, ⟨some 7, .load 48 (.tmp 6), 48, none⟩, ⟨some 8, .call { callee := .builtin .len, args := #[.tmp 7], argTypes := #[48] }, 3, none⟩, ⟨some 9, .binOp .lss 3 (.tmp 5) (.tmp 8) 3, 4, none⟩]) (.cond (.tmp 9) (.skip) (.exit 0))) (q_s_l5Hunk_c1)
@[simp] theorem q_s_l5Hunk_l0_run (c : Ctx) (e : Env) (ks : List Fr) : Run c q_s_l5Hunk_l0 e ks = Run c (.seq (.seq (.ops [⟨some 5, .move (.tmp 3), 3, none⟩, ⟨some 6, .fieldAddr 52 (.tmp 1) 1, 0, none⟩, ⟨some 7, .load 48 (.tmp 6), 48, none⟩, ⟨some 8, .call { callee := .builtin .len, args := #[.tmp 7], argTypes := #[48] }, 3, none⟩, ⟨some 9, .binOp .lss 3 (.tmp 5) (.tmp 8) 3, 4, none⟩]) (.cond (.tmp 9) (.skip) (.exit 0))) (q_s_l5Hunk_c1)) e ks := (rfl)
def q_s_l5Hunk_c2 : QCode := .seq (.ops [⟨some 40, .fieldAddr 52 (.tmp 1) 1, 0, none⟩, ⟨some 41, .load 48 (.tmp 40), 48, none⟩, ⟨some 42, .call { callee := .builtin .len, args := #[.tmp 41], argTypes := #[48] }, 3, none⟩, ⟨some 43, .call { callee := .value (.func 73), args := #[.tmp 42, .const (.int .i64 1), .const (.int .i64 30)], argTypes := #[3, 3, 3] }, 4, none⟩, ⟨some 44, .move (.tmp 43), 4, none⟩, ⟨some 45, .fieldAddr 52 (.tmp 1) 0, 0, some (44, true)⟩, ⟨some 46, .load 3 (.tmp 45), 3, some (44, true)⟩, ⟨some 47, .call { callee := .value (.func 73), args := #[.tmp 46, .const (.int .i64 1), .const (.int .i64 999)], argTypes := #[3, 3, 3] }, 4, some (44, true)⟩, ⟨some 48, .pick (.tmp 44) (.tmp 47) (.const (.bool false)), 4, none⟩, ⟨some 2, .assign (.tmp 48), 4, none⟩]) (.ret)
@[simp] theorem q_s_l5Hunk_c2_run (c : Ctx) (e : Env) (ks : List Fr) : Run c q_s_l5Hunk_c2 e ks = Run c (.seq (.ops [⟨some 40, .fieldAddr 52 (.tmp 1) 1, 0, none⟩, ⟨some 41, .load 48 (.tmp 40), 48, none⟩, ⟨some 42, .call { callee := .builtin .len, args := #[.tmp 41], argTypes := #[48] }, 3, none⟩, ⟨some 43, .call { callee := .value (.func 73), args := #[.tmp 42, .const (.int .i64 1), .const (.int .i64 30)], argTypes := #[3, 3, 3] }, 4, none⟩, ⟨some 44, .move (.tmp 43), 4, none⟩, ⟨some 45, .fieldAddr 52 (.tmp 1) 0, 0, some (44, true)⟩, ⟨some 46, .load 3 (.tmp 45), 3, some (44, true)⟩, ⟨some 47, .call { callee := .value (.func 73), args := #[.tmp 46, .const (.int .i64 1), .const (.int .i64 999)], argTypes := #[3, 3, 3] }, 4, some (44, true)⟩, ⟨some 48, .pick (.tmp 44) (.tmp 47) (.const (.bool false)), 4, none⟩, ⟨some 2, .assign (.tmp 48), 4, none⟩]) (.ret)) e ks := (rfl)
@[simp] def q_s_l5Hunk : QFn := ⟨49, [(.tmp 2, 4)], .seq (.ops [⟨some 1, .box 52 (.tmp 0), 0, none⟩, ⟨some 2, .assign (.const (.bool false)), 4, none⟩]) (.seq (.seq (.ops [⟨some 3, .assign (.const (.int .i64 0)), 3, none⟩]) (.block 0 (.loop q_s_l5Hunk_l0))) (q_s_l5Hunk_c2))⟩
theorem conv_s_l5Hunk : convF Tryd.f55 = some q_s_l5Hunk := by kernel_rfl
/-! 56 s_l5Old -/
abbrev fn_s_l5Old : FuncId := 56
def q_s_l5Old_c0 : QCode := .ops [⟨some 11, .move (.tmp 4), 3, none⟩, ⟨some 12, .binOp .add 3 (.tmp 11) (.const (.int .i64 1)) 3, 3, none⟩, ⟨some 4, .assign (.tmp 12), 3, none⟩]
@[simp] theorem q_s_l5Old_c0_run (c : Ctx) (e : Env) (ks : List Fr) : Run c q_s_l5Old_c0 e ks = Run c (.ops [⟨some 11, .move (.tmp 4), 3, none⟩, ⟨some 12, .binOp .add 3 (.tmp 11) (.const (.int .i64 1)) 3, 3, none⟩, ⟨some 4, .assign (.tmp 12), 3, none⟩]) e ks := (rfl)
def q_s_l5Old_c1 : QCode := .seq (.block 1 (.seq (.ops [⟨some 13, .fieldAddr 52 (.tmp 1) 1, 0, none⟩, ⟨some 14, .load 48 (.tmp 13), 48, none⟩, ⟨some 15, .move (.tmp 4), 3, none⟩, ⟨some 16, .indexAddr 48 (.tmp 14) (.tmp 15), 0, none⟩, ⟨some 17, .load 9 (.tmp 16), 9, none⟩, ⟨some 18, .index 9 (.tmp 17) (.const (.int .i64 0)), 5, none⟩, ⟨some 19, .binOp .neq 5 (.tmp 18) (.const (.int .u8 43)) 5, 4, none⟩]) (.cond (.tmp 19) (.ops [⟨some 20, .move (.tmp 3), 48, none⟩, ⟨some 21, .fieldAddr 52 (.tmp 1) 1, 0, none⟩, ⟨some 22, .load 48 (.tmp 21), 48, none⟩, ⟨some 23, .move (.tmp 4), 3, none⟩, ⟨some 24, .indexAddr 48 (.tmp 22) (.tmp 23), 0, none⟩, ⟨some 25, .load 9 (.tmp 24), 9, none⟩, ⟨some 26, .slice 9 (.tmp 25) (some (.const (.int .i64 1))) none none, 9, none⟩, ⟨some 27, .buildSlice 48 1 #[(0, .tmp 26)], 48, none⟩, ⟨some 28, .call { callee := .builtin .append, args := #[.tmp 20, .tmp 27], argTypes := #[48, 48] }, 48, none⟩, ⟨some 3, .assign (.tmp 28), 48, none⟩]) (.skip)))) (q_s_l5Old_c0)
@[simp] theorem q_s_l5Old_c1_run (c : Ctx) (e : Env) (ks : List Fr) : Run c q_s_l5Old_c1 e ks = Run c (.seq (.block 1 (.seq (.ops [⟨some 13, .fieldAddr 52 (.tmp 1) 1, 0, none⟩, ⟨some 14, .load 48 (.tmp 13), 48, none⟩, ⟨some 15, .move (.tmp 4), 3, none⟩, ⟨some 16, .indexAddr 48 (.tmp 14) (.tmp 15), 0, none⟩, ⟨some 17, .load 9 (.tmp 16), 9, none⟩, ⟨some 18, .index 9 (.tmp 17) (.const (.int .i64 0)), 5, none⟩, ⟨some 19, .binOp .neq 5 (.tmp 18) (.const (.int .u8 43)) 5, 4, none⟩]) (.cond (.tmp 19) (.ops [⟨some 20, .move (.tmp 3), 48, none⟩, ⟨some 21, .fieldAddr 52 (.tmp 1) 1, 0, none⟩, ⟨some 22, .load 48 (.tmp 21), 48, none⟩, ⟨some 23, .move (.tmp 4), 3, none⟩, ⟨some 24, .indexAddr 48 (.tmp 22) (.tmp 23), 0, none⟩, ⟨some 25, .load 9 (.tmp 24), 9, none⟩, ⟨some 26, .slice 9 (.tmp 25) (some (.const (.int .i64 1))) none none, 9, none⟩, ⟨some 27, .buildSlice 48 1 #[(0, .tmp 26)], 48, none⟩, ⟨some 28, .call { callee := .builtin .append, args := #[.tmp 20, .tmp 27], argTypes := #[48, 48] }, 48, none⟩, ⟨some 3, .assign (.tmp 28), 48, none⟩]) (.skip)))) (q_s_l5Old_c0)) e ks := (rfl)
def q_s_l5Old_l0 : QCode := .seq (.seq (.ops [⟨some 6, .move (.tmp 4), 3, none⟩, ⟨some 7, .fieldAddr 52 (.tmp 1) 1, 0, none⟩, ⟨some 8, .load 48 (.tmp 7), 48, none⟩, ⟨some 9, .call { callee := .builtin .len, args := #[.tmp 8], argTypes := #[48] }, 3, none⟩, ⟨some 10, .binOp .lss 3 (.tmp 6) (.tmp 9) 3, 4, none⟩]) (.cond (.tmp 10) (.skip) (.exit 0))) (q_s_l5Old_c1)
@[simp] theorem q_s_l5Old_l0_run (c : Ctx) (e : Env) (ks : List Fr) : Run c q_s_l5Old_l0 e ks = Run c (.seq (.seq (.ops [⟨some 6, .move (.tmp 4), 3, none⟩, ⟨some 7, .fieldAddr 52 (.tmp 1) 1, 0, none⟩, ⟨some 8, .load 48 (.tmp 7), 48, none⟩, ⟨some 9, .call { callee := .builtin .len, args := #[.tmp 8], argTypes := #[48] }, 3, none⟩, ⟨some 10, .binOp .lss 3 (.tmp 6) (.tmp 9) 3, 4, none⟩]) (.cond (.tmp 10) (.skip) (.exit 0))) (q_s_l5Old_c1)) e ks := (rfl)
def q_s_l5Old_c2 : QCode := .seq (.ops [⟨some 29, .move (.tmp 3), 48, none⟩, ⟨some 2, .assign (.tmp 29), 48, none⟩]) (.ret)
@[simp] theorem q_s_l5Old_c2_run (c : Ctx) (e : Env) (ks : List Fr) : Run c q_s_l5Old_c2 e ks = Run c (.seq (.ops [⟨some 29, .move (.tmp 3), 48, none⟩, ⟨some 2, .assign (.tmp 29), 48, none⟩]) (.ret)) e ks := (rfl)
@[simp] def q_s_l5Old : QFn := ⟨30, [(.tmp 2, 48)], .seq (.ops [⟨some 1, .box 52 (.tmp 0), 0, none⟩, ⟨some 2, .assign (.const (.slice none 0 0)), 48, none⟩]) (.seq (.ops [⟨some 5, .buildSlice 48 0 #[], 48, none⟩, ⟨some 3, .assign (.tmp 5), 48, none⟩]) (.seq (.seq (.ops [⟨some 4, .assign (.const (.int .i64 0)), 3, none⟩]) (.block 0 (.loop q_s_l5Old_l0))) (q_s_l5Old_c2)))⟩
theorem conv_s_l5Old : convF Tryd.f56 = some q_s_l5Old := by kernel_rfl
/-! 57 s_l1Dec -/
abbrev fn_s_l1Dec : FuncId := 57
def q_s_l1Dec_c0 : QCode := .seq (.draw [⟨some 18, .move (.tmp 0), 3, none⟩, ⟨some 19, .binOp .quo 3 (.tmp 18) (.const (.int .i64 10)) 3, 3, none⟩, ⟨some 20, .call { callee := .value (.func 57), args := #[.tmp 19], argTypes := #[3] }, 9, none⟩, ⟨some 21, .move (.tmp 0), 3, none⟩, ⟨some 22, .binOp .rem 3 (.tmp 21) (.const (.int .i64 10)) 3, 3, none⟩, ⟨some 23, .binOp .add 3 (.const (.int .i64 48)) (.tmp 22) 3, 3, none⟩, ⟨some 24, .convert 3 5 (.tmp 23), 5, none⟩, ⟨some 25, .buildSlice 29 1 #[(0, .tmp 24)], 29, none⟩, ⟨some 26, .convert 29 9 (.tmp 25), 9, none⟩] [⟨some 27, .binOp .add 9 (.tmp 20) (.tmp 26) 9, 9, none⟩, ⟨some 2, .assign (.tmp 27), 9, none⟩]) (.ret)
@[simp] theorem q_s_l1Dec_c0_run (c : Ctx) (e : Env) (ks : List Fr) : Run c q_s_l1Dec_c0 e ks = Run c (.seq (.draw [⟨some 18, .move (.tmp 0), 3, none⟩, ⟨some 19, .binOp .quo 3 (.tmp 18) (.const (.int .i64 10)) 3, 3, none⟩, ⟨some 20, .call { callee := .value (.func 57), args := #[.tmp 19], argTypes := #[3] }, 9, none⟩, ⟨some 21, .move (.tmp 0), 3, none⟩, ⟨some 22, .binOp .rem 3 (.tmp 21) (.const (.int .i64 10)) 3, 3, none⟩, ⟨some 23, .binOp .add 3 (.const (.int .i64 48)) (.tmp 22) 3, 3, none⟩, ⟨some 24, .convert 3 5 (.tmp 23), 5, none⟩, ⟨some 25, .buildSlice 29 1 #[(0, .tmp 24)], 29, none⟩, ⟨some 26, .convert 29 9 (.tmp 25), 9, none⟩] [⟨some 27, .binOp .add 9 (.tmp 20) (.tmp 26) 9, 9, none⟩, ⟨some 2, .assign (.tmp 27), 9, none⟩]) (.ret)) e ks := (rfl)
def q_s_l1Dec_c1 : QCode := .seq (.seq (.ops [⟨some 11, .move (.tmp 0), 3, none⟩, ⟨some 12, .binOp .lss 3 (.tmp 11) (.const (.int .i64 10)) 3, 4, none⟩]) (.cond (.tmp 12) (.seq (.ops [⟨some 13, .move (.tmp 0), 3, none⟩, ⟨some 14, .binOp .add 3 (.const (.int .i64 48)) (.tmp 13) 3, 3, none⟩, ⟨some 15, .convert 3 5 (.tmp 14), 5, none⟩, ⟨some 16, .buildSlice 29 1 #[(0, .tmp 15)], 29, none⟩, ⟨some 17, .convert 29 9 (.tmp 16), 9, none⟩, ⟨some 2, .assign (.tmp 17), 9, none⟩]) (.ret)) (.skip))) (q_s_l1Dec_c0)
@[simp] theorem q_s_l1Dec_c1_run (c : Ctx) (e : Env) (ks : List Fr) : Run c q_s_l1Dec_c1 e ks = Run c (.seq (.seq (.ops [⟨some 11, .move (.tmp 0), 3, none⟩, ⟨some 12, .binOp .lss 3 (.tmp 11) (.const (.int .i64 10)) 3, 4, none⟩]) (.cond (.tmp 12) (.seq (.ops [⟨some 13, .move (.tmp 0), 3, none⟩, ⟨some 14, .binOp .add 3 (.const (.int .i64 48)) (.tmp 13) 3, 3, none⟩, ⟨some 15, .convert 3 5 (.tmp 14), 5, none⟩, ⟨some 16, .buildSlice 29 1 #[(0, .tmp 15)], 29, none⟩, ⟨some 17, .convert 29 9 (.tmp 16), 9, none⟩, ⟨some 2, .assign (.tmp 17), 9, none⟩]) (.ret)) (.skip))) (q_s_l1Dec_c0)) e ks := (rfl)
def q_s_l1Dec_c2 : QCode := .seq (.seq (.ops [⟨some 5, .move (.tmp 0), 3, none⟩, ⟨some 6, .binOp .lss 3 (.tmp 5) (.const (.int .i64 0)) 3, 4, none⟩]) (.cond (.tmp 6) (.seq (.ops [⟨some 7, .move (.tmp 0), 3, none⟩, ⟨some 8, .unOp .neg 3 (.tmp 7), 3, none⟩, ⟨some 9, .call { callee := .value (.func 57), args := #[.tmp 8], argTypes := #[3] }, 9, none⟩, ⟨some 10, .binOp .add 9 (.const (.string { data := #[45] })) (.tmp 9) 9, 9, none⟩, ⟨some 2, .assign (.tmp 10), 9, none⟩]) (.ret)) (.skip))) (q_s_l1Dec_c1)
@[simp] theorem q_s_l1Dec_c2_run (c : Ctx) (e : Env) (ks : List Fr) : Run c q_s_l1Dec_c2 e ks = Run c (.seq (.seq (.ops [⟨some 5, .move (.tmp 0), 3, none⟩, ⟨some 6, .binOp .lss 3 (.tmp 5) (.const (.int .i64 0)) 3, 4, none⟩]) (.cond (.tmp 6) (.seq (.ops [⟨some 7, .move (.tmp 0), 3, none⟩, ⟨some 8, .unOp .neg 3 (.tmp 7), 3, none⟩, ⟨some 9, .call { callee := .value (.func 57), args := #[.tmp 8], argTypes := #[3] }, 9, none⟩, ⟨some 10, .binOp .add 9 (.const (.string { data := #[45] })) (.tmp 9) 9, 9, none⟩, ⟨some 2, .assign (.tmp 10), 9, none⟩]) (.ret)) (.skip))) (q_s_l1Dec_c1)) e ks := (rfl)
@[simp] def q_s_l1Dec : QFn := ⟨28, [(.tmp 2, 9)], .seq (.ops [⟨some 2, .assign (.const (.string { data := #[] })), 9, none⟩]) (.seq (.seq (.ops [⟨some 3, .move (.tmp 0), 3, none⟩, ⟨some 4, .binOp .lss 3 (.tmp 3) (.const (.int .i64 (-9223372036854775807))) 3, 4, none⟩]) (.cond (.tmp 4) (.seq (.ops [⟨some 2, .assign (.const (.string { data := #[45, 57, 50, 50, 51, 51, 55, 50, 48, 51, 54, 56, 53, 52, 55, 55, 53, 56, 48, 56] })), 9, none⟩]) (.ret)) (.skip))) (q_s_l1Dec_c2))⟩
theorem conv_s_l1Dec : convF Tryd.f57 = some q_s_l1Dec := by kernel_rfl
/-! 58 w_toStringS -/
abbrev fn_w_toStringS : FuncId := 58
def q_w_toStringS_c0 : QCode := .ops [⟨some 12, .move (.tmp 4), 3, none⟩, ⟨some 13, .binOp .add 3 (.tmp 12) (.const (.int .i64 1)) 3, 3, none⟩, ⟨some 4, .assign (.tmp 13), 3, none⟩]
@[simp] theorem q_w_toStringS_c0_run (c : Ctx) (e : Env) (ks : List Fr) : Run c q_w_toStringS_c0 e ks = Run c (.ops [⟨some 12, .move (.tmp 4), 3, none⟩, ⟨some 13, .binOp .add 3 (.tmp 12) (.const (.int .i64 1)) 3, 3, none⟩, ⟨some 4, .assign (.tmp 13), 3, none⟩]) e ks := (rfl)
def q_w_toStringS_c1 : QCode := .seq (.block 1 (.ops [⟨some 14, .move (.tmp 3), 48, none⟩, ⟨some 15, .move (.tmp 4), 3, none⟩, ⟨some 16, .move (.tmp 0), 48, none⟩, ⟨some 17, .move (.tmp 4), 3, none⟩, ⟨some 18, .indexAddr 48 (.tmp 16) (.tmp 17), 0, none⟩, ⟨some 19, .load 9 (.tmp 18), 9, none⟩, ⟨some 20, .indexAddr 48 (.tmp 14) (.tmp 15), 0, none⟩, ⟨none, .store 9 (.tmp 20) (.tmp 19), 0, none⟩])) (q_w_toStringS_c0)
@[simp] theorem q_w_toStringS_c1_run (c : Ctx) (e : Env) (ks : List Fr) : Run c q_w_toStringS_c1 e ks = Run c (.seq (.block 1 (.ops [⟨some 14, .move (.tmp 3), 48, none⟩, ⟨some 15, .move (.tmp 4), 3, none⟩, ⟨some 16, .move (.tmp 0), 48, none⟩, ⟨some 17, .move (.tmp 4), 3, none⟩, ⟨some 18, .indexAddr 48 (.tmp 16) (.tmp 17), 0, none⟩, ⟨some 19, .load 9 (.tmp 18), 9, none⟩, ⟨some 20, .indexAddr 48 (.tmp 14) (.tmp 15), 0, none⟩, ⟨none, .store 9 (.tmp 20) (.tmp 19), 0, none⟩])) (q_w_toStringS_c0)) e ks := (rfl)
def q_w_toStringS_l0 : QCode := .seq (.seq (.ops [⟨some 8, .move (.tmp 4), 3, none⟩, ⟨some 9, .move (.tmp 0), 48, none⟩, ⟨some 10, .call { callee := .builtin .len, args := #[.tmp 9], argTypes := #[48] }, 3, none⟩, ⟨some 11, .binOp .lss 3 (.tmp 8) (.tmp 10) 3, 4, none⟩]) (.cond (.tmp 11) (.skip) (.exit 0))) (q_w_toStringS_c1)
@[simp] theorem q_w_toStringS_l0_run (c : Ctx) (e : Env) (ks : List Fr) : Run c q_w_toStringS_l0 e ks = Run c (.seq (.seq (.ops [⟨some 8, .move (.tmp 4), 3, none⟩, ⟨some 9, .move (.tmp 0), 48, none⟩, ⟨some 10, .call { callee := .builtin .len, args := #[.tmp 9], argTypes := #[48] }, 3, none⟩, ⟨some 11, .binOp .lss 3 (.tmp 8) (.tmp 10) 3, 4, none⟩]) (.cond (.tmp 11) (.skip) (.exit 0))) (q_w_toStringS_c1)) e ks := (rfl)
def q_w_toStringS_c2 : QCode := .seq (.ops [⟨some 21, .move (.tmp 3), 48, none⟩, ⟨some 2, .assign (.tmp 21), 48, none⟩]) (.ret)
@[simp] theorem q_w_toStringS_c2_run (c : Ctx) (e : Env) (ks : List Fr) : Run c q_w_toStringS_c2 e ks = Run c (.seq (.ops [⟨some 21, .move (.tmp 3), 48, none⟩, ⟨some 2, .assign (.tmp 21), 48, none⟩]) (.ret)) e ks := (rfl)
@[simp] def q_w_toStringS : QFn := ⟨22, [(.tmp 2, 48)], .seq (.ops [⟨some 2, .assign (.const (.slice none 0 0)), 48, none⟩]) (.seq (.ops [⟨some 5, .move (.tmp 0), 48, none⟩, ⟨some 6, .call { callee := .builtin .len, args := #[.tmp 5], argTypes := #[48] }, 3, none⟩, ⟨some 7, .makeSlice 48 (.tmp 6) (.tmp 6), 48, none⟩, ⟨some 3, .assign (.tmp 7), 48, none⟩]) (.seq (.seq (.ops [⟨some 4, .assign (.const (.int .i64 0)), 3, none⟩]) (.block 0 (.loop q_w_toStringS_l0))) (q_w_toStringS_c2)))⟩
theorem conv_w_toStringS : convF Tryd.f58 = some q_w_toStringS := by kernel_rfl
/-! 59 i_all_string -/
abbrev fn_i_all_string : FuncId := 59
def q_i_all_string_c0 : QCode := .ops [⟨some 17, .binOp .add 3 (.tmp 9) (.const (.int .i64 1)) 3, 3, none⟩, ⟨some 9, .move (.tmp 17), 3, none⟩]
@[simp] theorem q_i_all_string_c0_run (c : Ctx) (e : Env) (ks : List Fr) : Run c q_i_all_string_c0 e ks = Run c (.ops [⟨some 17, .binOp .add 3 (.tmp 9) (.const (.int .i64 1)) 3, 3, none⟩, ⟨some 9, .move (.tmp 17), 3, none⟩]) e ks := (rfl)
def q_i_all_string_c1 : QCode := .seq (.block 1 (.seq (.ops [⟨some 11, .indexAddr 48 (.tmp 7) (.tmp 9), 0, none⟩, ⟨some 12, .load 9 (.tmp 11), 9, none⟩, ⟨some 6, .assign (.tmp 12), 9, none⟩]) (.seq (.ops [⟨some 13, .move (.tmp 1), 46, none⟩, ⟨some 14, .move (.tmp 6), 9, none⟩, ⟨some 15, .call { callee := .value (.tmp 13), args := #[.tmp 14], argTypes := #[9] }, 4, none⟩, ⟨some 16, .unOp .not 4 (.tmp 15), 4, none⟩]) (.cond (.tmp 16) (.seq (.ops [⟨some 4, .assign (.const (.bool false)), 4, none⟩]) (.ret)) (.skip))))) (q_i_all_string_c0)
@[simp] theorem q_i_all_string_c1_run (c : Ctx) (e : Env) (ks : List Fr) : Run c q_i_all_string_c1 e ks = Run c (.seq (.block 1 (.seq (.ops [⟨some 11, .indexAddr 48 (.tmp 7) (.tmp 9), 0, none⟩, ⟨some 12, .load 9 (.tmp 11), 9, none⟩, ⟨some 6, .assign (.tmp 12), 9, none⟩]) (.seq (.ops [⟨some 13, .move (.tmp 1), 46, none⟩, ⟨some 14, .move (.tmp 6), 9, none⟩, ⟨some 15, .call { callee := .value (.tmp 13), args := #[.tmp 14], argTypes := #[9] }, 4, none⟩, ⟨some 16, .unOp .not 4 (.tmp 15), 4, none⟩]) (.cond (.tmp 16) (.seq (.ops [⟨some 4, .assign (.const (.bool false)), 4, none⟩]) (.ret)) (.skip))))) (q_i_all_string_c0)) e ks := (rfl)
def q_i_all_string_l0 : QCode := .seq (.ops [⟨some 10, .binOp .lss 3 (.tmp 9) (.tmp 8) 3, 0, none⟩]) (.seq (.cond (.tmp 10) (.skip) (.exit 0)) (q_i_all_string_c1))
@[simp] theorem q_i_all_string_l0_run (c : Ctx) (e : Env) (ks : List Fr) : Run c q_i_all_string_l0 e ks = Run c (.seq (.ops [⟨some 10, .binOp .lss 3 (.tmp 9) (.tmp 8) 3, 0, none⟩]) (.seq (.cond (.tmp 10) (.skip) (.exit 0)) (q_i_all_string_c1))) e ks := (rfl)
def q_i_all_string_c2 : QCode := .seq (.ops [⟨some 4, .assign (.const (.bool true)), 4, none⟩]) (.ret)
@[simp] theorem q_i_all_string_c2_run (c : Ctx) (e : Env) (ks : List Fr) : Run c q_i_all_string_c2 e ks = Run c (.seq (.ops [⟨some 4, .assign (.const (.bool true)), 4, none⟩]) (.ret)) e ks := (rfl)
@[simp] def q_i_all_string : QFn := ⟨18, [(.tmp 4, 4)], .seq (.ops [⟨some 4, .assign (.const (.bool false)), 4, none⟩]) (.seq (.seq (.ops [⟨some 7, .move (.tmp 0), 48, none⟩, ⟨some 8, .call { callee := .builtin .len, args := #[.tmp 7], argTypes := #[48] }, 3, none⟩, ⟨some 9, .move (.const (.int .i64 0)), 3, none⟩]) (.block 0 (.loop q_i_all_string_l0))) (q_i_all_string_c2))⟩
theorem conv_i_all_string : convF Tryd.f59 = some q_i_all_string := by kernel_rfl
/-! 60 i_hunkLineOk -/
abbrev fn_i_hunkLineOk : FuncId := 60
@[simp] def q_i_hunkLineOk : QFn := ⟨25, [(.tmp 2, 4)], .seq (.ops [⟨some 2, .assign (.const (.bool false)), 4, none⟩]) (.seq (.ops [⟨some 3, .move (.tmp 0), 9, none⟩, ⟨some 4, .binOp .neq 9 (.tmp 3) (.const (.string { data := #[] })) 9, 4, none⟩, ⟨some 5, .move (.tmp 4), 4, none⟩, ⟨some 6, .move (.tmp 0), 9, some (5, true)⟩, ⟨some 7, .index 9 (.tmp 6) (.const (.int .i64 0)), 5, some (5, true)⟩, ⟨some 8, .binOp .eql 5 (.tmp 7) (.const (.int .u8 32)) 5, 4, some (5, true)⟩, ⟨some 9, .move (.tmp 8), 4, some (5, true)⟩, ⟨some 10, .move (.tmp 0), 9, some (9, false)⟩, ⟨some 11, .index 9 (.tmp 10) (.const (.int .i64 0)), 5, some (9, false)⟩, ⟨some 12, .binOp .eql 5 (.tmp 11) (.const (.int .u8 45)) 5, 4, some (9, false)⟩, ⟨some 13, .pick (.tmp 9) (.const (.bool true)) (.tmp 12), 4, some (5, true)⟩, ⟨some 14, .move (.tmp 13), 4, some (5, true)⟩, ⟨some 15, .move (.tmp 0), 9, some (14, false)⟩, ⟨some 16, .index 9 (.tmp 15) (.const (.int .i64 0)), 5, some (14, false)⟩, ⟨some 17, .binOp .eql 5 (.tmp 16) (.const (.int .u8 43)) 5, 4, some (14, false)⟩, ⟨some 18, .pick (.tmp 14) (.const (.bool true)) (.tmp 17), 4, some (5, true)⟩, ⟨some 19, .pick (.tmp 5) (.tmp 18) (.const (.bool false)), 4, none⟩, ⟨some 20, .move (.tmp 19), 4, none⟩, ⟨some 21, .move (.tmp 0), 9, some (20, true)⟩, ⟨some 22, .slice 9 (.tmp 21) (some (.const (.int .i64 1))) none none, 9, some (20, true)⟩, ⟨some 23, .call { callee := .value (.func 67), args := #[.tmp 22], argTypes := #[9] }, 4, some (20, true)⟩, ⟨some 24, .pick (.tmp 20) (.tmp 23) (.const (.bool false)), 4, none⟩, ⟨some 2, .assign (.tmp 24), 4, none⟩]) (.ret))⟩
theorem conv_i_hunkLineOk : convF Tryd.f60 = some q_i_hunkLineOk := by kernel_rfl
/-! 61 i_sides -/
abbrev fn_i_sides : FuncId := 61
def q_i_sides_c0 : QCode := .seq (.ops [⟨some 22, .move (.tmp 7), 9, none⟩, ⟨some 23, .index 9 (.tmp 22) (.const (.int .i64 0)), 5, none⟩, ⟨some 24, .binOp .neq 5 (.tmp 23) (.const (.int .u8 45)) 5, 4, none⟩]) (.cond (.tmp 24) (.ops [⟨some 25, .move (.tmp 5), 48, none⟩, ⟨some 26, .move (.tmp 7), 9, none⟩, ⟨some 27, .slice 9 (.tmp 26) (some (.const (.int .i64 1))) none none, 9, none⟩, ⟨some 28, .buildSlice 48 1 #[(0, .tmp 27)], 48, none⟩, ⟨some 29, .call { callee := .builtin .append, args := #[.tmp 25, .tmp 28], argTypes := #[48, 48] }, 48, none⟩, ⟨some 5, .assign (.tmp 29), 48, none⟩]) (.skip))
@[simp] theorem q_i_sides_c0_run (c : Ctx) (e : Env) (ks : List Fr) : Run c q_i_sides_c0 e ks = Run c (.seq (.ops [⟨some 22, .move (.tmp 7), 9, none⟩, ⟨some 23, .index 9 (.tmp 22) (.const (.int .i64 0)), 5, none⟩, ⟨some 24, .binOp .neq 5 (.tmp 23) (.const (.int .u8 45)) 5, 4, none⟩]) (.cond (.tmp 24) (.ops [⟨some 25, .move (.tmp 5), 48, none⟩, ⟨some 26, .move (.tmp 7), 9, none⟩, ⟨some 27, .slice 9 (.tmp 26) (some (.const (.int .i64 1))) none none, 9, none⟩, ⟨some 28, .buildSlice 48 1 #[(0, .tmp 27)], 48, none⟩, ⟨some 29, .call { callee := .builtin .append, args := #[.tmp 25, .tmp 28], argTypes := #[48, 48] }, 48, none⟩, ⟨some 5, .assign (.tmp 29), 48, none⟩]) (.skip))) e ks := (rfl)
def q_i_sides_c1 : QCode := .ops [⟨some 30, .binOp .add 3 (.tmp 10) (.const (.int .i64 1)) 3, 3, none⟩, ⟨some 10, .move (.tmp 30), 3, none⟩]
@[simp] theorem q_i_sides_c1_run (c : Ctx) (e : Env) (ks : List Fr) : Run c q_i_sides_c1 e ks = Run c (.ops [⟨some 30, .binOp .add 3 (.tmp 10) (.const (.int .i64 1)) 3, 3, none⟩, ⟨some 10, .move (.tmp 30), 3, none⟩]) e ks := (rfl)
def q_i_sides_c2 : QCode := .seq (.block 1 (.seq (.ops [⟨some 12, .indexAddr 48 (.tmp 8) (.tmp 10), 0, none⟩, ⟨some 13, .load 9 (.tmp 12), 9, none⟩, ⟨some 7, .assign (.tmp 13), 9, none⟩]) (.seq (.seq (.ops [⟨some 14, .move (.tmp 7), 9, none⟩, ⟨some 15, .index 9 (.tmp 14) (.const (.int .i64 0)), 5, none⟩, ⟨some 16, .binOp .neq 5 (.tmp 15) (.const (.int .u8 43)) 5, 4, none⟩]) (.cond (.tmp 16) (.ops [⟨some 17, .move (.tmp 4), 48, none⟩, ⟨some 18, .move (.tmp 7), 9, none⟩, ⟨some 19, .slice 9 (.tmp 18) (some (.const (.int .i64 1))) none none, 9, none⟩, ⟨some 20, .buildSlice 48 1 #[(0, .tmp 19)], 48, none⟩, ⟨some 21, .call { callee := .builtin .append, args := #[.tmp 17, .tmp 20], argTypes := #[48, 48] }, 48, none⟩, ⟨some 4, .assign (.tmp 21), 48, none⟩]) (.skip))) (q_i_sides_c0)))) (q_i_sides_c1)
@[simp] theorem q_i_sides_c2_run (c : Ctx) (e : Env) (ks : List Fr) : Run c q_i_sides_c2 e ks = Run c (.seq (.block 1 (.seq (.ops [⟨some 12, .indexAddr 48 (.tmp 8) (.tmp 10), 0, none⟩, ⟨some 13, .load 9 (.tmp 12), 9, none⟩, ⟨some 7, .assign (.tmp 13), 9, none⟩]) (.seq (.seq (.ops [⟨some 14, .move (.tmp 7), 9, none⟩, ⟨some 15, .index 9 (.tmp 14) (.const (.int .i64 0)), 5, none⟩, ⟨some 16, .binOp .neq 5 (.tmp 15) (.const (.int .u8 43)) 5, 4, none⟩]) (.cond (.tmp 16) (.ops [⟨some 17, .move (.tmp 4), 48, none⟩, ⟨some 18, .move (.tmp 7), 9, none⟩, ⟨some 19, .slice 9 (.tmp 18) (some (.const (.int .i64 1))) none none, 9, none⟩, ⟨some 20, .buildSlice 48 1 #[(0, .tmp 19)], 48, none⟩, ⟨some 21, .call { callee := .builtin .append, args := #[.tmp 17, .tmp 20], argTypes := #[48, 48] }, 48, none⟩, ⟨some 4, .assign (.tmp 21), 48, none⟩]) (.skip))) (q_i_sides_c0)))) (q_i_sides_c1)) e ks := (rfl)
def q_i_sides_l0 : QCode := .seq (.ops [⟨some 11, .binOp .lss 3 (.tmp 10) (.tmp 9) 3, 0, none⟩]) (.seq (.cond (.tmp 11) (.skip) (.exit 0)) (q_i_sides_c2))
@[simp] theorem q_i_sides_l0_run (c : Ctx) (e : Env) (ks : List Fr) : Run c q_i_sides_l0 e ks = Run c (.seq (.ops [⟨some 11, .binOp .lss 3 (.tmp 10) (.tmp 9) 3, 0, none⟩]) (.seq (.cond (.tmp 11) (.skip) (.exit 0)) (q_i_sides_c2))) e ks := (rfl)
def q_i_sides_c3 : QCode := .seq (.ops [⟨some 31, .move (.tmp 4), 48, none⟩, ⟨some 32, .move (.tmp 5), 48, none⟩, ⟨some 2, .assign (.tmp 31), 48, none⟩, ⟨some 3, .assign (.tmp 32), 48, none⟩]) (.ret)
@[simp] theorem q_i_sides_c3_run (c : Ctx) (e : Env) (ks : List Fr) : Run c q_i_sides_c3 e ks = Run c (.seq (.ops [⟨some 31, .move (.tmp 4), 48, none⟩, ⟨some 32, .move (.tmp 5), 48, none⟩, ⟨some 2, .assign (.tmp 31), 48, none⟩, ⟨some 3, .assign (.tmp 32), 48, none⟩]) (.ret)) e ks := (rfl)
@[simp] def q_i_sides : QFn := ⟨33, [(.tmp 2, 48), (.tmp 3, 48)], .seq (.ops [⟨some 2, .assign (.const (.slice none 0 0)), 48, none⟩, ⟨some 3, .assign (.const (.slice none 0 0)), 48, none⟩]) (.seq (.ops [⟨some 4, .assign (.const (.slice none 0 0)), 48, none⟩, ⟨some 5, .assign (.const (.slice none 0 0)), 48, none⟩]) (.seq (.seq (.ops [⟨some 8, .move (.tmp 0), 48, none⟩, ⟨some 9, .call { callee := .builtin .len, args := #[.tmp 8], argTypes := #[48] }, 3, none⟩, ⟨some 10, .move (.const (.int .i64 0)), 3, none⟩]) (.block 0 (.loop q_i_sides_l0))) (q_i_sides_c3)))⟩
theorem conv_i_sides : convF Tryd.f61 = some q_i_sides := by kernel_rfl
/-! 64 w_eqStringS -/
abbrev fn_w_eqStringS : FuncId := 64
def q_w_eqStringS_c0 : QCode := .ops [⟨some 15, .move (.tmp 5), 3, none⟩, ⟨some 16, .binOp .add 3 (.tmp 15) (.const (.int .i64 1)) 3, 3, none⟩, ⟨some 5, .assign (.tmp 16), 3, none⟩]
@[simp] theorem q_w_eqStringS_c0_run (c : Ctx) (e : Env) (ks : List Fr) : Run c q_w_eqStringS_c0 e ks = Run c (.ops [⟨some 15, .move (.tmp 5), 3, none⟩, ⟨some 16, .binOp .add 3 (.tmp 15) (.const (.int .i64 1)) 3, 3, none⟩, ⟨some 5, .assign (.tmp 16), 3, none⟩]) e ks := (rfl)
def q_w_eqStringS_c1 : QCode := .seq (.block 1 (.seq (.draw [⟨some 17, .move (.tmp 0), 48, none⟩, ⟨some 18, .move (.tmp 5), 3, none⟩, ⟨some 19, .indexAddr 48 (.tmp 17) (.tmp 18), 0, none⟩, ⟨some 20, .load 9 (.tmp 19), 9, none⟩, ⟨some 21, .move (.tmp 1), 48, none⟩, ⟨some 22, .move (.tmp 5), 3, none⟩, ⟨some 23, .indexAddr 48 (.tmp 21) (.tmp 22), 0, none⟩, ⟨some 24, .load 9 (.tmp 23), 9, none⟩] [⟨some 25, .binOp .neq 9 (.tmp 20) (.tmp 24) 9, 4, none⟩]) (.cond (.tmp 25) (.seq (.ops [⟨some 4, .assign (.const (.bool false)), 4, none⟩]) (.ret)) (.skip)))) (q_w_eqStringS_c0)
@[simp] theorem q_w_eqStringS_c1_run (c : Ctx) (e : Env) (ks : List Fr) : Run c q_w_eqStringS_c1 e ks = Run c (.seq (.block 1 (.seq (.draw [⟨some 17, .move (.tmp 0), 48, none⟩, ⟨some 18, .move (.tmp 5), 3, none⟩, ⟨some 19, .indexAddr 48 (.tmp 17) (.tmp 18), 0, none⟩, ⟨some 20, .load 9 (.tmp 19), 9, none⟩, ⟨some 21, .move (.tmp 1), 48, none⟩, ⟨some 22, .move (.tmp 5), 3, none⟩, ⟨some 23, .indexAddr 48 (.tmp 21) (.tmp 22), 0, none⟩, ⟨some 24, .load 9 (.tmp 23), 9, none⟩] [⟨some 25, .binOp .neq 9 (.tmp 20) (.tmp 24) 9, 4, none⟩]) (.cond (.tmp 25) (.seq (.ops [⟨some 4, .assign (.const (.bool false)), 4, none⟩]) (.ret)) (.skip)))) (q_w_eqStringS_c0)) e ks := (rfl)
def q_w_eqStringS_l0 : QCode := .seq (.seq (.ops [⟨some 11, .move (.tmp 5), 3, none⟩, ⟨some 12, .move (.tmp 0), 48, none⟩, ⟨some 13, .call { callee := .builtin .len, args := #[.tmp 12], argTypes := #[48] }, 3, none⟩, ⟨some 14, .binOp .lss 3 (.tmp 11) (.tmp 13) 3, 4, none⟩]) (.cond (.tmp 14) (.skip) (.exit 0))) (q_w_eqStringS_c1)
@[simp] theorem q_w_eqStringS_l0_run (c : Ctx) (e : Env) (ks : List Fr) : Run c q_w_eqStringS_l0 e ks = Run c (.seq (.seq (.ops [⟨some 11, .move (.tmp 5), 3, none⟩, ⟨some 12, .move (.tmp 0), 48, none⟩, ⟨some 13, .call { callee := .builtin .len, args := #[.tmp 12], argTypes := #[48] }, 3, none⟩, ⟨some 14, .binOp .lss 3 (.tmp 11) (.tmp 13) 3, 4, none⟩]) (.cond (.tmp 14) (.skip) (.exit 0))) (q_w_eqStringS_c1)) e ks := (rfl)
def q_w_eqStringS_c2 : QCode := .seq (.ops [⟨some 4, .assign (.const (.bool true)), 4, none⟩]) (.ret)
@[simp] theorem q_w_eqStringS_c2_run (c : Ctx) (e : Env) (ks : List Fr) : Run c q_w_eqStringS_c2 e ks = Run c (.seq (.ops [⟨some 4, .assign (.const (.bool true)), 4, none⟩]) (.ret)) e ks := (rfl)
def q_w_eqStringS_c3 : QCode := .seq (.seq (.ops [⟨some 5, .assign (.const (.int .i64 0)), 3, none⟩]) (.block 0 (.loop q_w_eqStringS_l0))) (q_w_eqStringS_c2)
@[simp] theorem q_w_eqStringS_c3_run (c : Ctx) (e : Env) (ks : List Fr) : Run c q_w_eqStringS_c3 e ks = Run c (.seq (.seq (.ops [⟨some 5, .assign (.const (.int .i64 0)), 3, none⟩]) (.block 0 (.loop q_w_eqStringS_l0))) (q_w_eqStringS_c2)) e ks := (rfl)
@[simp] def q_w_eqStringS : QFn := ⟨26, [(.tmp 4, 4)], .seq (.ops [⟨some 4, .assign (.const (.bool false)), 4, none⟩]) (.seq (.seq (.ops [⟨some 6, .move (.tmp 0), 48, none⟩, ⟨some 7, .call { callee := .builtin .len, args := #[.tmp 6], argTypes := #[48] }, 3, none⟩, ⟨some 8, .move (.tmp 1), 48, none⟩, ⟨some 9, .call { callee := .builtin .len, args := #[.tmp 8], argTypes := #[48] }, 3, none⟩, ⟨some 10, .binOp .neq 3 (.tmp 7) (.tmp 9) 3, 4, none⟩]) (.cond (.tmp 10) (.seq (.ops [⟨some 4, .assign (.const (.bool false)), 4, none⟩]) (.ret)) (.skip))) (q_w_eqStringS_c3))⟩
theorem conv_w_eqStringS : convF Tryd.f64 = some q_w_eqStringS := by kernel_rfl
/-! 67 i_plainText -/
abbrev fn_i_plainText : FuncId := 67
def q_i_plainText_c0 : QCode := .ops [⟨some 17, .binOp .add 3 (.tmp 9) (.const (.int .i64 1)) 3, 3, none⟩, ⟨some 9, .move (.tmp 17), 3, none⟩]
@[simp] theorem q_i_plainText_c0_run (c : Ctx) (e : Env) (ks : List Fr) : Run c q_i_plainText_c0 e ks = Run c (.ops [⟨some 17, .binOp .add 3 (.tmp 9) (.const (.int .i64 1)) 3, 3, none⟩, ⟨some 9, .move (.tmp 17), 3, none⟩]) e ks := (rfl)
def q_i_plainText_c1 : QCode := .seq (.block 1 (.seq (.ops [⟨some 11, .move (.tmp 9), 3, none⟩, ⟨some 3, .assign (.tmp 11), 3, none⟩]) (.seq (.ops [⟨some 12, .move (.tmp 0), 9, none⟩, ⟨some 13, .move (.tmp 3), 3, none⟩, ⟨some 14, .index 9 (.tmp 12) (.tmp 13), 5, none⟩, ⟨some 15, .call { callee := .value (.func 85), args := #[.tmp 14], argTypes := #[5] }, 4, none⟩, ⟨some 16, .unOp .not 4 (.tmp 15), 4, none⟩]) (.cond (.tmp 16) (.seq (.ops [⟨some 2, .assign (.const (.bool false)), 4, none⟩]) (.ret)) (.skip))))) (q_i_plainText_c0)
@[simp] theorem q_i_plainText_c1_run (c : Ctx) (e : Env) (ks : List Fr) : Run c q_i_plainText_c1 e ks = Run c (.seq (.block 1 (.seq (.ops [⟨some 11, .move (.tmp 9), 3, none⟩, ⟨some 3, .assign (.tmp 11), 3, none⟩]) (.seq (.ops [⟨some 12, .move (.tmp 0), 9, none⟩, ⟨some 13, .move (.tmp 3), 3, none⟩, ⟨some 14, .index 9 (.tmp 12) (.tmp 13), 5, none⟩, ⟨some 15, .call { callee := .value (.func 85), args := #[.tmp 14], argTypes := #[5] }, 4, none⟩, ⟨some 16, .unOp .not 4 (.tmp 15), 4, none⟩]) (.cond (.tmp 16) (.seq (.ops [⟨some 2, .assign (.const (.bool false)), 4, none⟩]) (.ret)) (.skip))))) (q_i_plainText_c0)) e ks := (rfl)
def q_i_plainText_l0 : QCode := .seq (.ops [⟨some 10, .binOp .lss 3 (.tmp 9) (.tmp 8) 3, 4, none⟩]) (.seq (.cond (.tmp 10) (.skip) (.exit 0)) (q_i_plainText_c1))
@[simp] theorem q_i_plainText_l0_run (c : Ctx) (e : Env) (ks : List Fr) : Run c q_i_plainText_l0 e ks = Run c (.seq (.ops [⟨some 10, .binOp .lss 3 (.tmp 9) (.tmp 8) 3, 4, none⟩]) (.seq (.cond (.tmp 10) (.skip) (.exit 0)) (q_i_plainText_c1))) e ks := (rfl)
def q_i_plainText_c2 : QCode := .seq (.ops [⟨some 2, .assign (.const (.bool true)), 4, none⟩]) (.ret)
@[simp] theorem q_i_plainText_c2_run (c : Ctx) (e : Env) (ks : List Fr) : Run c q_i_plainText_c2 e ks = Run c (.seq (.ops [⟨some 2, .assign (.const (.bool true)), 4, none⟩]) (.ret)) e ks := (rfl)
def q_i_plainText_c3 : QCode := .seq (.seq (.ops [⟨some 7, .move (.tmp 0), 9, none⟩, ⟨some 8, .call { callee := .builtin .len, args := #[.tmp 7], argTypes := #[9] }, 3, none⟩, ⟨some 9, .move (.const (.int .i64 0)), 3, none⟩]) (.block 0 (.loop q_i_plainText_l0))) (q_i_plainText_c2)
@[simp] theorem q_i_plainText_c3_run (c : Ctx) (e : Env) (ks : List Fr) : Run c q_i_plainText_c3 e ks = Run c (.seq (.seq (.ops [⟨some 7, .move (.tmp 0), 9, none⟩, ⟨some 8, .call { callee := .builtin .len, args := #[.tmp 7], argTypes := #[9] }, 3, none⟩, ⟨some 9, .move (.const (.int .i64 0)), 3, none⟩]) (.block 0 (.loop q_i_plainText_l0))) (q_i_plainText_c2)) e ks := (rfl)
@[simp] def q_i_plainText : QFn := ⟨18, [(.tmp 2, 4)], .seq (.ops [⟨some 2, .assign (.const (.bool false)), 4, none⟩]) (.seq (.seq (.ops [⟨some 4, .move (.tmp 0), 9, none⟩, ⟨some 5, .call { callee := .builtin .len, args := #[.tmp 4], argTypes := #[9] }, 3, none⟩, ⟨some 6, .binOp .gtr 3 (.tmp 5) (.const (.int .i64 80)) 3, 4, none⟩]) (.cond (.tmp 6) (.seq (.ops [⟨some 2, .assign (.const (.bool false)), 4, none⟩]) (.ret)) (.skip))) (q_i_plainText_c3))⟩
theorem conv_i_plainText : convF Tryd.f67 = some q_i_plainText := by kernel_rfl
/-! 73 s_l1In -/
abbrev fn_s_l1In : FuncId := 73
@[simp] def q_s_l1In : QFn := ⟨15, [(.tmp 6, 4)], .seq (.ops [⟨some 6, .assign (.const (.bool false)), 4, none⟩]) (.seq (.ops [⟨some 7, .move (.tmp 0), 3, none⟩, ⟨some 8, .move (.tmp 1), 3, none⟩, ⟨some 9, .binOp .geq 3 (.tmp 7) (.tmp 8) 3, 4, none⟩, ⟨some 10, .move (.tmp 9), 4, none⟩, ⟨some 11, .move (.tmp 0), 3, some (10, true)⟩, ⟨some 12, .move (.tmp 2), 3, some (10, true)⟩, ⟨some 13, .binOp .leq 3 (.tmp 11) (.tmp 12) 3, 4, some (10, true)⟩, ⟨some 14, .pick (.tmp 10) (.tmp 13) (.const (.bool false)), 4, none⟩, ⟨some 6, .assign (.tmp 14), 4, none⟩]) (.ret))⟩
theorem conv_s_l1In : convF Tryd.f73 = some q_s_l1In := by kernel_rfl
/-! 76 s_l1Cut -/
abbrev fn_s_l1Cut : FuncId := 76
def q_s_l1Cut_c0 : QCode := .ops [⟨some 21, .move (.tmp 9), 3, none⟩, ⟨some 22, .binOp .add 3 (.tmp 21) (.const (.int .i64 1)) 3, 3, none⟩, ⟨some 9, .assign (.tmp 22), 3, none⟩]
@[simp] theorem q_s_l1Cut_c0_run (c : Ctx) (e : Env) (ks : List Fr) : Run c q_s_l1Cut_c0 e ks = Run c (.ops [⟨some 21, .move (.tmp 9), 3, none⟩, ⟨some 22, .binOp .add 3 (.tmp 21) (.const (.int .i64 1)) 3, 3, none⟩, ⟨some 9, .assign (.tmp 22), 3, none⟩]) e ks := (rfl)
def q_s_l1Cut_c1 : QCode := .seq (.block 1 (.seq (.ops [⟨some 23, .move (.tmp 0), 9, none⟩, ⟨some 24, .move (.tmp 9), 3, none⟩, ⟨some 25, .index 9 (.tmp 23) (.tmp 24), 5, none⟩, ⟨some 26, .move (.tmp 1), 5, none⟩, ⟨some 27, .binOp .eql 5 (.tmp 25) (.tmp 26) 5, 4, none⟩]) (.cond (.tmp 27) (.seq (.ops [⟨some 28, .move (.tmp 7), 48, none⟩, ⟨some 29, .move (.tmp 0), 9, none⟩, ⟨some 30, .move (.tmp 8), 3, none⟩, ⟨some 31, .move (.tmp 9), 3, none⟩, ⟨some 32, .slice 9 (.tmp 29) (some (.tmp 30)) (some (.tmp 31)) none, 9, none⟩, ⟨some 33, .buildSlice 48 1 #[(0, .tmp 32)], 48, none⟩, ⟨some 34, .call { callee := .builtin .append, args := #[.tmp 28, .tmp 33], argTypes := #[48, 48] }, 48, none⟩, ⟨some 7, .assign (.tmp 34), 48, none⟩]) (.ops [⟨some 35, .move (.tmp 9), 3, none⟩, ⟨some 36, .binOp .add 3 (.tmp 35) (.const (.int .i64 1)) 3, 3, none⟩, ⟨some 8, .assign (.tmp 36), 3, none⟩])) (.skip)))) (q_s_l1Cut_c0)
@[simp] theorem q_s_l1Cut_c1_run (c : Ctx) (e : Env) (ks : List Fr) : Run c q_s_l1Cut_c1 e ks = Run c (.seq (.block 1 (.seq (.ops [⟨some 23, .move (.tmp 0), 9, none⟩, ⟨some 24, .move (.tmp 9), 3, none⟩, ⟨some 25, .index 9 (.tmp 23) (.tmp 24), 5, none⟩, ⟨some 26, .move (.tmp 1), 5, none⟩, ⟨some 27, .binOp .eql 5 (.tmp 25) (.tmp 26) 5, 4, none⟩]) (.cond (.tmp 27) (.seq (.ops [⟨some 28, .move (.tmp 7), 48, none⟩, ⟨some 29, .move (.tmp 0), 9, none⟩, ⟨some 30, .move (.tmp 8), 3, none⟩, ⟨some 31, .move (.tmp 9), 3, none⟩, ⟨some 32, .slice 9 (.tmp 29) (some (.tmp 30)) (some (.tmp 31)) none, 9, none⟩, ⟨some 33, .buildSlice 48 1 #[(0, .tmp 32)], 48, none⟩, ⟨some 34, .call { callee := .builtin .append, args := #[.tmp 28, .tmp 33], argTypes := #[48, 48] }, 48, none⟩, ⟨some 7, .assign (.tmp 34), 48, none⟩]) (.ops [⟨some 35, .move (.tmp 9), 3, none⟩, ⟨some 36, .binOp .add 3 (.tmp 35) (.const (.int .i64 1)) 3, 3, none⟩, ⟨some 8, .assign (.tmp 36), 3, none⟩])) (.skip)))) (q_s_l1Cut_c0)) e ks := (rfl)
def q_s_l1Cut_l0 : QCode := .seq (.seq (.ops [⟨some 11, .move (.tmp 9), 3, none⟩, ⟨some 12, .move (.tmp 0), 9, none⟩, ⟨some 13, .call { callee := .builtin .len, args := #[.tmp 12], argTypes := #[9] }, 3, none⟩, ⟨some 14, .binOp .lss 3 (.tmp 11) (.tmp 13) 3, 4, none⟩, ⟨some 15, .move (.tmp 14), 4, none⟩, ⟨some 16, .move (.tmp 7), 48, some (15, true)⟩, ⟨some 17, .call { callee := .builtin .len, args := #[.tmp 16], argTypes := #[48] }, 3, some (15, true)⟩, ⟨some 18, .move (.tmp 2), 3, some (15, true)⟩, ⟨some 19, .binOp .lss 3 (.tmp 17) (.tmp 18) 3, 4, some (15, true)⟩, ⟨some 20, .pick (.tmp 15) (.tmp 19) (.const (.bool false)), 4, none⟩]) (.cond (.tmp 20) (.skip) (.exit 0))) (q_s_l1Cut_c1)
@[simp] theorem q_s_l1Cut_l0_run (c : Ctx) (e : Env) (ks : List Fr) : Run c q_s_l1Cut_l0 e ks = Run c (.seq (.seq (.ops [⟨some 11, .move (.tmp 9), 3, none⟩, ⟨some 12, .move (.tmp 0), 9, none⟩, ⟨some 13, .call { callee := .builtin .len, args := #[.tmp 12], argTypes := #[9] }, 3, none⟩, ⟨some 14, .binOp .lss 3 (.tmp 11) (.tmp 13) 3, 4, none⟩, ⟨some 15, .move (.tmp 14), 4, none⟩, ⟨some 16, .move (.tmp 7), 48, some (15, true)⟩, ⟨some 17, .call { callee := .builtin .len, args := #[.tmp 16], argTypes := #[48] }, 3, some (15, true)⟩, ⟨some 18, .move (.tmp 2), 3, some (15, true)⟩, ⟨some 19, .binOp .lss 3 (.tmp 17) (.tmp 18) 3, 4, some (15, true)⟩, ⟨some 20, .pick (.tmp 15) (.tmp 19) (.const (.bool false)), 4, none⟩]) (.cond (.tmp 20) (.skip) (.exit 0))) (q_s_l1Cut_c1)) e ks := (rfl)
def q_s_l1Cut_c2 : QCode := .seq (.ops [⟨some 37, .move (.tmp 7), 48, none⟩, ⟨some 38, .move (.tmp 0), 9, none⟩, ⟨some 39, .move (.tmp 8), 3, none⟩, ⟨some 40, .slice 9 (.tmp 38) (some (.tmp 39)) none none, 9, none⟩, ⟨some 41, .buildSlice 48 1 #[(0, .tmp 40)], 48, none⟩, ⟨some 42, .call { callee := .builtin .append, args := #[.tmp 37, .tmp 41], argTypes := #[48, 48] }, 48, none⟩, ⟨some 6, .assign (.tmp 42), 48, none⟩]) (.ret)
@[simp] theorem q_s_l1Cut_c2_run (c : Ctx) (e : Env) (ks : List Fr) : Run c q_s_l1Cut_c2 e ks = Run c (.seq (.ops [⟨some 37, .move (.tmp 7), 48, none⟩, ⟨some 38, .move (.tmp 0), 9, none⟩, ⟨some 39, .move (.tmp 8), 3, none⟩, ⟨some 40, .slice 9 (.tmp 38) (some (.tmp 39)) none none, 9, none⟩, ⟨some 41, .buildSlice 48 1 #[(0, .tmp 40)], 48, none⟩, ⟨some 42, .call { callee := .builtin .append, args := #[.tmp 37, .tmp 41], argTypes := #[48, 48] }, 48, none⟩, ⟨some 6, .assign (.tmp 42), 48, none⟩]) (.ret)) e ks := (rfl)
@[simp] def q_s_l1Cut : QFn := ⟨43, [(.tmp 6, 48)], .seq (.ops [⟨some 6, .assign (.const (.slice none 0 0)), 48, none⟩]) (.seq (.ops [⟨some 10, .buildSlice 48 0 #[], 48, none⟩, ⟨some 7, .assign (.tmp 10), 48, none⟩]) (.seq (.ops [⟨some 8, .assign (.const (.int .i64 0)), 3, none⟩]) (.seq (.seq (.ops [⟨some 9, .assign (.const (.int .i64 0)), 3, none⟩]) (.block 0 (.loop q_s_l1Cut_l0))) (q_s_l1Cut_c2))))⟩
theorem conv_s_l1Cut : convF Tryd.f76 = some q_s_l1Cut := by kernel_rfl
/-! 77 s_l1Num -/
abbrev fn_s_l1Num : FuncId := 77
def q_s_l1Num_c0 : QCode := .ops [⟨some 25, .move (.tmp 3), 3, none⟩, ⟨some 26, .binOp .mul 3 (.tmp 25) (.const (.int .i64 10)) 3, 3, none⟩, ⟨some 27, .move (.tmp 0), 9, none⟩, ⟨some 28, .move (.tmp 4), 3, none⟩, ⟨some 29, .index 9 (.tmp 27) (.tmp 28), 5, none⟩, ⟨some 30, .binOp .sub 5 (.tmp 29) (.const (.int .u8 48)) 5, 5, none⟩, ⟨some 31, .convert 5 3 (.tmp 30), 3, none⟩, ⟨some 32, .binOp .add 3 (.tmp 26) (.tmp 31) 3, 3, none⟩, ⟨some 3, .assign (.tmp 32), 3, none⟩]
@[simp] theorem q_s_l1Num_c0_run (c : Ctx) (e : Env) (ks : List Fr) : Run c q_s_l1Num_c0 e ks = Run c (.ops [⟨some 25, .move (.tmp 3), 3, none⟩, ⟨some 26, .binOp .mul 3 (.tmp 25) (.const (.int .i64 10)) 3, 3, none⟩, ⟨some 27, .move (.tmp 0), 9, none⟩, ⟨some 28, .move (.tmp 4), 3, none⟩, ⟨some 29, .index 9 (.tmp 27) (.tmp 28), 5, none⟩, ⟨some 30, .binOp .sub 5 (.tmp 29) (.const (.int .u8 48)) 5, 5, none⟩, ⟨some 31, .convert 5 3 (.tmp 30), 3, none⟩, ⟨some 32, .binOp .add 3 (.tmp 26) (.tmp 31) 3, 3, none⟩, ⟨some 3, .assign (.tmp 32), 3, none⟩]) e ks := (rfl)
def q_s_l1Num_c1 : QCode := .ops [⟨some 9, .move (.tmp 4), 3, none⟩, ⟨some 10, .binOp .add 3 (.tmp 9) (.const (.int .i64 1)) 3, 3, none⟩, ⟨some 4, .assign (.tmp 10), 3, none⟩]
@[simp] theorem q_s_l1Num_c1_run (c : Ctx) (e : Env) (ks : List Fr) : Run c q_s_l1Num_c1 e ks = Run c (.ops [⟨some 9, .move (.tmp 4), 3, none⟩, ⟨some 10, .binOp .add 3 (.tmp 9) (.const (.int .i64 1)) 3, 3, none⟩, ⟨some 4, .assign (.tmp 10), 3, none⟩]) e ks := (rfl)
def q_s_l1Num_c2 : QCode := .seq (.block 1 (.seq (.seq (.ops [⟨some 11, .move (.tmp 0), 9, none⟩, ⟨some 12, .move (.tmp 4), 3, none⟩, ⟨some 13, .index 9 (.tmp 11) (.tmp 12), 5, none⟩, ⟨some 14, .binOp .lss 5 (.tmp 13) (.const (.int .u8 48)) 5, 4, none⟩, ⟨some 15, .move (.tmp 14), 4, none⟩, ⟨some 16, .move (.tmp 0), 9, some (15, false)⟩, ⟨some 17, .move (.tmp 4), 3, some (15, false)⟩, ⟨some 18, .index 9 (.tmp 16) (.tmp 17), 5, some (15, false)⟩, ⟨some 19, .binOp .gtr 5 (.tmp 18) (.const (.int .u8 57)) 5, 4, some (15, false)⟩, ⟨some 20, .pick (.tmp 15) (.const (.bool true)) (.tmp 19), 4, none⟩, ⟨some 21, .move (.tmp 20), 4, none⟩, ⟨some 22, .move (.tmp 4), 3, some (21, false)⟩, ⟨some 23, .binOp .geq 3 (.tmp 22) (.const (.int .i64 6)) 3, 4, some (21, false)⟩, ⟨some 24, .pick (.tmp 21) (.const (.bool true)) (.tmp 23), 4, none⟩]) (.cond (.tmp 24) (.seq (.ops [⟨some 2, .assign (.const (.int .i64 (-1))), 3, none⟩]) (.ret)) (.skip))) (q_s_l1Num_c0))) (q_s_l1Num_c1)
@[simp] theorem q_s_l1Num_c2_run (c : Ctx) (e : Env) (ks : List Fr) : Run c q_s_l1Num_c2 e ks = Run c (.seq (.block 1 (.seq (.seq (.ops [⟨some 11, .move (.tmp 0), 9, none⟩, ⟨some 12, .move (.tmp 4), 3, none⟩, ⟨some 13, .index 9 (.tmp 11) (.tmp 12), 5, none⟩, ⟨some 14, .binOp .lss 5 (.tmp 13) (.const (.int .u8 48)) 5, 4, none⟩, ⟨some 15, .move (.tmp 14), 4, none⟩, ⟨some 16, .move (.tmp 0), 9, some (15, false)⟩, ⟨some 17, .move (.tmp 4), 3, some (15, false)⟩, ⟨some 18, .index 9 (.tmp 16) (.tmp 17), 5, some (15, false)⟩, ⟨some 19, .binOp .gtr 5 (.tmp 18) (.const (.int .u8 57)) 5, 4, some (15, false)⟩, ⟨some 20, .pick (.tmp 15) (.const (.bool true)) (.tmp 19), 4, none⟩, ⟨some 21, .move (.tmp 20), 4, none⟩, ⟨some 22, .move (.tmp 4), 3, some (21, false)⟩, ⟨some 23, .binOp .geq 3 (.tmp 22) (.const (.int .i64 6)) 3, 4, some (21, false)⟩, ⟨some 24, .pick (.tmp 21) (.const (.bool true)) (.tmp 23), 4, none⟩]) (.cond (.tmp 24) (.seq (.ops [⟨some 2, .assign (.const (.int .i64 (-1))), 3, none⟩]) (.ret)) (.skip))) (q_s_l1Num_c0))) (q_s_l1Num_c1)) e ks := (rfl)
def q_s_l1Num_l0 : QCode := .seq (.seq (.ops [⟨some 5, .move (.tmp 4), 3, none⟩, ⟨some 6, .move (.tmp 0), 9, none⟩, ⟨some 7, .call { callee := .builtin .len, args := #[.tmp 6], argTypes := #[9] }, 3, none⟩, ⟨some 8, .binOp .lss 3 (.tmp 5) (.tmp 7) 3, 4, none⟩]) (.cond (.tmp 8) (.skip) (.exit 0))) (q_s_l1Num_c2)
@[simp] theorem q_s_l1Num_l0_run (c : Ctx) (e : Env) (ks : List Fr) : Run c q_s_l1Num_l0 e ks = Run c (.seq (.seq (.ops [⟨some 5, .move (.tmp 4), 3, none⟩, ⟨some 6, .move (.tmp 0), 9, none⟩, ⟨some 7, .call { callee := .builtin .len, args := #[.tmp 6], argTypes := #[9] }, 3, none⟩, ⟨some 8, .binOp .lss 3 (.tmp 5) (.tmp 7) 3, 4, none⟩]) (.cond (.tmp 8) (.skip) (.exit 0))) (q_s_l1Num_c2)) e ks := (rfl)
def q_s_l1Num_c3 : QCode := .seq (.ops [⟨some 46, .move (.tmp 3), 3, none⟩, ⟨some 2, .assign (.tmp 46), 3, none⟩]) (.ret)
@[simp] theorem q_s_l1Num_c3_run (c : Ctx) (e : Env) (ks : List Fr) : Run c q_s_l1Num_c3 e ks = Run c (.seq (.ops [⟨some 46, .move (.tmp 3), 3, none⟩, ⟨some 2, .assign (.tmp 46), 3, none⟩]) (.ret)) e ks := (rfl)
def q_s_l1Num_c4 : QCode := .seq (.seq (.ops [⟨some 33, .move (.tmp 0), 9, none⟩, ⟨some 34, .call { callee := .builtin .len, args := #[.tmp 33], argTypes := #[9] }, 3, none⟩, ⟨some 35, .binOp .eql 3 (.tmp 34) (.const (.int .i64 0)) 3, 4, none⟩, ⟨some 36, .move (.tmp 35), 4, none⟩, ⟨some 37, .move (.tmp 0), 9, some (36, false)⟩, ⟨some 38, .call { callee := .builtin .len, args := #[.tmp 37], argTypes := #[9] }, 3, some (36, false)⟩, ⟨some 39, .binOp .gtr 3 (.tmp 38) (.const (.int .i64 1)) 3, 4, some (36, false)⟩, ⟨some 40, .move (.tmp 39), 4, some (36, false)⟩, ⟨some 41, .move (.tmp 0), 9, some (40, true)⟩, ⟨some 42, .index 9 (.tmp 41) (.const (.int .i64 0)), 5, some (40, true)⟩, ⟨some 43, .binOp .eql 5 (.tmp 42) (.const (.int .u8 48)) 5, 4, some (40, true)⟩, ⟨some 44, .pick (.tmp 40) (.tmp 43) (.const (.bool false)), 4, some (36, false)⟩, ⟨some 45, .pick (.tmp 36) (.const (.bool true)) (.tmp 44), 4, none⟩]) (.cond (.tmp 45) (.seq (.ops [⟨some 2, .assign (.const (.int .i64 (-1))), 3, none⟩]) (.ret)) (.skip))) (q_s_l1Num_c3)
@[simp] theorem q_s_l1Num_c4_run (c : Ctx) (e : Env) (ks : List Fr) : Run c q_s_l1Num_c4 e ks = Run c (.seq (.seq (.ops [⟨some 33, .move (.tmp 0), 9, none⟩, ⟨some 34, .call { callee := .builtin .len, args := #[.tmp 33], argTypes := #[9] }, 3, none⟩, ⟨some 35, .binOp .eql 3 (.tmp 34) (.const (.int .i64 0)) 3, 4, none⟩, ⟨some 36, .move (.tmp 35), 4, none⟩, ⟨some 37, .move (.tmp 0), 9, some (36, false)⟩, ⟨some 38, .call { callee := .builtin .len, args := #[.tmp 37], argTypes := #[9] }, 3, some (36, false)⟩, ⟨some 39, .binOp .gtr 3 (.tmp 38) (.const (.int .i64 1)) 3, 4, some (36, false)⟩, ⟨some 40, .move (.tmp 39), 4, some (36, false)⟩, ⟨some 41, .move (.tmp 0), 9, some (40, true)⟩, ⟨some 42, .index 9 (.tmp 41) (.const (.int .i64 0)), 5, some (40, true)⟩, ⟨some 43, .binOp .eql 5 (.tmp 42) (.const (.int .u8 48)) 5, 4, some (40, true)⟩, ⟨some 44, .pick (.tmp 40) (.tmp 43) (.const (.bool false)), 4, some (36, false)⟩, ⟨some 45, .pick (.tmp 36) (.const (.bool true)) (.tmp 44), 4, none⟩]) (.cond (.tmp 45) (.seq (.ops [⟨some 2, .assign (.const (.int .i64 (-1))), 3, none⟩]) (.ret)) (.skip))) (q_s_l1Num_c3)) e ks := (rfl)
@[simp] def q_s_l1Num : QFn := ⟨47, [(.tmp 2, 3)], .seq (.ops [⟨some 2, .assign (.const (.int .i64 0)), 3, none⟩]) (.seq (.ops [⟨some 3, .assign (.const (.int .i64 0)), 3, none⟩]) (.seq (.seq (.ops [⟨some 4, .assign (.const (.int .i64 0)), 3, none⟩]) (.block 0 (.loop q_s_l1Num_l0))) (q_s_l1Num_c4)))⟩
theorem conv_s_l1Num : convF Tryd.f77 = some q_s_l1Num := by kernel_rfl
/-! 78 i_lineReader_next -/
abbrev fn_i_lineReader_next : FuncId := 78
def q_i_lineReader_next_c0 : QCode := .seq (.ops [⟨some 18, .move (.tmp 0), 138, none⟩, ⟨some 19, .move (.tmp 5), 9, none⟩, ⟨some 20, .nilCheck (.tmp 18), 0, none⟩, ⟨some 21, .fieldAddr 84 (.tmp 20) 0, 0, none⟩, ⟨none, .store 9 (.tmp 21) (.tmp 19), 0, none⟩]) (.seq (.ops [⟨some 22, .move (.tmp 4), 9, none⟩, ⟨some 2, .assign (.tmp 22), 9, none⟩, ⟨some 3, .assign (.const (.bool true)), 4, none⟩]) (.ret))
@[simp] theorem q_i_lineReader_next_c0_run (c : Ctx) (e : Env) (ks : List Fr) : Run c q_i_lineReader_next_c0 e ks = Run c (.seq (.ops [⟨some 18, .move (.tmp 0), 138, none⟩, ⟨some 19, .move (.tmp 5), 9, none⟩, ⟨some 20, .nilCheck (.tmp 18), 0, none⟩, ⟨some 21, .fieldAddr 84 (.tmp 20) 0, 0, none⟩, ⟨none, .store 9 (.tmp 21) (.tmp 19), 0, none⟩]) (.seq (.ops [⟨some 22, .move (.tmp 4), 9, none⟩, ⟨some 2, .assign (.tmp 22), 9, none⟩, ⟨some 3, .assign (.const (.bool true)), 4, none⟩]) (.ret))) e ks := (rfl)
@[simp] def q_i_lineReader_next : QFn := ⟨23, [(.tmp 2, 9), (.tmp 3, 4)], .seq (.ops [⟨some 2, .assign (.const (.string { data := #[] })), 9, none⟩, ⟨some 3, .assign (.const (.bool false)), 4, none⟩]) (.seq (.ops [⟨some 8, .move (.tmp 0), 138, none⟩, ⟨some 9, .nilCheck (.tmp 8), 0, none⟩, ⟨some 10, .fieldAddr 84 (.tmp 9) 0, 0, none⟩, ⟨some 11, .load 9 (.tmp 10), 9, none⟩, ⟨some 12, .call { callee := .value (.func 87), args := #[.tmp 11, .const (.string { data := #[10] })], argTypes := #[9, 9] }, 103, none⟩, ⟨some 7, .move (.tmp 12), 103, none⟩, ⟨some 13, .extract (.tmp 7) 0, 9, none⟩, ⟨some 14, .extract (.tmp 7) 1, 9, none⟩, ⟨some 15, .extract (.tmp 7) 2, 4, none⟩, ⟨some 4, .assign (.tmp 13), 9, none⟩, ⟨some 5, .assign (.tmp 14), 9, none⟩, ⟨some 6, .assign (.tmp 15), 4, none⟩]) (.seq (.seq (.ops [⟨some 16, .move (.tmp 6), 4, none⟩, ⟨some 17, .unOp .not 4 (.tmp 16), 4, none⟩]) (.cond (.tmp 17) (.seq (.ops [⟨some 2, .assign (.const (.string { data := #[] })), 9, none⟩, ⟨some 3, .assign (.const (.bool false)), 4, none⟩]) (.ret)) (.skip))) (q_i_lineReader_next_c0)))⟩
theorem conv_i_lineReader_next : convF Tryd.f78 = some q_i_lineReader_next := by kernel_rfl
/-! 80 i_number -/
abbrev fn_i_number : FuncId := 80
def q_i_number_c0 : QCode := .ops [⟨some 40, .move (.tmp 6), 3, none⟩, ⟨some 41, .binOp .mul 3 (.tmp 40) (.const (.int .i64 10)) 3, 3, none⟩, ⟨some 42, .move (.tmp 0), 9, none⟩, ⟨some 43, .move (.tmp 7), 3, none⟩, ⟨some 44, .index 9 (.tmp 42) (.tmp 43), 5, none⟩, ⟨some 45, .binOp .sub 5 (.tmp 44) (.const (.int .u8 48)) 5, 5, none⟩, ⟨some 46, .convert 5 3 (.tmp 45), 3, none⟩, ⟨some 47, .binOp .add 3 (.tmp 41) (.tmp 46) 3, 3, none⟩, ⟨some 6, .assign (.tmp 47), 3, none⟩]
@[simp] theorem q_i_number_c0_run (c : Ctx) (e : Env) (ks : List Fr) : Run c q_i_number_c0 e ks = Run c (.ops [⟨some 40, .move (.tmp 6), 3, none⟩, ⟨some 41, .binOp .mul 3 (.tmp 40) (.const (.int .i64 10)) 3, 3, none⟩, ⟨some 42, .move (.tmp 0), 9, none⟩, ⟨some 43, .move (.tmp 7), 3, none⟩, ⟨some 44, .index 9 (.tmp 42) (.tmp 43), 5, none⟩, ⟨some 45, .binOp .sub 5 (.tmp 44) (.const (.int .u8 48)) 5, 5, none⟩, ⟨some 46, .convert 5 3 (.tmp 45), 3, none⟩, ⟨some 47, .binOp .add 3 (.tmp 41) (.tmp 46) 3, 3, none⟩, ⟨some 6, .assign (.tmp 47), 3, none⟩]) e ks := (rfl)
def q_i_number_c1 : QCode := .ops [⟨some 48, .binOp .add 3 (.tmp 27) (.const (.int .i64 1)) 3, 3, none⟩, ⟨some 27, .move (.tmp 48), 3, none⟩]
@[simp] theorem q_i_number_c1_run (c : Ctx) (e : Env) (ks : List Fr) : Run c q_i_number_c1 e ks = Run c (.ops [⟨some 48, .binOp .add 3 (.tmp 27) (.const (.int .i64 1)) 3, 3, none⟩, ⟨some 27, .move (.tmp 48), 3, none⟩]) e ks := (rfl)
def q_i_number_c2 : QCode := .seq (.block 1 (.seq (.ops [⟨some 29, .move (.tmp 27), 3, none⟩, ⟨some 7, .assign (.tmp 29), 3, none⟩]) (.seq (.seq (.ops [⟨some 30, .move (.tmp 0), 9, none⟩, ⟨some 31, .move (.tmp 7), 3, none⟩, ⟨some 32, .index 9 (.tmp 30) (.tmp 31), 5, none⟩, ⟨some 33, .binOp .lss 5 (.tmp 32) (.const (.int .u8 48)) 5, 4, none⟩, ⟨some 34, .move (.tmp 33), 4, none⟩, ⟨some 35, .move (.tmp 0), 9, some (34, false)⟩, ⟨some 36, .move (.tmp 7), 3, some (34, false)⟩, ⟨some 37, .index 9 (.tmp 35) (.tmp 36), 5, some (34, false)⟩, ⟨some 38, .binOp .gtr 5 (.tmp 37) (.const (.int .u8 57)) 5, 4, some (34, false)⟩, ⟨some 39, .pick (.tmp 34) (.const (.bool true)) (.tmp 38), 4, none⟩]) (.cond (.tmp 39) (.seq (.ops [⟨some 4, .assign (.const (.int .i64 0)), 3, none⟩, ⟨some 5, .assign (.const (.bool false)), 4, none⟩]) (.ret)) (.skip))) (q_i_number_c0)))) (q_i_number_c1)
@[simp] theorem q_i_number_c2_run (c : Ctx) (e : Env) (ks : List Fr) : Run c q_i_number_c2 e ks = Run c (.seq (.block 1 (.seq (.ops [⟨some 29, .move (.tmp 27), 3, none⟩, ⟨some 7, .assign (.tmp 29), 3, none⟩]) (.seq (.seq (.ops [⟨some 30, .move (.tmp 0), 9, none⟩, ⟨some 31, .move (.tmp 7), 3, none⟩, ⟨some 32, .index 9 (.tmp 30) (.tmp 31), 5, none⟩, ⟨some 33, .binOp .lss 5 (.tmp 32) (.const (.int .u8 48)) 5, 4, none⟩, ⟨some 34, .move (.tmp 33), 4, none⟩, ⟨some 35, .move (.tmp 0), 9, some (34, false)⟩, ⟨some 36, .move (.tmp 7), 3, some (34, false)⟩, ⟨some 37, .index 9 (.tmp 35) (.tmp 36), 5, some (34, false)⟩, ⟨some 38, .binOp .gtr 5 (.tmp 37) (.const (.int .u8 57)) 5, 4, some (34, false)⟩, ⟨some 39, .pick (.tmp 34) (.const (.bool true)) (.tmp 38), 4, none⟩]) (.cond (.tmp 39) (.seq (.ops [⟨some 4, .assign (.const (.int .i64 0)), 3, none⟩, ⟨some 5, .assign (.const (.bool false)), 4, none⟩]) (.ret)) (.skip))) (q_i_number_c0)))) (q_i_number_c1)) e ks := (rfl)
def q_i_number_l0 : QCode := .seq (.ops [⟨some 28, .binOp .lss 3 (.tmp 27) (.tmp 26) 3, 4, none⟩]) (.seq (.cond (.tmp 28) (.skip) (.exit 0)) (q_i_number_c2))
@[simp] theorem q_i_number_l0_run (c : Ctx) (e : Env) (ks : List Fr) : Run c q_i_number_l0 e ks = Run c (.seq (.ops [⟨some 28, .binOp .lss 3 (.tmp 27) (.tmp 26) 3, 4, none⟩]) (.seq (.cond (.tmp 28) (.skip) (.exit 0)) (q_i_number_c2))) e ks := (rfl)
def q_i_number_c3 : QCode := .seq (.ops [⟨some 52, .move (.tmp 6), 3, none⟩, ⟨some 4, .assign (.tmp 52), 3, none⟩, ⟨some 5, .assign (.const (.bool true)), 4, none⟩]) (.ret)
@[simp] theorem q_i_number_c3_run (c : Ctx) (e : Env) (ks : List Fr) : Run c q_i_number_c3 e ks = Run c (.seq (.ops [⟨some 52, .move (.tmp 6), 3, none⟩, ⟨some 4, .assign (.tmp 52), 3, none⟩, ⟨some 5, .assign (.const (.bool true)), 4, none⟩]) (.ret)) e ks := (rfl)
def q_i_number_c4 : QCode := .seq (.seq (.ops [⟨some 49, .move (.tmp 6), 3, none⟩, ⟨some 50, .move (.tmp 1), 3, none⟩, ⟨some 51, .binOp .gtr 3 (.tmp 49) (.tmp 50) 3, 4, none⟩]) (.cond (.tmp 51) (.seq (.ops [⟨some 4, .assign (.const (.int .i64 0)), 3, none⟩, ⟨some 5, .assign (.const (.bool false)), 4, none⟩]) (.ret)) (.skip))) (q_i_number_c3)
@[simp] theorem q_i_number_c4_run (c : Ctx) (e : Env) (ks : List Fr) : Run c q_i_number_c4 e ks = Run c (.seq (.seq (.ops [⟨some 49, .move (.tmp 6), 3, none⟩, ⟨some 50, .move (.tmp 1), 3, none⟩, ⟨some 51, .binOp .gtr 3 (.tmp 49) (.tmp 50) 3, 4, none⟩]) (.cond (.tmp 51) (.seq (.ops [⟨some 4, .assign (.const (.int .i64 0)), 3, none⟩, ⟨some 5, .assign (.const (.bool false)), 4, none⟩]) (.ret)) (.skip))) (q_i_number_c3)) e ks := (rfl)
def q_i_number_c5 : QCode := .seq (.ops [⟨some 6, .assign (.const (.int .i64 0)), 3, none⟩]) (.seq (.seq (.ops [⟨some 25, .move (.tmp 0), 9, none⟩, ⟨some 26, .call { callee := .builtin .len, args := #[.tmp 25], argTypes := #[9] }, 3, none⟩, ⟨some 27, .move (.const (.int .i64 0)), 3, none⟩]) (.block 0 (.loop q_i_number_l0))) (q_i_number_c4))
@[simp] theorem q_i_number_c5_run (c : Ctx) (e : Env) (ks : List Fr) : Run c q_i_number_c5 e ks = Run c (.seq (.ops [⟨some 6, .assign (.const (.int .i64 0)), 3, none⟩]) (.seq (.seq (.ops [⟨some 25, .move (.tmp 0), 9, none⟩, ⟨some 26, .call { callee := .builtin .len, args := #[.tmp 25], argTypes := #[9] }, 3, none⟩, ⟨some 27, .move (.const (.int .i64 0)), 3, none⟩]) (.block 0 (.loop q_i_number_l0))) (q_i_number_c4))) e ks := (rfl)
@[simp] def q_i_number : QFn := ⟨53, [(.tmp 4, 3), (.tmp 5, 4)], .seq (.ops [⟨some 4, .assign (.const (.int .i64 0)), 3, none⟩, ⟨some 5, .assign (.const (.bool false)), 4, none⟩]) (.seq (.seq (.ops [⟨some 8, .move (.tmp 0), 9, none⟩, ⟨some 9, .binOp .eql 9 (.tmp 8) (.const (.string { data := #[] })) 9, 4, none⟩, ⟨some 10, .move (.tmp 9), 4, none⟩, ⟨some 11, .move (.tmp 0), 9, some (10, false)⟩, ⟨some 12, .call { callee := .builtin .len, args := #[.tmp 11], argTypes := #[9] }, 3, some (10, false)⟩, ⟨some 13, .binOp .gtr 3 (.tmp 12) (.const (.int .i64 9)) 3, 4, some (10, false)⟩, ⟨some 14, .pick (.tmp 10) (.const (.bool true)) (.tmp 13), 4, none⟩, ⟨some 15, .move (.tmp 14), 4, none⟩, ⟨some 16, .move (.tmp 0), 9, some (15, false)⟩, ⟨some 17, .call { callee := .builtin .len, args := #[.tmp 16], argTypes := #[9] }, 3, some (15, false)⟩, ⟨some 18, .binOp .gtr 3 (.tmp 17) (.const (.int .i64 1)) 3, 4, some (15, false)⟩, ⟨some 19, .move (.tmp 18), 4, some (15, false)⟩, ⟨some 20, .move (.tmp 0), 9, some (19, true)⟩, ⟨some 21, .index 9 (.tmp 20) (.const (.int .i64 0)), 5, some (19, true)⟩, ⟨some 22, .binOp .eql 5 (.tmp 21) (.const (.int .u8 48)) 5, 4, some (19, true)⟩, ⟨some 23, .pick (.tmp 19) (.tmp 22) (.const (.bool false)), 4, some (15, false)⟩, ⟨some 24, .pick (.tmp 15) (.const (.bool true)) (.tmp 23), 4, none⟩]) (.cond (.tmp 24) (.seq (.ops [⟨some 4, .assign (.const (.int .i64 0)), 3, none⟩, ⟨some 5, .assign (.const (.bool false)), 4, none⟩]) (.ret)) (.skip))) (q_i_number_c5))⟩
theorem conv_i_number : convF Tryd.f80 = some q_i_number := by kernel_rfl
/-! 81 w_markText -/
abbrev fn_w_markText : FuncId := 81
def q_w_markText_c0 : QCode := .block 1 (.seq (.ops [⟨some 8, .move (.tmp 0), 3, none⟩, ⟨some 9, .binOp .rem 3 (.tmp 8) (.const (.int .i64 10)) 3, 3, none⟩, ⟨some 10, .binOp .add 3 (.const (.int .i64 48)) (.tmp 9) 3, 3, none⟩, ⟨some 11, .convert 3 5 (.tmp 10), 5, none⟩, ⟨some 12, .buildSlice 29 1 #[(0, .tmp 11)], 29, none⟩, ⟨some 13, .convert 29 9 (.tmp 12), 9, none⟩, ⟨some 14, .move (.tmp 3), 9, none⟩, ⟨some 15, .binOp .add 9 (.tmp 13) (.tmp 14) 9, 9, none⟩, ⟨some 3, .assign (.tmp 15), 9, none⟩]) (.ops [⟨some 16, .move (.tmp 0), 3, none⟩, ⟨some 17, .binOp .quo 3 (.tmp 16) (.const (.int .i64 10)) 3, 3, none⟩, ⟨some 0, .assign (.tmp 17), 3, none⟩]))
@[simp] theorem q_w_markText_c0_run (c : Ctx) (e : Env) (ks : List Fr) : Run c q_w_markText_c0 e ks = Run c (.block 1 (.seq (.ops [⟨some 8, .move (.tmp 0), 3, none⟩, ⟨some 9, .binOp .rem 3 (.tmp 8) (.const (.int .i64 10)) 3, 3, none⟩, ⟨some 10, .binOp .add 3 (.const (.int .i64 48)) (.tmp 9) 3, 3, none⟩, ⟨some 11, .convert 3 5 (.tmp 10), 5, none⟩, ⟨some 12, .buildSlice 29 1 #[(0, .tmp 11)], 29, none⟩, ⟨some 13, .convert 29 9 (.tmp 12), 9, none⟩, ⟨some 14, .move (.tmp 3), 9, none⟩, ⟨some 15, .binOp .add 9 (.tmp 13) (.tmp 14) 9, 9, none⟩, ⟨some 3, .assign (.tmp 15), 9, none⟩]) (.ops [⟨some 16, .move (.tmp 0), 3, none⟩, ⟨some 17, .binOp .quo 3 (.tmp 16) (.const (.int .i64 10)) 3, 3, none⟩, ⟨some 0, .assign (.tmp 17), 3, none⟩]))) e ks := (rfl)
def q_w_markText_l0 : QCode := .seq (.seq (.ops [⟨some 6, .move (.tmp 0), 3, none⟩, ⟨some 7, .binOp .gtr 3 (.tmp 6) (.const (.int .i64 0)) 3, 4, none⟩]) (.cond (.tmp 7) (.skip) (.exit 0))) (q_w_markText_c0)
@[simp] theorem q_w_markText_l0_run (c : Ctx) (e : Env) (ks : List Fr) : Run c q_w_markText_l0 e ks = Run c (.seq (.seq (.ops [⟨some 6, .move (.tmp 0), 3, none⟩, ⟨some 7, .binOp .gtr 3 (.tmp 6) (.const (.int .i64 0)) 3, 4, none⟩]) (.cond (.tmp 7) (.skip) (.exit 0))) (q_w_markText_c0)) e ks := (rfl)
def q_w_markText_c1 : QCode := .seq (.ops [⟨some 18, .move (.tmp 3), 9, none⟩, ⟨some 19, .binOp .add 9 (.const (.string { data := #[109] })) (.tmp 18) 9, 9, none⟩, ⟨some 2, .assign (.tmp 19), 9, none⟩]) (.ret)
@[simp] theorem q_w_markText_c1_run (c : Ctx) (e : Env) (ks : List Fr) : Run c q_w_markText_c1 e ks = Run c (.seq (.ops [⟨some 18, .move (.tmp 3), 9, none⟩, ⟨some 19, .binOp .add 9 (.const (.string { data := #[109] })) (.tmp 18) 9, 9, none⟩, ⟨some 2, .assign (.tmp 19), 9, none⟩]) (.ret)) e ks := (rfl)
def q_w_markText_c2 : QCode := .seq (.ops [⟨some 3, .assign (.const (.string { data := #[] })), 9, none⟩]) (.seq (.block 0 (.loop q_w_markText_l0)) (q_w_markText_c1))
@[simp] theorem q_w_markText_c2_run (c : Ctx) (e : Env) (ks : List Fr) : Run c q_w_markText_c2 e ks = Run c (.seq (.ops [⟨some 3, .assign (.const (.string { data := #[] })), 9, none⟩]) (.seq (.block 0 (.loop q_w_markText_l0)) (q_w_markText_c1))) e ks := (rfl)
@[simp] def q_w_markText : QFn := ⟨20, [(.tmp 2, 9)], .seq (.ops [⟨some 2, .assign (.const (.string { data := #[] })), 9, none⟩]) (.seq (.seq (.ops [⟨some 4, .move (.tmp 0), 3, none⟩, ⟨some 5, .binOp .leq 3 (.tmp 4) (.const (.int .i64 0)) 3, 4, none⟩]) (.cond (.tmp 5) (.seq (.ops [⟨some 2, .assign (.const (.string { data := #[109, 48] })), 9, none⟩]) (.ret)) (.skip))) (q_w_markText_c2))⟩
theorem conv_w_markText : convF Tryd.f81 = some q_w_markText := by kernel_rfl
/-! 82 s_l5Seen -/
abbrev fn_s_l5Seen : FuncId := 82
def q_s_l5Seen_c0 : QCode := .ops [⟨some 8, .move (.tmp 3), 3, none⟩, ⟨some 9, .binOp .add 3 (.tmp 8) (.const (.int .i64 1)) 3, 3, none⟩, ⟨some 3, .assign (.tmp 9), 3, none⟩]
@[simp] theorem q_s_l5Seen_c0_run (c : Ctx) (e : Env) (ks : List Fr) : Run c q_s_l5Seen_c0 e ks = Run c (.ops [⟨some 8, .move (.tmp 3), 3, none⟩, ⟨some 9, .binOp .add 3 (.tmp 8) (.const (.int .i64 1)) 3, 3, none⟩, ⟨some 3, .assign (.tmp 9), 3, none⟩]) e ks := (rfl)
def q_s_l5Seen_c1 : QCode := .seq (.block 1 (.seq (.ops [⟨some 10, .move (.tmp 0), 9, none⟩, ⟨some 11, .move (.tmp 3), 3, none⟩, ⟨some 12, .index 9 (.tmp 10) (.tmp 11), 5, none⟩, ⟨some 13, .convert 5 3 (.tmp 12), 3, none⟩, ⟨some 14, .call { callee := .value (.func 73), args := #[.tmp 13, .const (.int .i64 32), .const (.int .i64 126)], argTypes := #[3, 3, 3] }, 4, none⟩, ⟨some 15, .unOp .not 4 (.tmp 14), 4, none⟩]) (.cond (.tmp 15) (.seq (.ops [⟨some 2, .assign (.const (.bool false)), 4, none⟩]) (.ret)) (.skip)))) (q_s_l5Seen_c0)
@[simp] theorem q_s_l5Seen_c1_run (c : Ctx) (e : Env) (ks : List Fr) : Run c q_s_l5Seen_c1 e ks = Run c (.seq (.block 1 (.seq (.ops [⟨some 10, .move (.tmp 0), 9, none⟩, ⟨some 11, .move (.tmp 3), 3, none⟩, ⟨some 12, .index 9 (.tmp 10) (.tmp 11), 5, none⟩, ⟨some 13, .convert 5 3 (.tmp 12), 3, none⟩, ⟨some 14, .call { callee := .value (.func 73), args := #[.tmp 13, .const (.int .i64 32), .const (.int .i64 126)], argTypes := #[3, 3, 3] }, 4, none⟩, ⟨some 15, .unOp .not 4 (.tmp 14), 4, none⟩]) (.cond (.tmp 15) (.seq (.ops [⟨some 2, .assign (.const (.bool false)), 4, none⟩]) (.ret)) (.skip)))) (q_s_l5Seen_c0)) e ks := (rfl)
def q_s_l5Seen_l0 : QCode := .seq (.seq (.ops [⟨some 4, .move (.tmp 3), 3, none⟩, ⟨some 5, .move (.tmp 0), 9, none⟩, ⟨some 6, .call { callee := .builtin .len, args := #[.tmp 5], argTypes := #[9] }, 3, none⟩, ⟨some 7, .binOp .lss 3 (.tmp 4) (.tmp 6) 3, 4, none⟩]) (.cond (.tmp 7) (.skip) (.exit 0))) (q_s_l5Seen_c1)
@[simp] theorem q_s_l5Seen_l0_run (c : Ctx) (e : Env) (ks : List Fr) : Run c q_s_l5Seen_l0 e ks = Run c (.seq (.seq (.ops [⟨some 4, .move (.tmp 3), 3, none⟩, ⟨some 5, .move (.tmp 0), 9, none⟩, ⟨some 6, .call { callee := .builtin .len, args := #[.tmp 5], argTypes := #[9] }, 3, none⟩, ⟨some 7, .binOp .lss 3 (.tmp 4) (.tmp 6) 3, 4, none⟩]) (.cond (.tmp 7) (.skip) (.exit 0))) (q_s_l5Seen_c1)) e ks := (rfl)
def q_s_l5Seen_c2 : QCode := .seq (.ops [⟨some 16, .move (.tmp 0), 9, none⟩, ⟨some 17, .call { callee := .builtin .len, args := #[.tmp 16], argTypes := #[9] }, 3, none⟩, ⟨some 18, .binOp .leq 3 (.tmp 17) (.const (.int .i64 80)) 3, 4, none⟩, ⟨some 2, .assign (.tmp 18), 4, none⟩]) (.ret)
@[simp] theorem q_s_l5Seen_c2_run (c : Ctx) (e : Env) (ks : List Fr) : Run c q_s_l5Seen_c2 e ks = Run c (.seq (.ops [⟨some 16, .move (.tmp 0), 9, none⟩, ⟨some 17, .call { callee := .builtin .len, args := #[.tmp 16], argTypes := #[9] }, 3, none⟩, ⟨some 18, .binOp .leq 3 (.tmp 17) (.const (.int .i64 80)) 3, 4, none⟩, ⟨some 2, .assign (.tmp 18), 4, none⟩]) (.ret)) e ks := (rfl)
@[simp] def q_s_l5Seen : QFn := ⟨19, [(.tmp 2, 4)], .seq (.ops [⟨some 2, .assign (.const (.bool false)), 4, none⟩]) (.seq (.seq (.ops [⟨some 3, .assign (.const (.int .i64 0)), 3, none⟩]) (.block 0 (.loop q_s_l5Seen_l0))) (q_s_l5Seen_c2))⟩
theorem conv_s_l5Seen : convF Tryd.f82 = some q_s_l5Seen := by kernel_rfl
/-! 85 i_plainByte -/
abbrev fn_i_plainByte : FuncId := 85
@[simp] def q_i_plainByte : QFn := ⟨9, [(.tmp 2, 4)], .seq (.ops [⟨some 2, .assign (.const (.bool false)), 4, none⟩]) (.seq (.ops [⟨some 3, .move (.tmp 0), 5, none⟩, ⟨some 4, .binOp .geq 5 (.tmp 3) (.const (.int .u8 32)) 5, 4, none⟩, ⟨some 5, .move (.tmp 4), 4, none⟩, ⟨some 6, .move (.tmp 0), 5, some (5, true)⟩, ⟨some 7, .binOp .leq 5 (.tmp 6) (.const (.int .u8 126)) 5, 4, some (5, true)⟩, ⟨some 8, .pick (.tmp 5) (.tmp 7) (.const (.bool false)), 4, none⟩, ⟨some 2, .assign (.tmp 8), 4, none⟩]) (.ret))⟩
theorem conv_i_plainByte : convF Tryd.f85 = some q_i_plainByte := by kernel_rfl
end Go.Qz
