/- The evaluator of the claim and what it says, part Qp0 (several texts in one). -/
import Derived.Test.YtlhjljepbdnomaaDoorProg
import Derived.Test.YtlhjljepbdnomaaDoorQl0
import Derived.KernelRfl
/- The types of the program, as the evaluator asks of them (printed by a program of ours). -/
namespace Go.Qz
open Go.Proofs

@[simp] theorem ty_size2 : sizeT Tryd.prog 2 = some 1 := by kernel_rfl
@[simp] theorem ty_agg2 : isAggT Tryd.prog 2 = false := by kernel_rfl
@[simp] theorem ty_bld2 : builderT Tryd.prog 2 = none := by kernel_rfl
@[simp] theorem ty_zero2 : zeroA Tryd.prog 2 = some [.ro (.int .i64 0)] := by kernel_rfl
@[simp] theorem ty_size3 : sizeT Tryd.prog 3 = some 1 := by kernel_rfl
@[simp] theorem ty_agg3 : isAggT Tryd.prog 3 = false := by kernel_rfl
@[simp] theorem ty_bld3 : builderT Tryd.prog 3 = none := by kernel_rfl
@[simp] theorem ty_zero3 : zeroA Tryd.prog 3 = some [.ro (.int .i64 0)] := by kernel_rfl
@[simp] theorem ty_size4 : sizeT Tryd.prog 4 = some 1 := by kernel_rfl
@[simp] theorem ty_agg4 : isAggT Tryd.prog 4 = false := by kernel_rfl
@[simp] theorem ty_bld4 : builderT Tryd.prog 4 = none := by kernel_rfl
@[simp] theorem ty_zero4 : zeroA Tryd.prog 4 = some [.ro (.bool false)] := by kernel_rfl
@[simp] theorem ty_size5 : sizeT Tryd.prog 5 = some 1 := by kernel_rfl
@[simp] theorem ty_agg5 : isAggT Tryd.prog 5 = false := by kernel_rfl
@[simp] theorem ty_bld5 : builderT Tryd.prog 5 = none := by kernel_rfl
@[simp] theorem ty_zero5 : zeroA Tryd.prog 5 = some [.ro (.int .u8 0)] := by kernel_rfl
@[simp] theorem ty_size6 : sizeT Tryd.prog 6 = some 1 := by kernel_rfl
@[simp] theorem ty_agg6 : isAggT Tryd.prog 6 = false := by kernel_rfl
@[simp] theorem ty_bld6 : builderT Tryd.prog 6 = none := by kernel_rfl
@[simp] theorem ty_zero6 : zeroA Tryd.prog 6 = some [.ro (.int .u8 0)] := by kernel_rfl
@[simp] theorem ty_size7 : sizeT Tryd.prog 7 = some 4 := by kernel_rfl
@[simp] theorem ty_agg7 : isAggT Tryd.prog 7 = true := by kernel_rfl
@[simp] theorem ty_bld7 : builderT Tryd.prog 7 = none := by kernel_rfl
@[simp] theorem ty_f7_0 : fieldAt Tryd.prog 7 0 = some (0, 2) := by kernel_rfl
@[simp] theorem ty_f7_1 : fieldAt Tryd.prog 7 1 = some (1, 3) := by kernel_rfl
@[simp] theorem ty_f7_2 : fieldAt Tryd.prog 7 2 = some (2, 4) := by kernel_rfl
@[simp] theorem ty_f7_3 : fieldAt Tryd.prog 7 3 = some (3, 6) := by kernel_rfl
@[simp] theorem ty_pl7 : placesOk Tryd.prog 7 = true := by kernel_rfl
@[simp] theorem ty_zero7 : zeroA Tryd.prog 7 = some [.ro (.int .i64 0), .ro (.int .i64 0), .ro (.bool false), .ro (.int .u8 0)] := by kernel_rfl
@[simp] theorem ty_size8 : sizeT Tryd.prog 8 = some 4 := by kernel_rfl
@[simp] theorem ty_agg8 : isAggT Tryd.prog 8 = true := by kernel_rfl
@[simp] theorem ty_bld8 : builderT Tryd.prog 8 = none := by kernel_rfl
@[simp] theorem ty_f8_0 : fieldAt Tryd.prog 8 0 = some (0, 2) := by kernel_rfl
@[simp] theorem ty_f8_1 : fieldAt Tryd.prog 8 1 = some (1, 3) := by kernel_rfl
@[simp] theorem ty_f8_2 : fieldAt Tryd.prog 8 2 = some (2, 4) := by kernel_rfl
@[simp] theorem ty_f8_3 : fieldAt Tryd.prog 8 3 = some (3, 6) := by kernel_rfl
@[simp] theorem ty_pl8 : placesOk Tryd.prog 8 = true := by kernel_rfl
@[simp] theorem ty_zero8 : zeroA Tryd.prog 8 = some [.ro (.int .i64 0), .ro (.int .i64 0), .ro (.bool false), .ro (.int .u8 0)] := by kernel_rfl
@[simp] theorem ty_size9 : sizeT Tryd.prog 9 = some 1 := by kernel_rfl
@[simp] theorem ty_agg9 : isAggT Tryd.prog 9 = false := by kernel_rfl
@[simp] theorem ty_bld9 : builderT Tryd.prog 9 = none := by kernel_rfl
@[simp] theorem ty_zero9 : zeroA Tryd.prog 9 = some [.ro (.str ⟨#[]⟩)] := by kernel_rfl
@[simp] theorem ty_size10 : sizeT Tryd.prog 10 = some 1 := by kernel_rfl
@[simp] theorem ty_agg10 : isAggT Tryd.prog 10 = false := by kernel_rfl
@[simp] theorem ty_bld10 : builderT Tryd.prog 10 = none := by kernel_rfl
@[simp] theorem ty_zero10 : zeroA Tryd.prog 10 = some [.ro (.str ⟨#[]⟩)] := by kernel_rfl
@[simp] theorem ty_size11 : sizeT Tryd.prog 11 = some 1 := by kernel_rfl
@[simp] theorem ty_agg11 : isAggT Tryd.prog 11 = false := by kernel_rfl
@[simp] theorem ty_bld11 : builderT Tryd.prog 11 = none := by kernel_rfl
@[simp] theorem ty_zero11 : zeroA Tryd.prog 11 = some [.ro (.str ⟨#[]⟩)] := by kernel_rfl
@[simp] theorem ty_size12 : sizeT Tryd.prog 12 = some 1 := by kernel_rfl
@[simp] theorem ty_agg12 : isAggT Tryd.prog 12 = false := by kernel_rfl
@[simp] theorem ty_bld12 : builderT Tryd.prog 12 = none := by kernel_rfl
@[simp] theorem ty_zero12 : zeroA Tryd.prog 12 = some [.ro (.int .u64 0)] := by kernel_rfl
@[simp] theorem ty_size13 : sizeT Tryd.prog 13 = some 2 := by kernel_rfl
@[simp] theorem ty_agg13 : isAggT Tryd.prog 13 = true := by kernel_rfl
@[simp] theorem ty_bld13 : builderT Tryd.prog 13 = none := by kernel_rfl
@[simp] theorem ty_f13_0 : fieldAt Tryd.prog 13 0 = some (0, 9) := by kernel_rfl
@[simp] theorem ty_f13_1 : fieldAt Tryd.prog 13 1 = some (1, 12) := by kernel_rfl
@[simp] theorem ty_pl13 : placesOk Tryd.prog 13 = true := by kernel_rfl
@[simp] theorem ty_zero13 : zeroA Tryd.prog 13 = some [.ro (.str ⟨#[]⟩), .ro (.int .u64 0)] := by kernel_rfl
@[simp] theorem ty_size14 : sizeT Tryd.prog 14 = some 2 := by kernel_rfl
@[simp] theorem ty_agg14 : isAggT Tryd.prog 14 = true := by kernel_rfl
@[simp] theorem ty_bld14 : builderT Tryd.prog 14 = none := by kernel_rfl
@[simp] theorem ty_f14_0 : fieldAt Tryd.prog 14 0 = some (0, 9) := by kernel_rfl
@[simp] theorem ty_f14_1 : fieldAt Tryd.prog 14 1 = some (1, 12) := by kernel_rfl
@[simp] theorem ty_pl14 : placesOk Tryd.prog 14 = true := by kernel_rfl
@[simp] theorem ty_zero14 : zeroA Tryd.prog 14 = some [.ro (.str ⟨#[]⟩), .ro (.int .u64 0)] := by kernel_rfl
@[simp] theorem ty_size15 : sizeT Tryd.prog 15 = some 1 := by kernel_rfl
@[simp] theorem ty_agg15 : isAggT Tryd.prog 15 = false := by kernel_rfl
@[simp] theorem ty_bld15 : builderT Tryd.prog 15 = none := by kernel_rfl
@[simp] theorem ty_zero15 : zeroA Tryd.prog 15 = some [.ro (.nilp)] := by kernel_rfl
@[simp] theorem ty_size16 : sizeT Tryd.prog 16 = some 1 := by kernel_rfl
@[simp] theorem ty_agg16 : isAggT Tryd.prog 16 = false := by kernel_rfl
@[simp] theorem ty_bld16 : builderT Tryd.prog 16 = none := by kernel_rfl
@[simp] theorem ty_zero16 : zeroA Tryd.prog 16 = some [.ro (.nilp)] := by kernel_rfl
@[simp] theorem ty_size17 : sizeT Tryd.prog 17 = some 1 := by kernel_rfl
@[simp] theorem ty_agg17 : isAggT Tryd.prog 17 = false := by kernel_rfl
@[simp] theorem ty_bld17 : builderT Tryd.prog 17 = none := by kernel_rfl
@[simp] theorem ty_zero17 : zeroA Tryd.prog 17 = some [.ro (.nilp)] := by kernel_rfl
@[simp] theorem ty_size18 : sizeT Tryd.prog 18 = some 1 := by kernel_rfl
@[simp] theorem ty_agg18 : isAggT Tryd.prog 18 = true := by kernel_rfl
@[simp] theorem ty_bld18 : builderT Tryd.prog 18 = none := by kernel_rfl
@[simp] theorem ty_f18_0 : fieldAt Tryd.prog 18 0 = some (0, 17) := by kernel_rfl
@[simp] theorem ty_pl18 : placesOk Tryd.prog 18 = true := by kernel_rfl
@[simp] theorem ty_zero18 : zeroA Tryd.prog 18 = some [.ro (.nilp)] := by kernel_rfl
@[simp] theorem ty_size19 : sizeT Tryd.prog 19 = some 1 := by kernel_rfl
@[simp] theorem ty_agg19 : isAggT Tryd.prog 19 = true := by kernel_rfl
@[simp] theorem ty_bld19 : builderT Tryd.prog 19 = none := by kernel_rfl
@[simp] theorem ty_f19_0 : fieldAt Tryd.prog 19 0 = some (0, 17) := by kernel_rfl
@[simp] theorem ty_pl19 : placesOk Tryd.prog 19 = true := by kernel_rfl
@[simp] theorem ty_zero19 : zeroA Tryd.prog 19 = some [.ro (.nilp)] := by kernel_rfl
@[simp] theorem ty_size20 : sizeT Tryd.prog 20 = some 1 := by kernel_rfl
@[simp] theorem ty_agg20 : isAggT Tryd.prog 20 = false := by kernel_rfl
@[simp] theorem ty_bld20 : builderT Tryd.prog 20 = none := by kernel_rfl
@[simp] theorem ty_zero20 : zeroA Tryd.prog 20 = some [.ro (.nili)] := by kernel_rfl
@[simp] theorem ty_size21 : sizeT Tryd.prog 21 = some 1 := by kernel_rfl
@[simp] theorem ty_agg21 : isAggT Tryd.prog 21 = false := by kernel_rfl
@[simp] theorem ty_bld21 : builderT Tryd.prog 21 = none := by kernel_rfl
@[simp] theorem ty_zero21 : zeroA Tryd.prog 21 = some [.ro (.int .i32 0)] := by kernel_rfl
@[simp] theorem ty_size22 : sizeT Tryd.prog 22 = some 1 := by kernel_rfl
@[simp] theorem ty_agg22 : isAggT Tryd.prog 22 = false := by kernel_rfl
@[simp] theorem ty_bld22 : builderT Tryd.prog 22 = none := by kernel_rfl
@[simp] theorem ty_byte22 : byteT Tryd.prog 22 = none := by kernel_rfl
@[simp] theorem ty_z22 : zOf Tryd.prog 22 = some 4 := by kernel_rfl
@[simp] theorem ty_elem22 : elemT Tryd.prog 47 = some 4 := by kernel_rfl
@[simp] theorem ty_zd22 : zeroD Tryd.prog 47 = some (.agg [.str ⟨#[]⟩, .int .i64 0, .int .i64 0, .str ⟨#[]⟩]) := by kernel_rfl
@[simp] theorem ty_zero22 : zeroA Tryd.prog 22 = some [.own (.sl 4 [])] := by kernel_rfl
@[simp] theorem ty_size28 : sizeT Tryd.prog 28 = some 1 := by kernel_rfl
@[simp] theorem ty_agg28 : isAggT Tryd.prog 28 = false := by kernel_rfl
@[simp] theorem ty_bld28 : builderT Tryd.prog 28 = none := by kernel_rfl
@[simp] theorem ty_byte28 : byteT Tryd.prog 28 = none := by kernel_rfl
@[simp] theorem ty_z28 : zOf Tryd.prog 28 = some 3 := by kernel_rfl
@[simp] theorem ty_elem28 : elemT Tryd.prog 85 = some 3 := by kernel_rfl
@[simp] theorem ty_zd28 : zeroD Tryd.prog 85 = some (.agg [.str ⟨#[]⟩, .int .i64 0, .str ⟨#[]⟩]) := by kernel_rfl
@[simp] theorem ty_zero28 : zeroA Tryd.prog 28 = some [.own (.sl 3 [])] := by kernel_rfl
@[simp] theorem ty_size29 : sizeT Tryd.prog 29 = some 1 := by kernel_rfl
@[simp] theorem ty_agg29 : isAggT Tryd.prog 29 = false := by kernel_rfl
@[simp] theorem ty_bld29 : builderT Tryd.prog 29 = none := by kernel_rfl
@[simp] theorem ty_byte29 : byteT Tryd.prog 29 = none := by kernel_rfl
@[simp] theorem ty_z29 : zOf Tryd.prog 29 = some 4 := by kernel_rfl
@[simp] theorem ty_elem29 : elemT Tryd.prog 87 = some 4 := by kernel_rfl
@[simp] theorem ty_zd29 : zeroD Tryd.prog 87 = some (.agg [.str ⟨#[]⟩, .int .i64 0, .int .i64 0, .str ⟨#[]⟩]) := by kernel_rfl
@[simp] theorem ty_zero29 : zeroA Tryd.prog 29 = some [.own (.sl 4 [])] := by kernel_rfl
@[simp] theorem ty_size30 : sizeT Tryd.prog 30 = some 4 := by kernel_rfl
@[simp] theorem ty_agg30 : isAggT Tryd.prog 30 = true := by kernel_rfl
@[simp] theorem ty_bld30 : builderT Tryd.prog 30 = none := by kernel_rfl
@[simp] theorem ty_f30_0 : fieldAt Tryd.prog 30 0 = some (0, 9) := by kernel_rfl
@[simp] theorem ty_f30_1 : fieldAt Tryd.prog 30 1 = some (1, 9) := by kernel_rfl
@[simp] theorem ty_f30_2 : fieldAt Tryd.prog 30 2 = some (2, 28) := by kernel_rfl
@[simp] theorem ty_f30_3 : fieldAt Tryd.prog 30 3 = some (3, 29) := by kernel_rfl
@[simp] theorem ty_pl30 : placesOk Tryd.prog 30 = true := by kernel_rfl
@[simp] theorem ty_zero30 : zeroA Tryd.prog 30 = some [.ro (.str ⟨#[]⟩), .ro (.str ⟨#[]⟩), .own (.sl 3 []), .own (.sl 4 [])] := by kernel_rfl
@[simp] theorem ty_size31 : sizeT Tryd.prog 31 = some 4 := by kernel_rfl
@[simp] theorem ty_agg31 : isAggT Tryd.prog 31 = true := by kernel_rfl
@[simp] theorem ty_bld31 : builderT Tryd.prog 31 = none := by kernel_rfl
@[simp] theorem ty_f31_0 : fieldAt Tryd.prog 31 0 = some (0, 9) := by kernel_rfl
@[simp] theorem ty_f31_1 : fieldAt Tryd.prog 31 1 = some (1, 9) := by kernel_rfl
@[simp] theorem ty_f31_2 : fieldAt Tryd.prog 31 2 = some (2, 28) := by kernel_rfl
@[simp] theorem ty_f31_3 : fieldAt Tryd.prog 31 3 = some (3, 29) := by kernel_rfl
@[simp] theorem ty_pl31 : placesOk Tryd.prog 31 = true := by kernel_rfl
@[simp] theorem ty_zero31 : zeroA Tryd.prog 31 = some [.ro (.str ⟨#[]⟩), .ro (.str ⟨#[]⟩), .own (.sl 3 []), .own (.sl 4 [])] := by kernel_rfl
@[simp] theorem ty_size34 : sizeT Tryd.prog 34 = some 1 := by kernel_rfl
@[simp] theorem ty_agg34 : isAggT Tryd.prog 34 = false := by kernel_rfl
@[simp] theorem ty_bld34 : builderT Tryd.prog 34 = none := by kernel_rfl
@[simp] theorem ty_byte34 : byteT Tryd.prog 34 = none := by kernel_rfl
@[simp] theorem ty_z34 : zOf Tryd.prog 34 = some 3 := by kernel_rfl
@[simp] theorem ty_elem34 : elemT Tryd.prog 59 = some 3 := by kernel_rfl
@[simp] theorem ty_zd34 : zeroD Tryd.prog 59 = some (.agg [.str ⟨#[]⟩, .int .i64 0, .str ⟨#[]⟩]) := by kernel_rfl
@[simp] theorem ty_zero34 : zeroA Tryd.prog 34 = some [.own (.sl 3 [])] := by kernel_rfl
@[simp] theorem ty_size35 : sizeT Tryd.prog 35 = some 4 := by kernel_rfl
@[simp] theorem ty_agg35 : isAggT Tryd.prog 35 = true := by kernel_rfl
@[simp] theorem ty_bld35 : builderT Tryd.prog 35 = none := by kernel_rfl
@[simp] theorem ty_f35_0 : fieldAt Tryd.prog 35 0 = some (0, 9) := by kernel_rfl
@[simp] theorem ty_f35_1 : fieldAt Tryd.prog 35 1 = some (1, 9) := by kernel_rfl
@[simp] theorem ty_f35_2 : fieldAt Tryd.prog 35 2 = some (2, 34) := by kernel_rfl
@[simp] theorem ty_f35_3 : fieldAt Tryd.prog 35 3 = some (3, 22) := by kernel_rfl
@[simp] theorem ty_pl35 : placesOk Tryd.prog 35 = true := by kernel_rfl
@[simp] theorem ty_zero35 : zeroA Tryd.prog 35 = some [.ro (.str ⟨#[]⟩), .ro (.str ⟨#[]⟩), .own (.sl 3 []), .own (.sl 4 [])] := by kernel_rfl
@[simp] theorem ty_size36 : sizeT Tryd.prog 36 = some 4 := by kernel_rfl
@[simp] theorem ty_agg36 : isAggT Tryd.prog 36 = true := by kernel_rfl
@[simp] theorem ty_bld36 : builderT Tryd.prog 36 = none := by kernel_rfl
@[simp] theorem ty_f36_0 : fieldAt Tryd.prog 36 0 = some (0, 9) := by kernel_rfl
@[simp] theorem ty_f36_1 : fieldAt Tryd.prog 36 1 = some (1, 9) := by kernel_rfl
@[simp] theorem ty_f36_2 : fieldAt Tryd.prog 36 2 = some (2, 34) := by kernel_rfl
@[simp] theorem ty_f36_3 : fieldAt Tryd.prog 36 3 = some (3, 22) := by kernel_rfl
@[simp] theorem ty_pl36 : placesOk Tryd.prog 36 = true := by kernel_rfl
@[simp] theorem ty_zero36 : zeroA Tryd.prog 36 = some [.ro (.str ⟨#[]⟩), .ro (.str ⟨#[]⟩), .own (.sl 3 []), .own (.sl 4 [])] := by kernel_rfl
@[simp] theorem ty_size40 : sizeT Tryd.prog 40 = some 1 := by kernel_rfl
@[simp] theorem ty_agg40 : isAggT Tryd.prog 40 = false := by kernel_rfl
@[simp] theorem ty_bld40 : builderT Tryd.prog 40 = none := by kernel_rfl
@[simp] theorem ty_byte40 : byteT Tryd.prog 40 = some 5 := by kernel_rfl
@[simp] theorem ty_z40 : zOf Tryd.prog 40 = some 1 := by kernel_rfl
@[simp] theorem ty_elem40 : elemT Tryd.prog 5 = some 1 := by kernel_rfl
@[simp] theorem ty_zd40 : zeroD Tryd.prog 5 = some (.int .u8 0) := by kernel_rfl
@[simp] theorem ty_zero40 : zeroA Tryd.prog 40 = some [.own (.sl 1 [])] := by kernel_rfl
@[simp] theorem ty_size46 : sizeT Tryd.prog 46 = some 4 := by kernel_rfl
@[simp] theorem ty_agg46 : isAggT Tryd.prog 46 = true := by kernel_rfl
@[simp] theorem ty_bld46 : builderT Tryd.prog 46 = none := by kernel_rfl
@[simp] theorem ty_f46_0 : fieldAt Tryd.prog 46 0 = some (0, 9) := by kernel_rfl
@[simp] theorem ty_f46_1 : fieldAt Tryd.prog 46 1 = some (1, 3) := by kernel_rfl
@[simp] theorem ty_f46_2 : fieldAt Tryd.prog 46 2 = some (2, 3) := by kernel_rfl
@[simp] theorem ty_f46_3 : fieldAt Tryd.prog 46 3 = some (3, 9) := by kernel_rfl
@[simp] theorem ty_pl46 : placesOk Tryd.prog 46 = true := by kernel_rfl
@[simp] theorem ty_zero46 : zeroA Tryd.prog 46 = some [.ro (.str ⟨#[]⟩), .ro (.int .i64 0), .ro (.int .i64 0), .ro (.str ⟨#[]⟩)] := by kernel_rfl
@[simp] theorem ty_size47 : sizeT Tryd.prog 47 = some 4 := by kernel_rfl
@[simp] theorem ty_agg47 : isAggT Tryd.prog 47 = true := by kernel_rfl
@[simp] theorem ty_bld47 : builderT Tryd.prog 47 = none := by kernel_rfl
@[simp] theorem ty_f47_0 : fieldAt Tryd.prog 47 0 = some (0, 9) := by kernel_rfl
@[simp] theorem ty_f47_1 : fieldAt Tryd.prog 47 1 = some (1, 3) := by kernel_rfl
@[simp] theorem ty_f47_2 : fieldAt Tryd.prog 47 2 = some (2, 3) := by kernel_rfl
@[simp] theorem ty_f47_3 : fieldAt Tryd.prog 47 3 = some (3, 9) := by kernel_rfl
@[simp] theorem ty_pl47 : placesOk Tryd.prog 47 = true := by kernel_rfl
@[simp] theorem ty_zero47 : zeroA Tryd.prog 47 = some [.ro (.str ⟨#[]⟩), .ro (.int .i64 0), .ro (.int .i64 0), .ro (.str ⟨#[]⟩)] := by kernel_rfl
@[simp] theorem ty_size58 : sizeT Tryd.prog 58 = some 3 := by kernel_rfl
@[simp] theorem ty_agg58 : isAggT Tryd.prog 58 = true := by kernel_rfl
@[simp] theorem ty_bld58 : builderT Tryd.prog 58 = none := by kernel_rfl
@[simp] theorem ty_f58_0 : fieldAt Tryd.prog 58 0 = some (0, 9) := by kernel_rfl
@[simp] theorem ty_f58_1 : fieldAt Tryd.prog 58 1 = some (1, 3) := by kernel_rfl
@[simp] theorem ty_f58_2 : fieldAt Tryd.prog 58 2 = some (2, 9) := by kernel_rfl
@[simp] theorem ty_pl58 : placesOk Tryd.prog 58 = true := by kernel_rfl
@[simp] theorem ty_zero58 : zeroA Tryd.prog 58 = some [.ro (.str ⟨#[]⟩), .ro (.int .i64 0), .ro (.str ⟨#[]⟩)] := by kernel_rfl
@[simp] theorem ty_size59 : sizeT Tryd.prog 59 = some 3 := by kernel_rfl
@[simp] theorem ty_agg59 : isAggT Tryd.prog 59 = true := by kernel_rfl
@[simp] theorem ty_bld59 : builderT Tryd.prog 59 = none := by kernel_rfl
@[simp] theorem ty_f59_0 : fieldAt Tryd.prog 59 0 = some (0, 9) := by kernel_rfl
@[simp] theorem ty_f59_1 : fieldAt Tryd.prog 59 1 = some (1, 3) := by kernel_rfl
@[simp] theorem ty_f59_2 : fieldAt Tryd.prog 59 2 = some (2, 9) := by kernel_rfl
@[simp] theorem ty_pl59 : placesOk Tryd.prog 59 = true := by kernel_rfl
@[simp] theorem ty_zero59 : zeroA Tryd.prog 59 = some [.ro (.str ⟨#[]⟩), .ro (.int .i64 0), .ro (.str ⟨#[]⟩)] := by kernel_rfl
@[simp] theorem ty_size65 : sizeT Tryd.prog 65 = some 1 := by kernel_rfl
@[simp] theorem ty_agg65 : isAggT Tryd.prog 65 = false := by kernel_rfl
@[simp] theorem ty_bld65 : builderT Tryd.prog 65 = none := by kernel_rfl
@[simp] theorem ty_zero65 : zeroA Tryd.prog 65 = some [.ro (.nilp)] := by kernel_rfl
@[simp] theorem ty_size67 : sizeT Tryd.prog 67 = some 1 := by kernel_rfl
@[simp] theorem ty_agg67 : isAggT Tryd.prog 67 = false := by kernel_rfl
@[simp] theorem ty_bld67 : builderT Tryd.prog 67 = none := by kernel_rfl
@[simp] theorem ty_zero67 : zeroA Tryd.prog 67 = some [.ro (.nilp)] := by kernel_rfl
@[simp] theorem ty_size68 : sizeT Tryd.prog 68 = some 2 := by kernel_rfl
@[simp] theorem ty_agg68 : isAggT Tryd.prog 68 = true := by kernel_rfl
@[simp] theorem ty_bld68 : builderT Tryd.prog 68 = some 5 := by kernel_rfl
@[simp] theorem ty_f68_0 : fieldAt Tryd.prog 68 0 = some (0, 67) := by kernel_rfl
@[simp] theorem ty_f68_1 : fieldAt Tryd.prog 68 1 = some (1, 40) := by kernel_rfl
@[simp] theorem ty_pl68 : placesOk Tryd.prog 68 = true := by kernel_rfl
@[simp] theorem ty_zero68 : zeroA Tryd.prog 68 = some [.ro (.nilp), .own (.sl 1 [])] := by kernel_rfl
@[simp] theorem ty_size69 : sizeT Tryd.prog 69 = some 2 := by kernel_rfl
@[simp] theorem ty_agg69 : isAggT Tryd.prog 69 = true := by kernel_rfl
@[simp] theorem ty_bld69 : builderT Tryd.prog 69 = some 5 := by kernel_rfl
@[simp] theorem ty_f69_0 : fieldAt Tryd.prog 69 0 = some (0, 67) := by kernel_rfl
@[simp] theorem ty_f69_1 : fieldAt Tryd.prog 69 1 = some (1, 40) := by kernel_rfl
@[simp] theorem ty_pl69 : placesOk Tryd.prog 69 = true := by kernel_rfl
@[simp] theorem ty_zero69 : zeroA Tryd.prog 69 = some [.ro (.nilp), .own (.sl 1 [])] := by kernel_rfl
@[simp] theorem ty_size70 : sizeT Tryd.prog 70 = some 1 := by kernel_rfl
@[simp] theorem ty_agg70 : isAggT Tryd.prog 70 = false := by kernel_rfl
@[simp] theorem ty_bld70 : builderT Tryd.prog 70 = none := by kernel_rfl
@[simp] theorem ty_zero70 : zeroA Tryd.prog 70 = some [.ro (.nili)] := by kernel_rfl
@[simp] theorem ty_size71 : sizeT Tryd.prog 71 = some 1 := by kernel_rfl
@[simp] theorem ty_agg71 : isAggT Tryd.prog 71 = false := by kernel_rfl
@[simp] theorem ty_bld71 : builderT Tryd.prog 71 = none := by kernel_rfl
@[simp] theorem ty_zero71 : zeroA Tryd.prog 71 = some [.ro (.nili)] := by kernel_rfl
@[simp] theorem ty_size80 : sizeT Tryd.prog 80 = some 1 := by kernel_rfl
@[simp] theorem ty_agg80 : isAggT Tryd.prog 80 = false := by kernel_rfl
@[simp] theorem ty_bld80 : builderT Tryd.prog 80 = none := by kernel_rfl
@[simp] theorem ty_byte80 : byteT Tryd.prog 80 = none := by kernel_rfl
@[simp] theorem ty_z80 : zOf Tryd.prog 80 = some 1 := by kernel_rfl
@[simp] theorem ty_elem80 : elemT Tryd.prog 9 = some 1 := by kernel_rfl
@[simp] theorem ty_zd80 : zeroD Tryd.prog 9 = some (.str ⟨#[]⟩) := by kernel_rfl
@[simp] theorem ty_zero80 : zeroA Tryd.prog 80 = some [.own (.sl 1 [])] := by kernel_rfl
@[simp] theorem ty_size85 : sizeT Tryd.prog 85 = some 3 := by kernel_rfl
@[simp] theorem ty_agg85 : isAggT Tryd.prog 85 = true := by kernel_rfl
@[simp] theorem ty_bld85 : builderT Tryd.prog 85 = none := by kernel_rfl
@[simp] theorem ty_f85_0 : fieldAt Tryd.prog 85 0 = some (0, 9) := by kernel_rfl
@[simp] theorem ty_f85_1 : fieldAt Tryd.prog 85 1 = some (1, 3) := by kernel_rfl
@[simp] theorem ty_f85_2 : fieldAt Tryd.prog 85 2 = some (2, 9) := by kernel_rfl
@[simp] theorem ty_pl85 : placesOk Tryd.prog 85 = true := by kernel_rfl
@[simp] theorem ty_zero85 : zeroA Tryd.prog 85 = some [.ro (.str ⟨#[]⟩), .ro (.int .i64 0), .ro (.str ⟨#[]⟩)] := by kernel_rfl
@[simp] theorem ty_size87 : sizeT Tryd.prog 87 = some 4 := by kernel_rfl
@[simp] theorem ty_agg87 : isAggT Tryd.prog 87 = true := by kernel_rfl
@[simp] theorem ty_bld87 : builderT Tryd.prog 87 = none := by kernel_rfl
@[simp] theorem ty_f87_0 : fieldAt Tryd.prog 87 0 = some (0, 9) := by kernel_rfl
@[simp] theorem ty_f87_1 : fieldAt Tryd.prog 87 1 = some (1, 3) := by kernel_rfl
@[simp] theorem ty_f87_2 : fieldAt Tryd.prog 87 2 = some (2, 3) := by kernel_rfl
@[simp] theorem ty_f87_3 : fieldAt Tryd.prog 87 3 = some (3, 9) := by kernel_rfl
@[simp] theorem ty_pl87 : placesOk Tryd.prog 87 = true := by kernel_rfl
@[simp] theorem ty_zero87 : zeroA Tryd.prog 87 = some [.ro (.str ⟨#[]⟩), .ro (.int .i64 0), .ro (.int .i64 0), .ro (.str ⟨#[]⟩)] := by kernel_rfl
@[simp] theorem ty_size89 : sizeT Tryd.prog 89 = some 1 := by kernel_rfl
@[simp] theorem ty_agg89 : isAggT Tryd.prog 89 = false := by kernel_rfl
@[simp] theorem ty_bld89 : builderT Tryd.prog 89 = none := by kernel_rfl
@[simp] theorem ty_byte89 : byteT Tryd.prog 89 = none := by kernel_rfl
@[simp] theorem ty_z89 : zOf Tryd.prog 89 = some 1 := by kernel_rfl
@[simp] theorem ty_elem89 : elemT Tryd.prog 3 = some 1 := by kernel_rfl
@[simp] theorem ty_zd89 : zeroD Tryd.prog 3 = some (.int .i64 0) := by kernel_rfl
@[simp] theorem ty_zero89 : zeroA Tryd.prog 89 = some [.own (.sl 1 [])] := by kernel_rfl
@[simp] theorem ty_size97 : sizeT Tryd.prog 97 = some 1 := by kernel_rfl
@[simp] theorem ty_agg97 : isAggT Tryd.prog 97 = false := by kernel_rfl
@[simp] theorem ty_bld97 : builderT Tryd.prog 97 = none := by kernel_rfl
@[simp] theorem ty_byte97 : byteT Tryd.prog 97 = none := by kernel_rfl
@[simp] theorem ty_z97 : zOf Tryd.prog 97 = some 1 := by kernel_rfl
@[simp] theorem ty_elem97 : elemT Tryd.prog 3 = some 1 := by kernel_rfl
@[simp] theorem ty_zd97 : zeroD Tryd.prog 3 = some (.int .i64 0) := by kernel_rfl
@[simp] theorem ty_zero97 : zeroA Tryd.prog 97 = some [.own (.sl 1 [])] := by kernel_rfl
@[simp] theorem ty_size106 : sizeT Tryd.prog 106 = some 2 := by kernel_rfl
@[simp] theorem ty_agg106 : isAggT Tryd.prog 106 = true := by kernel_rfl
@[simp] theorem ty_bld106 : builderT Tryd.prog 106 = none := by kernel_rfl
@[simp] theorem ty_f106_0 : fieldAt Tryd.prog 106 0 = some (0, 40) := by kernel_rfl
@[simp] theorem ty_f106_1 : fieldAt Tryd.prog 106 1 = some (1, 3) := by kernel_rfl
@[simp] theorem ty_pl106 : placesOk Tryd.prog 106 = true := by kernel_rfl
@[simp] theorem ty_zero106 : zeroA Tryd.prog 106 = some [.own (.sl 1 []), .ro (.int .i64 0)] := by kernel_rfl
@[simp] theorem ty_size107 : sizeT Tryd.prog 107 = some 2 := by kernel_rfl
@[simp] theorem ty_agg107 : isAggT Tryd.prog 107 = true := by kernel_rfl
@[simp] theorem ty_bld107 : builderT Tryd.prog 107 = none := by kernel_rfl
@[simp] theorem ty_f107_0 : fieldAt Tryd.prog 107 0 = some (0, 40) := by kernel_rfl
@[simp] theorem ty_f107_1 : fieldAt Tryd.prog 107 1 = some (1, 3) := by kernel_rfl
@[simp] theorem ty_pl107 : placesOk Tryd.prog 107 = true := by kernel_rfl
@[simp] theorem ty_zero107 : zeroA Tryd.prog 107 = some [.own (.sl 1 []), .ro (.int .i64 0)] := by kernel_rfl
@[simp] theorem ty_size108 : sizeT Tryd.prog 108 = some 1 := by kernel_rfl
@[simp] theorem ty_agg108 : isAggT Tryd.prog 108 = false := by kernel_rfl
@[simp] theorem ty_bld108 : builderT Tryd.prog 108 = none := by kernel_rfl
@[simp] theorem ty_zero108 : zeroA Tryd.prog 108 = some [.ro (.nilp)] := by kernel_rfl
@[simp] theorem ty_size124 : sizeT Tryd.prog 124 = some 1 := by kernel_rfl
@[simp] theorem ty_agg124 : isAggT Tryd.prog 124 = false := by kernel_rfl
@[simp] theorem ty_bld124 : builderT Tryd.prog 124 = none := by kernel_rfl
@[simp] theorem ty_zero124 : zeroA Tryd.prog 124 = some [.ro (.nilp)] := by kernel_rfl
@[simp] theorem ty_size133 : sizeT Tryd.prog 133 = some 24 := by kernel_rfl
@[simp] theorem ty_agg133 : isAggT Tryd.prog 133 = true := by kernel_rfl
@[simp] theorem ty_bld133 : builderT Tryd.prog 133 = none := by kernel_rfl
@[simp] theorem ty_pl133 : placesOk Tryd.prog 133 = true := by kernel_rfl
@[simp] theorem ty_zero133 : zeroA Tryd.prog 133 = some [.ro (.int .u8 0), .ro (.int .u8 0), .ro (.int .u8 0), .ro (.int .u8 0), .ro (.int .u8 0), .ro (.int .u8 0), .ro (.int .u8 0), .ro (.int .u8 0), .ro (.int .u8 0), .ro (.int .u8 0), .ro (.int .u8 0), .ro (.int .u8 0), .ro (.int .u8 0), .ro (.int .u8 0), .ro (.int .u8 0), .ro (.int .u8 0), .ro (.int .u8 0), .ro (.int .u8 0), .ro (.int .u8 0), .ro (.int .u8 0), .ro (.int .u8 0), .ro (.int .u8 0), .ro (.int .u8 0), .ro (.int .u8 0)] := by kernel_rfl
@[simp] theorem ty_size134 : sizeT Tryd.prog 134 = some 1 := by kernel_rfl
@[simp] theorem ty_agg134 : isAggT Tryd.prog 134 = false := by kernel_rfl
@[simp] theorem ty_bld134 : builderT Tryd.prog 134 = none := by kernel_rfl
@[simp] theorem ty_zero134 : zeroA Tryd.prog 134 = some [.ro (.int .u64 0)] := by kernel_rfl
@[simp] theorem ty_size139 : sizeT Tryd.prog 139 = some 1 := by kernel_rfl
@[simp] theorem ty_agg139 : isAggT Tryd.prog 139 = false := by kernel_rfl
@[simp] theorem ty_bld139 : builderT Tryd.prog 139 = none := by kernel_rfl
@[simp] theorem ty_zero139 : zeroA Tryd.prog 139 = some [.ro (.int .u64 0)] := by kernel_rfl
@[simp] theorem ty_size143 : sizeT Tryd.prog 143 = some 20 := by kernel_rfl
@[simp] theorem ty_agg143 : isAggT Tryd.prog 143 = true := by kernel_rfl
@[simp] theorem ty_bld143 : builderT Tryd.prog 143 = none := by kernel_rfl
@[simp] theorem ty_pl143 : placesOk Tryd.prog 143 = true := by kernel_rfl
@[simp] theorem ty_zero143 : zeroA Tryd.prog 143 = some [.ro (.int .u64 0), .ro (.int .u64 0), .ro (.int .u64 0), .ro (.int .u64 0), .ro (.int .u64 0), .ro (.int .u64 0), .ro (.int .u64 0), .ro (.int .u64 0), .ro (.int .u64 0), .ro (.int .u64 0), .ro (.int .u64 0), .ro (.int .u64 0), .ro (.int .u64 0), .ro (.int .u64 0), .ro (.int .u64 0), .ro (.int .u64 0), .ro (.int .u64 0), .ro (.int .u64 0), .ro (.int .u64 0), .ro (.int .u64 0)] := by kernel_rfl
@[simp] theorem ty_size144 : sizeT Tryd.prog 144 = some 1 := by kernel_rfl
@[simp] theorem ty_agg144 : isAggT Tryd.prog 144 = false := by kernel_rfl
@[simp] theorem ty_bld144 : builderT Tryd.prog 144 = none := by kernel_rfl
@[simp] theorem ty_zero144 : zeroA Tryd.prog 144 = some [.ro (.int .u32 0)] := by kernel_rfl
@[simp] theorem ty_size145 : sizeT Tryd.prog 145 = some 65 := by kernel_rfl
@[simp] theorem ty_agg145 : isAggT Tryd.prog 145 = true := by kernel_rfl
@[simp] theorem ty_bld145 : builderT Tryd.prog 145 = none := by kernel_rfl
@[simp] theorem ty_pl145 : placesOk Tryd.prog 145 = true := by kernel_rfl
@[simp] theorem ty_zero145 : zeroA Tryd.prog 145 = some [.ro (.int .u8 0), .ro (.int .u8 0), .ro (.int .u8 0), .ro (.int .u8 0), .ro (.int .u8 0), .ro (.int .u8 0), .ro (.int .u8 0), .ro (.int .u8 0), .ro (.int .u8 0), .ro (.int .u8 0), .ro (.int .u8 0), .ro (.int .u8 0), .ro (.int .u8 0), .ro (.int .u8 0), .ro (.int .u8 0), .ro (.int .u8 0), .ro (.int .u8 0), .ro (.int .u8 0), .ro (.int .u8 0), .ro (.int .u8 0), .ro (.int .u8 0), .ro (.int .u8 0), .ro (.int .u8 0), .ro (.int .u8 0), .ro (.int .u8 0), .ro (.int .u8 0), .ro (.int .u8 0), .ro (.int .u8 0), .ro (.int .u8 0), .ro (.int .u8 0), .ro (.int .u8 0), .ro (.int .u8 0), .ro (.int .u8 0), .ro (.int .u8 0), .ro (.int .u8 0), .ro (.int .u8 0), .ro (.int .u8 0), .ro (.int .u8 0), .ro (.int .u8 0), .ro (.int .u8 0), .ro (.int .u8 0), .ro (.int .u8 0), .ro (.int .u8 0), .ro (.int .u8 0), .ro (.int .u8 0), .ro (.int .u8 0), .ro (.int .u8 0), .ro (.int .u8 0), .ro (.int .u8 0), .ro (.int .u8 0), .ro (.int .u8 0), .ro (.int .u8 0), .ro (.int .u8 0), .ro (.int .u8 0), .ro (.int .u8 0), .ro (.int .u8 0), .ro (.int .u8 0), .ro (.int .u8 0), .ro (.int .u8 0), .ro (.int .u8 0), .ro (.int .u8 0), .ro (.int .u8 0), .ro (.int .u8 0), .ro (.int .u8 0), .ro (.int .u8 0)] := by kernel_rfl
@[simp] theorem ty_size151 : sizeT Tryd.prog 151 = some 256 := by kernel_rfl
@[simp] theorem ty_agg151 : isAggT Tryd.prog 151 = true := by kernel_rfl
@[simp] theorem ty_bld151 : builderT Tryd.prog 151 = none := by kernel_rfl
@[simp] theorem ty_pl151 : placesOk Tryd.prog 151 = true := by kernel_rfl
@[simp] theorem ty_zero151 : zeroA Tryd.prog 151 = some [.ro (.int .u8 0), .ro (.int .u8 0), .ro (.int .u8 0), .ro (.int .u8 0), .ro (.int .u8 0), .ro (.int .u8 0), .ro (.int .u8 0), .ro (.int .u8 0), .ro (.int .u8 0), .ro (.int .u8 0), .ro (.int .u8 0), .ro (.int .u8 0), .ro (.int .u8 0), .ro (.int .u8 0), .ro (.int .u8 0), .ro (.int .u8 0), .ro (.int .u8 0), .ro (.int .u8 0), .ro (.int .u8 0), .ro (.int .u8 0), .ro (.int .u8 0), .ro (.int .u8 0), .ro (.int .u8 0), .ro (.int .u8 0), .ro (.int .u8 0), .ro (.int .u8 0), .ro (.int .u8 0), .ro (.int .u8 0), .ro (.int .u8 0), .ro (.int .u8 0), .ro (.int .u8 0), .ro (.int .u8 0), .ro (.int .u8 0), .ro (.int .u8 0), .ro (.int .u8 0), .ro (.int .u8 0), .ro (.int .u8 0), .ro (.int .u8 0), .ro (.int .u8 0), .ro (.int .u8 0), .ro (.int .u8 0), .ro (.int .u8 0), .ro (.int .u8 0), .ro (.int .u8 0), .ro (.int .u8 0), .ro (.int .u8 0), .ro (.int .u8 0), .ro (.int .u8 0), .ro (.int .u8 0), .ro (.int .u8 0), .ro (.int .u8 0), .ro (.int .u8 0), .ro (.int .u8 0), .ro (.int .u8 0), .ro (.int .u8 0), .ro (.int .u8 0), .ro (.int .u8 0), .ro (.int .u8 0), .ro (.int .u8 0), .ro (.int .u8 0), .ro (.int .u8 0), .ro (.int .u8 0), .ro (.int .u8 0), .ro (.int .u8 0), .ro (.int .u8 0), .ro (.int .u8 0), .ro (.int .u8 0), .ro (.int .u8 0), .ro (.int .u8 0), .ro (.int .u8 0), .ro (.int .u8 0), .ro (.int .u8 0), .ro (.int .u8 0), .ro (.int .u8 0), .ro (.int .u8 0), .ro (.int .u8 0), .ro (.int .u8 0), .ro (.int .u8 0), .ro (.int .u8 0), .ro (.int .u8 0), .ro (.int .u8 0), .ro (.int .u8 0), .ro (.int .u8 0), .ro (.int .u8 0), .ro (.int .u8 0), .ro (.int .u8 0), .ro (.int .u8 0), .ro (.int .u8 0), .ro (.int .u8 0), .ro (.int .u8 0), .ro (.int .u8 0), .ro (.int .u8 0), .ro (.int .u8 0), .ro (.int .u8 0), .ro (.int .u8 0), .ro (.int .u8 0), .ro (.int .u8 0), .ro (.int .u8 0), .ro (.int .u8 0), .ro (.int .u8 0), .ro (.int .u8 0), .ro (.int .u8 0), .ro (.int .u8 0), .ro (.int .u8 0), .ro (.int .u8 0), .ro (.int .u8 0), .ro (.int .u8 0), .ro (.int .u8 0), .ro (.int .u8 0), .ro (.int .u8 0), .ro (.int .u8 0), .ro (.int .u8 0), .ro (.int .u8 0), .ro (.int .u8 0), .ro (.int .u8 0), .ro (.int .u8 0), .ro (.int .u8 0), .ro (.int .u8 0), .ro (.int .u8 0), .ro (.int .u8 0), .ro (.int .u8 0), .ro (.int .u8 0), .ro (.int .u8 0), .ro (.int .u8 0), .ro (.int .u8 0), .ro (.int .u8 0), .ro (.int .u8 0), .ro (.int .u8 0), .ro (.int .u8 0), .ro (.int .u8 0), .ro (.int .u8 0), .ro (.int .u8 0), .ro (.int .u8 0), .ro (.int .u8 0), .ro (.int .u8 0), .ro (.int .u8 0), .ro (.int .u8 0), .ro (.int .u8 0), .ro (.int .u8 0), .ro (.int .u8 0), .ro (.int .u8 0), .ro (.int .u8 0), .ro (.int .u8 0), .ro (.int .u8 0), .ro (.int .u8 0), .ro (.int .u8 0), .ro (.int .u8 0), .ro (.int .u8 0), .ro (.int .u8 0), .ro (.int .u8 0), .ro (.int .u8 0), .ro (.int .u8 0), .ro (.int .u8 0), .ro (.int .u8 0), .ro (.int .u8 0), .ro (.int .u8 0), .ro (.int .u8 0), .ro (.int .u8 0), .ro (.int .u8 0), .ro (.int .u8 0), .ro (.int .u8 0), .ro (.int .u8 0), .ro (.int .u8 0), .ro (.int .u8 0), .ro (.int .u8 0), .ro (.int .u8 0), .ro (.int .u8 0), .ro (.int .u8 0), .ro (.int .u8 0), .ro (.int .u8 0), .ro (.int .u8 0), .ro (.int .u8 0), .ro (.int .u8 0), .ro (.int .u8 0), .ro (.int .u8 0), .ro (.int .u8 0), .ro (.int .u8 0), .ro (.int .u8 0), .ro (.int .u8 0), .ro (.int .u8 0), .ro (.int .u8 0), .ro (.int .u8 0), .ro (.int .u8 0), .ro (.int .u8 0), .ro (.int .u8 0), .ro (.int .u8 0), .ro (.int .u8 0), .ro (.int .u8 0), .ro (.int .u8 0), .ro (.int .u8 0), .ro (.int .u8 0), .ro (.int .u8 0), .ro (.int .u8 0), .ro (.int .u8 0), .ro (.int .u8 0), .ro (.int .u8 0), .ro (.int .u8 0), .ro (.int .u8 0), .ro (.int .u8 0), .ro (.int .u8 0), .ro (.int .u8 0), .ro (.int .u8 0), .ro (.int .u8 0), .ro (.int .u8 0), .ro (.int .u8 0), .ro (.int .u8 0), .ro (.int .u8 0), .ro (.int .u8 0), .ro (.int .u8 0), .ro (.int .u8 0), .ro (.int .u8 0), .ro (.int .u8 0), .ro (.int .u8 0), .ro (.int .u8 0), .ro (.int .u8 0), .ro (.int .u8 0), .ro (.int .u8 0), .ro (.int .u8 0), .ro (.int .u8 0), .ro (.int .u8 0), .ro (.int .u8 0), .ro (.int .u8 0), .ro (.int .u8 0), .ro (.int .u8 0), .ro (.int .u8 0), .ro (.int .u8 0), .ro (.int .u8 0), .ro (.int .u8 0), .ro (.int .u8 0), .ro (.int .u8 0), .ro (.int .u8 0), .ro (.int .u8 0), .ro (.int .u8 0), .ro (.int .u8 0), .ro (.int .u8 0), .ro (.int .u8 0), .ro (.int .u8 0), .ro (.int .u8 0), .ro (.int .u8 0), .ro (.int .u8 0), .ro (.int .u8 0), .ro (.int .u8 0), .ro (.int .u8 0), .ro (.int .u8 0), .ro (.int .u8 0), .ro (.int .u8 0), .ro (.int .u8 0), .ro (.int .u8 0), .ro (.int .u8 0), .ro (.int .u8 0), .ro (.int .u8 0), .ro (.int .u8 0), .ro (.int .u8 0), .ro (.int .u8 0), .ro (.int .u8 0), .ro (.int .u8 0)] := by kernel_rfl
@[simp] theorem ty_size152 : sizeT Tryd.prog 152 = some 2 := by kernel_rfl
@[simp] theorem ty_agg152 : isAggT Tryd.prog 152 = true := by kernel_rfl
@[simp] theorem ty_bld152 : builderT Tryd.prog 152 = none := by kernel_rfl
@[simp] theorem ty_f152_0 : fieldAt Tryd.prog 152 0 = some (0, 5) := by kernel_rfl
@[simp] theorem ty_f152_1 : fieldAt Tryd.prog 152 1 = some (1, 5) := by kernel_rfl
@[simp] theorem ty_pl152 : placesOk Tryd.prog 152 = true := by kernel_rfl
@[simp] theorem ty_zero152 : zeroA Tryd.prog 152 = some [.ro (.int .u8 0), .ro (.int .u8 0)] := by kernel_rfl
@[simp] theorem ty_size153 : sizeT Tryd.prog 153 = some 2 := by kernel_rfl
@[simp] theorem ty_agg153 : isAggT Tryd.prog 153 = true := by kernel_rfl
@[simp] theorem ty_bld153 : builderT Tryd.prog 153 = none := by kernel_rfl
@[simp] theorem ty_f153_0 : fieldAt Tryd.prog 153 0 = some (0, 5) := by kernel_rfl
@[simp] theorem ty_f153_1 : fieldAt Tryd.prog 153 1 = some (1, 5) := by kernel_rfl
@[simp] theorem ty_pl153 : placesOk Tryd.prog 153 = true := by kernel_rfl
@[simp] theorem ty_zero153 : zeroA Tryd.prog 153 = some [.ro (.int .u8 0), .ro (.int .u8 0)] := by kernel_rfl
@[simp] theorem ty_size154 : sizeT Tryd.prog 154 = some 32 := by kernel_rfl
@[simp] theorem ty_agg154 : isAggT Tryd.prog 154 = true := by kernel_rfl
@[simp] theorem ty_bld154 : builderT Tryd.prog 154 = none := by kernel_rfl
@[simp] theorem ty_pl154 : placesOk Tryd.prog 154 = true := by kernel_rfl
@[simp] theorem ty_zero154 : zeroA Tryd.prog 154 = some [.ro (.int .u8 0), .ro (.int .u8 0), .ro (.int .u8 0), .ro (.int .u8 0), .ro (.int .u8 0), .ro (.int .u8 0), .ro (.int .u8 0), .ro (.int .u8 0), .ro (.int .u8 0), .ro (.int .u8 0), .ro (.int .u8 0), .ro (.int .u8 0), .ro (.int .u8 0), .ro (.int .u8 0), .ro (.int .u8 0), .ro (.int .u8 0), .ro (.int .u8 0), .ro (.int .u8 0), .ro (.int .u8 0), .ro (.int .u8 0), .ro (.int .u8 0), .ro (.int .u8 0), .ro (.int .u8 0), .ro (.int .u8 0), .ro (.int .u8 0), .ro (.int .u8 0), .ro (.int .u8 0), .ro (.int .u8 0), .ro (.int .u8 0), .ro (.int .u8 0), .ro (.int .u8 0), .ro (.int .u8 0)] := by kernel_rfl
@[simp] theorem ty_size155 : sizeT Tryd.prog 155 = some 32 := by kernel_rfl
@[simp] theorem ty_agg155 : isAggT Tryd.prog 155 = true := by kernel_rfl
@[simp] theorem ty_bld155 : builderT Tryd.prog 155 = none := by kernel_rfl
@[simp] theorem ty_pl155 : placesOk Tryd.prog 155 = true := by kernel_rfl
@[simp] theorem ty_zero155 : zeroA Tryd.prog 155 = some [.ro (.int .u8 0), .ro (.int .u8 0), .ro (.int .u8 0), .ro (.int .u8 0), .ro (.int .u8 0), .ro (.int .u8 0), .ro (.int .u8 0), .ro (.int .u8 0), .ro (.int .u8 0), .ro (.int .u8 0), .ro (.int .u8 0), .ro (.int .u8 0), .ro (.int .u8 0), .ro (.int .u8 0), .ro (.int .u8 0), .ro (.int .u8 0), .ro (.int .u8 0), .ro (.int .u8 0), .ro (.int .u8 0), .ro (.int .u8 0), .ro (.int .u8 0), .ro (.int .u8 0), .ro (.int .u8 0), .ro (.int .u8 0), .ro (.int .u8 0), .ro (.int .u8 0), .ro (.int .u8 0), .ro (.int .u8 0), .ro (.int .u8 0), .ro (.int .u8 0), .ro (.int .u8 0), .ro (.int .u8 0)] := by kernel_rfl
@[simp] theorem ty_size156 : sizeT Tryd.prog 156 = some 64 := by kernel_rfl
@[simp] theorem ty_agg156 : isAggT Tryd.prog 156 = true := by kernel_rfl
@[simp] theorem ty_bld156 : builderT Tryd.prog 156 = none := by kernel_rfl
@[simp] theorem ty_pl156 : placesOk Tryd.prog 156 = true := by kernel_rfl
@[simp] theorem ty_zero156 : zeroA Tryd.prog 156 = some [.ro (.int .u8 0), .ro (.int .u8 0), .ro (.int .u8 0), .ro (.int .u8 0), .ro (.int .u8 0), .ro (.int .u8 0), .ro (.int .u8 0), .ro (.int .u8 0), .ro (.int .u8 0), .ro (.int .u8 0), .ro (.int .u8 0), .ro (.int .u8 0), .ro (.int .u8 0), .ro (.int .u8 0), .ro (.int .u8 0), .ro (.int .u8 0), .ro (.int .u8 0), .ro (.int .u8 0), .ro (.int .u8 0), .ro (.int .u8 0), .ro (.int .u8 0), .ro (.int .u8 0), .ro (.int .u8 0), .ro (.int .u8 0), .ro (.int .u8 0), .ro (.int .u8 0), .ro (.int .u8 0), .ro (.int .u8 0), .ro (.int .u8 0), .ro (.int .u8 0), .ro (.int .u8 0), .ro (.int .u8 0), .ro (.int .u8 0), .ro (.int .u8 0), .ro (.int .u8 0), .ro (.int .u8 0), .ro (.int .u8 0), .ro (.int .u8 0), .ro (.int .u8 0), .ro (.int .u8 0), .ro (.int .u8 0), .ro (.int .u8 0), .ro (.int .u8 0), .ro (.int .u8 0), .ro (.int .u8 0), .ro (.int .u8 0), .ro (.int .u8 0), .ro (.int .u8 0), .ro (.int .u8 0), .ro (.int .u8 0), .ro (.int .u8 0), .ro (.int .u8 0), .ro (.int .u8 0), .ro (.int .u8 0), .ro (.int .u8 0), .ro (.int .u8 0), .ro (.int .u8 0), .ro (.int .u8 0), .ro (.int .u8 0), .ro (.int .u8 0), .ro (.int .u8 0), .ro (.int .u8 0), .ro (.int .u8 0), .ro (.int .u8 0)] := by kernel_rfl
@[simp] theorem ty_size157 : sizeT Tryd.prog 157 = some 4 := by kernel_rfl
@[simp] theorem ty_agg157 : isAggT Tryd.prog 157 = true := by kernel_rfl
@[simp] theorem ty_bld157 : builderT Tryd.prog 157 = none := by kernel_rfl
@[simp] theorem ty_f157_0 : fieldAt Tryd.prog 157 0 = some (0, 17) := by kernel_rfl
@[simp] theorem ty_f157_1 : fieldAt Tryd.prog 157 1 = some (1, 17) := by kernel_rfl
@[simp] theorem ty_f157_2 : fieldAt Tryd.prog 157 2 = some (2, 17) := by kernel_rfl
@[simp] theorem ty_f157_3 : fieldAt Tryd.prog 157 3 = some (3, 9) := by kernel_rfl
@[simp] theorem ty_pl157 : placesOk Tryd.prog 157 = true := by kernel_rfl
@[simp] theorem ty_zero157 : zeroA Tryd.prog 157 = some [.ro (.nilp), .ro (.nilp), .ro (.nilp), .ro (.str ⟨#[]⟩)] := by kernel_rfl
@[simp] theorem ty_size158 : sizeT Tryd.prog 158 = some 4 := by kernel_rfl
@[simp] theorem ty_agg158 : isAggT Tryd.prog 158 = true := by kernel_rfl
@[simp] theorem ty_bld158 : builderT Tryd.prog 158 = none := by kernel_rfl
@[simp] theorem ty_f158_0 : fieldAt Tryd.prog 158 0 = some (0, 17) := by kernel_rfl
@[simp] theorem ty_f158_1 : fieldAt Tryd.prog 158 1 = some (1, 17) := by kernel_rfl
@[simp] theorem ty_f158_2 : fieldAt Tryd.prog 158 2 = some (2, 17) := by kernel_rfl
@[simp] theorem ty_f158_3 : fieldAt Tryd.prog 158 3 = some (3, 9) := by kernel_rfl
@[simp] theorem ty_pl158 : placesOk Tryd.prog 158 = true := by kernel_rfl
@[simp] theorem ty_zero158 : zeroA Tryd.prog 158 = some [.ro (.nilp), .ro (.nilp), .ro (.nilp), .ro (.str ⟨#[]⟩)] := by kernel_rfl
@[simp] theorem ty_size159 : sizeT Tryd.prog 159 = some 0 := by kernel_rfl
@[simp] theorem ty_agg159 : isAggT Tryd.prog 159 = true := by kernel_rfl
@[simp] theorem ty_bld159 : builderT Tryd.prog 159 = none := by kernel_rfl
@[simp] theorem ty_pl159 : placesOk Tryd.prog 159 = true := by kernel_rfl
@[simp] theorem ty_zero159 : zeroA Tryd.prog 159 = some [] := by kernel_rfl
@[simp] theorem ty_size160 : sizeT Tryd.prog 160 = some 0 := by kernel_rfl
@[simp] theorem ty_agg160 : isAggT Tryd.prog 160 = true := by kernel_rfl
@[simp] theorem ty_bld160 : builderT Tryd.prog 160 = none := by kernel_rfl
@[simp] theorem ty_f160_0 : fieldAt Tryd.prog 160 0 = some (0, 159) := by kernel_rfl
@[simp] theorem ty_pl160 : placesOk Tryd.prog 160 = true := by kernel_rfl
@[simp] theorem ty_zero160 : zeroA Tryd.prog 160 = some [] := by kernel_rfl
@[simp] theorem ty_size161 : sizeT Tryd.prog 161 = some 0 := by kernel_rfl
@[simp] theorem ty_agg161 : isAggT Tryd.prog 161 = true := by kernel_rfl
@[simp] theorem ty_bld161 : builderT Tryd.prog 161 = none := by kernel_rfl
@[simp] theorem ty_f161_0 : fieldAt Tryd.prog 161 0 = some (0, 159) := by kernel_rfl
@[simp] theorem ty_pl161 : placesOk Tryd.prog 161 = true := by kernel_rfl
@[simp] theorem ty_zero161 : zeroA Tryd.prog 161 = some [] := by kernel_rfl
@[simp] theorem ty_size163 : sizeT Tryd.prog 163 = some 1 := by kernel_rfl
@[simp] theorem ty_agg163 : isAggT Tryd.prog 163 = false := by kernel_rfl
@[simp] theorem ty_bld163 : builderT Tryd.prog 163 = none := by kernel_rfl
@[simp] theorem ty_zero163 : zeroA Tryd.prog 163 = some [.ro (.int .u8 0)] := by kernel_rfl
@[simp] theorem ty_size164 : sizeT Tryd.prog 164 = some 1 := by kernel_rfl
@[simp] theorem ty_agg164 : isAggT Tryd.prog 164 = false := by kernel_rfl
@[simp] theorem ty_bld164 : builderT Tryd.prog 164 = none := by kernel_rfl
@[simp] theorem ty_zero164 : zeroA Tryd.prog 164 = some [.ro (.int .u8 0)] := by kernel_rfl
@[simp] theorem ty_size166 : sizeT Tryd.prog 166 = some 1 := by kernel_rfl
@[simp] theorem ty_agg166 : isAggT Tryd.prog 166 = false := by kernel_rfl
@[simp] theorem ty_bld166 : builderT Tryd.prog 166 = none := by kernel_rfl
@[simp] theorem ty_zero166 : zeroA Tryd.prog 166 = some [.ro (.int .i32 0)] := by kernel_rfl
@[simp] theorem ty_size167 : sizeT Tryd.prog 167 = some 1 := by kernel_rfl
@[simp] theorem ty_agg167 : isAggT Tryd.prog 167 = false := by kernel_rfl
@[simp] theorem ty_bld167 : builderT Tryd.prog 167 = none := by kernel_rfl
@[simp] theorem ty_zero167 : zeroA Tryd.prog 167 = some [.ro (.int .i32 0)] := by kernel_rfl
@[simp] theorem ty_size168 : sizeT Tryd.prog 168 = some 11 := by kernel_rfl
@[simp] theorem ty_agg168 : isAggT Tryd.prog 168 = true := by kernel_rfl
@[simp] theorem ty_bld168 : builderT Tryd.prog 168 = none := by kernel_rfl
@[simp] theorem ty_f168_0 : fieldAt Tryd.prog 168 0 = some (0, 12) := by kernel_rfl
@[simp] theorem ty_f168_1 : fieldAt Tryd.prog 168 1 = some (1, 12) := by kernel_rfl
@[simp] theorem ty_f168_2 : fieldAt Tryd.prog 168 2 = some (2, 144) := by kernel_rfl
@[simp] theorem ty_f168_3 : fieldAt Tryd.prog 168 3 = some (3, 163) := by kernel_rfl
@[simp] theorem ty_f168_4 : fieldAt Tryd.prog 168 4 = some (4, 5) := by kernel_rfl
@[simp] theorem ty_f168_5 : fieldAt Tryd.prog 168 5 = some (5, 5) := by kernel_rfl
@[simp] theorem ty_f168_6 : fieldAt Tryd.prog 168 6 = some (6, 164) := by kernel_rfl
@[simp] theorem ty_f168_7 : fieldAt Tryd.prog 168 7 = some (7, 165) := by kernel_rfl
@[simp] theorem ty_f168_8 : fieldAt Tryd.prog 168 8 = some (8, 108) := by kernel_rfl
@[simp] theorem ty_f168_9 : fieldAt Tryd.prog 168 9 = some (9, 166) := by kernel_rfl
@[simp] theorem ty_f168_10 : fieldAt Tryd.prog 168 10 = some (10, 167) := by kernel_rfl
@[simp] theorem ty_pl168 : placesOk Tryd.prog 168 = true := by kernel_rfl
@[simp] theorem ty_zero168 : zeroA Tryd.prog 168 = some [.ro (.int .u64 0), .ro (.int .u64 0), .ro (.int .u32 0), .ro (.int .u8 0), .ro (.int .u8 0), .ro (.int .u8 0), .ro (.int .u8 0), .ro (.nilf), .ro (.nilp), .ro (.int .i32 0), .ro (.int .i32 0)] := by kernel_rfl
@[simp] theorem ty_size169 : sizeT Tryd.prog 169 = some 11 := by kernel_rfl
@[simp] theorem ty_agg169 : isAggT Tryd.prog 169 = true := by kernel_rfl
@[simp] theorem ty_bld169 : builderT Tryd.prog 169 = none := by kernel_rfl
@[simp] theorem ty_f169_0 : fieldAt Tryd.prog 169 0 = some (0, 12) := by kernel_rfl
@[simp] theorem ty_f169_1 : fieldAt Tryd.prog 169 1 = some (1, 12) := by kernel_rfl
@[simp] theorem ty_f169_2 : fieldAt Tryd.prog 169 2 = some (2, 144) := by kernel_rfl
@[simp] theorem ty_f169_3 : fieldAt Tryd.prog 169 3 = some (3, 163) := by kernel_rfl
@[simp] theorem ty_f169_4 : fieldAt Tryd.prog 169 4 = some (4, 5) := by kernel_rfl
@[simp] theorem ty_f169_5 : fieldAt Tryd.prog 169 5 = some (5, 5) := by kernel_rfl
@[simp] theorem ty_f169_6 : fieldAt Tryd.prog 169 6 = some (6, 164) := by kernel_rfl
@[simp] theorem ty_f169_7 : fieldAt Tryd.prog 169 7 = some (7, 165) := by kernel_rfl
@[simp] theorem ty_f169_8 : fieldAt Tryd.prog 169 8 = some (8, 108) := by kernel_rfl
@[simp] theorem ty_f169_9 : fieldAt Tryd.prog 169 9 = some (9, 166) := by kernel_rfl
@[simp] theorem ty_f169_10 : fieldAt Tryd.prog 169 10 = some (10, 167) := by kernel_rfl
@[simp] theorem ty_pl169 : placesOk Tryd.prog 169 = true := by kernel_rfl
@[simp] theorem ty_zero169 : zeroA Tryd.prog 169 = some [.ro (.int .u64 0), .ro (.int .u64 0), .ro (.int .u32 0), .ro (.int .u8 0), .ro (.int .u8 0), .ro (.int .u8 0), .ro (.int .u8 0), .ro (.nilf), .ro (.nilp), .ro (.int .i32 0), .ro (.int .i32 0)] := by kernel_rfl
attribute [simp] Tryd.underlying10
attribute [simp] Tryd.underlying106
attribute [simp] Tryd.underlying107
attribute [simp] Tryd.underlying108
attribute [simp] Tryd.underlying11
attribute [simp] Tryd.underlying12
attribute [simp] Tryd.underlying124
attribute [simp] Tryd.underlying13
attribute [simp] Tryd.underlying133
attribute [simp] Tryd.underlying134
attribute [simp] Tryd.underlying139
attribute [simp] Tryd.underlying14
attribute [simp] Tryd.underlying143
attribute [simp] Tryd.underlying144
attribute [simp] Tryd.underlying145
attribute [simp] Tryd.underlying15
attribute [simp] Tryd.underlying151
attribute [simp] Tryd.underlying152
attribute [simp] Tryd.underlying153
attribute [simp] Tryd.underlying154
attribute [simp] Tryd.underlying155
attribute [simp] Tryd.underlying156
attribute [simp] Tryd.underlying157
attribute [simp] Tryd.underlying158
attribute [simp] Tryd.underlying159
attribute [simp] Tryd.underlying16
attribute [simp] Tryd.underlying160
attribute [simp] Tryd.underlying161
attribute [simp] Tryd.underlying163
attribute [simp] Tryd.underlying164
attribute [simp] Tryd.underlying166
attribute [simp] Tryd.underlying167
attribute [simp] Tryd.underlying168
attribute [simp] Tryd.underlying169
attribute [simp] Tryd.underlying17
attribute [simp] Tryd.underlying18
attribute [simp] Tryd.underlying19
attribute [simp] Tryd.underlying2
attribute [simp] Tryd.underlying20
attribute [simp] Tryd.underlying21
attribute [simp] Tryd.underlying22
attribute [simp] Tryd.underlying28
attribute [simp] Tryd.underlying29
attribute [simp] Tryd.underlying3
attribute [simp] Tryd.underlying30
attribute [simp] Tryd.underlying31
attribute [simp] Tryd.underlying34
attribute [simp] Tryd.underlying35
attribute [simp] Tryd.underlying36
attribute [simp] Tryd.underlying4
attribute [simp] Tryd.underlying40
attribute [simp] Tryd.underlying46
attribute [simp] Tryd.underlying47
attribute [simp] Tryd.underlying5
attribute [simp] Tryd.underlying58
attribute [simp] Tryd.underlying59
attribute [simp] Tryd.underlying6
attribute [simp] Tryd.underlying65
attribute [simp] Tryd.underlying67
attribute [simp] Tryd.underlying68
attribute [simp] Tryd.underlying69
attribute [simp] Tryd.underlying7
attribute [simp] Tryd.underlying70
attribute [simp] Tryd.underlying71
attribute [simp] Tryd.underlying8
attribute [simp] Tryd.underlying80
attribute [simp] Tryd.underlying85
attribute [simp] Tryd.underlying87
attribute [simp] Tryd.underlying89
attribute [simp] Tryd.underlying9
attribute [simp] Tryd.underlying97
end Go.Qz

/- The functions of the program in short (printed by a program of ours). -/
namespace Go.Qz
open Go.Proofs
theorem run_is {q r : QCode} (h : q = r) (c : Ctx) (e : Env) (ks : List Fr) : Run c q e ks = Run c r e ks := h ▸ rfl
/-! 4 w_FnExactPackOk -/
abbrev fn_w_FnExactPackOk : FuncId := 4
def q_w_FnExactPackOk_c0 : QCode := .seq (.ops [⟨some 2, .assign (.const (.bool true)), 4, none⟩]) (.ret)
@[simp] theorem q_w_FnExactPackOk_c0_run : type_of% (run_is q_w_FnExactPackOk_c0.eq_1) := run_is q_w_FnExactPackOk_c0.eq_1
def q_w_FnExactPackOk_c1 : QCode := .seq (.seq (.draw [] [⟨some 22, .load 36 (.tmp 5), 36, none⟩, ⟨some 23, .load 31 (.tmp 1), 31, none⟩, ⟨some 24, .call { callee := .value (.func 13), args := #[.tmp 23], argTypes := #[31] }, 36, none⟩] [⟨some 25, .call { callee := .value (.func 15), args := #[.tmp 22, .tmp 24], argTypes := #[36, 36] }, 4, none⟩, ⟨some 26, .unOp .not 4 (.tmp 25), 4, none⟩]) (.cond (.tmp 26) (.seq (.ops [⟨some 2, .assign (.const (.bool false)), 4, none⟩]) (.ret)) (.skip))) (q_w_FnExactPackOk_c0)
@[simp] theorem q_w_FnExactPackOk_c1_run : type_of% (run_is q_w_FnExactPackOk_c1.eq_1) := run_is q_w_FnExactPackOk_c1.eq_1
def q_w_FnExactPackOk_c2 : QCode := .seq (.ops [⟨some 12, .load 31 (.tmp 1), 31, none⟩, ⟨some 13, .call { callee := .value (.func 13), args := #[.tmp 12], argTypes := #[31] }, 36, none⟩, ⟨some 14, .call { callee := .value (.func 12), args := #[.tmp 13], argTypes := #[36] }, 4, none⟩, ⟨some 4, .assign (.tmp 14), 4, none⟩]) (.seq (.ops [⟨some 15, .load 31 (.tmp 1), 31, none⟩, ⟨some 16, .call { callee := .value (.func 13), args := #[.tmp 15], argTypes := #[31] }, 36, none⟩, ⟨some 5, .alloc 36, 0, none⟩, ⟨none, .store 36 (.tmp 5) (.tmp 16), 0, none⟩]) (.seq (.ops [⟨some 17, .load 36 (.tmp 5), 36, none⟩, ⟨some 18, .call { callee := .value (.func 14), args := #[.tmp 17], argTypes := #[36] }, 4, none⟩, ⟨some 6, .assign (.tmp 18), 4, none⟩]) (.seq (.seq (.ops [⟨some 19, .move (.tmp 6), 4, none⟩, ⟨some 20, .move (.tmp 4), 4, none⟩, ⟨some 21, .binOp .neq 4 (.tmp 19) (.tmp 20) 4, 4, none⟩]) (.cond (.tmp 21) (.seq (.ops [⟨some 2, .assign (.const (.bool false)), 4, none⟩]) (.ret)) (.skip))) (q_w_FnExactPackOk_c1))))
@[simp] theorem q_w_FnExactPackOk_c2_run : type_of% (run_is q_w_FnExactPackOk_c2.eq_1) := run_is q_w_FnExactPackOk_c2.eq_1
@[simp] def q_w_FnExactPackOk : QFn := ⟨27, [(.tmp 2, 4)], .seq (.ops [⟨some 1, .box 31 (.tmp 0), 0, none⟩, ⟨some 2, .assign (.const (.bool false)), 4, none⟩]) (.seq (.ops [⟨some 3, .assign (.const (.int .i64 1048576)), 3, none⟩]) (.seq (.ops [⟨some 7, .load 31 (.tmp 1), 31, none⟩, ⟨some 8, .move (.tmp 3), 3, none⟩, ⟨some 9, .call { callee := .value (.func 11), args := #[.tmp 7, .tmp 8], argTypes := #[31, 3] }, 3, none⟩, ⟨some 3, .assign (.tmp 9), 3, none⟩]) (.seq (.seq (.ops [⟨some 10, .move (.tmp 3), 3, none⟩, ⟨some 11, .binOp .lss 3 (.tmp 10) (.const (.int .i64 0)) 3, 4, none⟩]) (.cond (.tmp 11) (.seq (.ops [⟨some 2, .assign (.const (.bool true)), 4, none⟩]) (.ret)) (.skip))) (q_w_FnExactPackOk_c2))))⟩
theorem conv_w_FnExactPackOk : convF Tryd.f4 = some q_w_FnExactPackOk := by kernel_rfl
/-! 8 w_eqEntryS -/
abbrev fn_w_eqEntryS : FuncId := 8
def q_w_eqEntryS_c0 : QCode := .ops [⟨some 15, .move (.tmp 5), 3, none⟩, ⟨some 16, .binOp .add 3 (.tmp 15) (.const (.int .i64 1)) 3, 3, none⟩, ⟨some 5, .assign (.tmp 16), 3, none⟩]
@[simp] theorem q_w_eqEntryS_c0_run : type_of% (run_is q_w_eqEntryS_c0.eq_1) := run_is q_w_eqEntryS_c0.eq_1
def q_w_eqEntryS_c1 : QCode := .seq (.block 1 (.seq (.draw [] [⟨some 17, .move (.tmp 0), 22, none⟩, ⟨some 18, .move (.tmp 5), 3, none⟩, ⟨some 19, .indexAddr 22 (.tmp 17) (.tmp 18), 0, none⟩, ⟨some 20, .load 47 (.tmp 19), 47, none⟩, ⟨some 21, .move (.tmp 1), 22, none⟩, ⟨some 22, .move (.tmp 5), 3, none⟩, ⟨some 23, .indexAddr 22 (.tmp 21) (.tmp 22), 0, none⟩, ⟨some 24, .load 47 (.tmp 23), 47, none⟩] [⟨some 25, .call { callee := .value (.func 24), args := #[.tmp 20, .tmp 24], argTypes := #[47, 47] }, 4, none⟩, ⟨some 26, .unOp .not 4 (.tmp 25), 4, none⟩]) (.cond (.tmp 26) (.seq (.ops [⟨some 4, .assign (.const (.bool false)), 4, none⟩]) (.ret)) (.skip)))) (q_w_eqEntryS_c0)
@[simp] theorem q_w_eqEntryS_c1_run : type_of% (run_is q_w_eqEntryS_c1.eq_1) := run_is q_w_eqEntryS_c1.eq_1
def q_w_eqEntryS_l0 : QCode := .seq (.seq (.ops [⟨some 11, .move (.tmp 5), 3, none⟩, ⟨some 12, .move (.tmp 0), 22, none⟩, ⟨some 13, .call { callee := .builtin .len, args := #[.tmp 12], argTypes := #[22] }, 3, none⟩, ⟨some 14, .binOp .lss 3 (.tmp 11) (.tmp 13) 3, 4, none⟩]) (.cond (.tmp 14) (.skip) (.exit 0))) (q_w_eqEntryS_c1)
@[simp] theorem q_w_eqEntryS_l0_run : type_of% (run_is q_w_eqEntryS_l0.eq_1) := run_is q_w_eqEntryS_l0.eq_1
def q_w_eqEntryS_c2 : QCode := .seq (.ops [⟨some 4, .assign (.const (.bool true)), 4, none⟩]) (.ret)
@[simp] theorem q_w_eqEntryS_c2_run : type_of% (run_is q_w_eqEntryS_c2.eq_1) := run_is q_w_eqEntryS_c2.eq_1
def q_w_eqEntryS_c3 : QCode := .seq (.seq (.ops [⟨some 5, .assign (.const (.int .i64 0)), 3, none⟩]) (.block 0 (.loop q_w_eqEntryS_l0))) (q_w_eqEntryS_c2)
@[simp] theorem q_w_eqEntryS_c3_run : type_of% (run_is q_w_eqEntryS_c3.eq_1) := run_is q_w_eqEntryS_c3.eq_1
@[simp] def q_w_eqEntryS : QFn := ⟨27, [(.tmp 4, 4)], .seq (.ops [⟨some 4, .assign (.const (.bool false)), 4, none⟩]) (.seq (.seq (.ops [⟨some 6, .move (.tmp 0), 22, none⟩, ⟨some 7, .call { callee := .builtin .len, args := #[.tmp 6], argTypes := #[22] }, 3, none⟩, ⟨some 8, .move (.tmp 1), 22, none⟩, ⟨some 9, .call { callee := .builtin .len, args := #[.tmp 8], argTypes := #[22] }, 3, none⟩, ⟨some 10, .binOp .neq 3 (.tmp 7) (.tmp 9) 3, 4, none⟩]) (.cond (.tmp 10) (.seq (.ops [⟨some 4, .assign (.const (.bool false)), 4, none⟩]) (.ret)) (.skip))) (q_w_eqEntryS_c3))⟩
theorem conv_w_eqEntryS : convF Tryd.f8 = some q_w_eqEntryS := by kernel_rfl
/-! 11 w_szPack -/
abbrev fn_w_szPack : FuncId := 11
def q_w_szPack_c0 : QCode := .seq (.ops [⟨some 31, .move (.tmp 1), 3, none⟩, ⟨some 4, .assign (.tmp 31), 3, none⟩]) (.ret)
@[simp] theorem q_w_szPack_c0_run : type_of% (run_is q_w_szPack_c0.eq_1) := run_is q_w_szPack_c0.eq_1
def q_w_szPack_c1 : QCode := .seq (.ops [⟨some 25, .fieldAddr 31 (.tmp 2) 3, 0, none⟩, ⟨some 26, .load 29 (.tmp 25), 29, none⟩, ⟨some 27, .move (.tmp 1), 3, none⟩, ⟨some 28, .call { callee := .value (.func 27), args := #[.tmp 26, .tmp 27], argTypes := #[29, 3] }, 3, none⟩, ⟨some 1, .assign (.tmp 28), 3, none⟩]) (.seq (.seq (.ops [⟨some 29, .move (.tmp 1), 3, none⟩, ⟨some 30, .binOp .lss 3 (.tmp 29) (.const (.int .i64 0)) 3, 4, none⟩]) (.cond (.tmp 30) (.seq (.ops [⟨some 4, .assign (.const (.int .i64 (-1))), 3, none⟩]) (.ret)) (.skip))) (q_w_szPack_c0))
@[simp] theorem q_w_szPack_c1_run : type_of% (run_is q_w_szPack_c1.eq_1) := run_is q_w_szPack_c1.eq_1
def q_w_szPack_c2 : QCode := .seq (.ops [⟨some 19, .fieldAddr 31 (.tmp 2) 2, 0, none⟩, ⟨some 20, .load 28 (.tmp 19), 28, none⟩, ⟨some 21, .move (.tmp 1), 3, none⟩, ⟨some 22, .call { callee := .value (.func 26), args := #[.tmp 20, .tmp 21], argTypes := #[28, 3] }, 3, none⟩, ⟨some 1, .assign (.tmp 22), 3, none⟩]) (.seq (.seq (.ops [⟨some 23, .move (.tmp 1), 3, none⟩, ⟨some 24, .binOp .lss 3 (.tmp 23) (.const (.int .i64 0)) 3, 4, none⟩]) (.cond (.tmp 24) (.seq (.ops [⟨some 4, .assign (.const (.int .i64 (-1))), 3, none⟩]) (.ret)) (.skip))) (q_w_szPack_c1))
@[simp] theorem q_w_szPack_c2_run : type_of% (run_is q_w_szPack_c2.eq_1) := run_is q_w_szPack_c2.eq_1
def q_w_szPack_c3 : QCode := .seq (.ops [⟨some 12, .move (.tmp 1), 3, none⟩, ⟨some 13, .fieldAddr 31 (.tmp 2) 1, 0, none⟩, ⟨some 14, .load 9 (.tmp 13), 9, none⟩, ⟨some 15, .call { callee := .builtin .len, args := #[.tmp 14], argTypes := #[9] }, 3, none⟩, ⟨some 16, .binOp .sub 3 (.tmp 12) (.tmp 15) 3, 3, none⟩, ⟨some 1, .assign (.tmp 16), 3, none⟩]) (.seq (.seq (.ops [⟨some 17, .move (.tmp 1), 3, none⟩, ⟨some 18, .binOp .lss 3 (.tmp 17) (.const (.int .i64 0)) 3, 4, none⟩]) (.cond (.tmp 18) (.seq (.ops [⟨some 4, .assign (.const (.int .i64 (-1))), 3, none⟩]) (.ret)) (.skip))) (q_w_szPack_c2))
@[simp] theorem q_w_szPack_c3_run : type_of% (run_is q_w_szPack_c3.eq_1) := run_is q_w_szPack_c3.eq_1
@[simp] def q_w_szPack : QFn := ⟨32, [(.tmp 4, 3)], .seq (.ops [⟨some 2, .box 31 (.tmp 0), 0, none⟩, ⟨some 4, .assign (.const (.int .i64 0)), 3, none⟩]) (.seq (.ops [⟨some 5, .move (.tmp 1), 3, none⟩, ⟨some 6, .fieldAddr 31 (.tmp 2) 0, 0, none⟩, ⟨some 7, .load 9 (.tmp 6), 9, none⟩, ⟨some 8, .call { callee := .builtin .len, args := #[.tmp 7], argTypes := #[9] }, 3, none⟩, ⟨some 9, .binOp .sub 3 (.tmp 5) (.tmp 8) 3, 3, none⟩, ⟨some 1, .assign (.tmp 9), 3, none⟩]) (.seq (.seq (.ops [⟨some 10, .move (.tmp 1), 3, none⟩, ⟨some 11, .binOp .lss 3 (.tmp 10) (.const (.int .i64 0)) 3, 4, none⟩]) (.cond (.tmp 11) (.seq (.ops [⟨some 4, .assign (.const (.int .i64 (-1))), 3, none⟩]) (.ret)) (.skip))) (q_w_szPack_c3)))⟩
theorem conv_w_szPack : convF Tryd.f11 = some q_w_szPack := by kernel_rfl
/-! 12 s_PackOk -/
abbrev fn_s_PackOk : FuncId := 12
@[simp] def q_s_PackOk : QFn := ⟨23, [(.tmp 2, 4)], .seq (.ops [⟨some 1, .box 36 (.tmp 0), 0, none⟩, ⟨some 2, .assign (.const (.bool false)), 4, none⟩]) (.seq (.ops [⟨some 3, .fieldAddr 36 (.tmp 1) 0, 0, none⟩, ⟨some 4, .load 9 (.tmp 3), 9, none⟩, ⟨some 5, .call { callee := .value (.func 28), args := #[.tmp 4], argTypes := #[9] }, 4, none⟩, ⟨some 6, .move (.tmp 5), 4, none⟩, ⟨some 7, .fieldAddr 36 (.tmp 1) 1, 0, some (6, true)⟩, ⟨some 8, .load 9 (.tmp 7), 9, some (6, true)⟩, ⟨some 9, .call { callee := .value (.func 29), args := #[.tmp 8], argTypes := #[9] }, 4, some (6, true)⟩, ⟨some 10, .pick (.tmp 6) (.tmp 9) (.const (.bool false)), 4, none⟩, ⟨some 11, .move (.tmp 10), 4, none⟩, ⟨some 12, .fieldAddr 36 (.tmp 1) 0, 0, some (11, true)⟩, ⟨some 13, .load 9 (.tmp 12), 9, some (11, true)⟩, ⟨some 14, .fieldAddr 36 (.tmp 1) 2, 0, some (11, true)⟩, ⟨some 15, .load 34 (.tmp 14), 34, some (11, true)⟩, ⟨some 16, .call { callee := .value (.func 30), args := #[.tmp 13, .tmp 15], argTypes := #[9, 34] }, 4, some (11, true)⟩, ⟨some 17, .pick (.tmp 11) (.tmp 16) (.const (.bool false)), 4, none⟩, ⟨some 18, .move (.tmp 17), 4, none⟩, ⟨some 19, .fieldAddr 36 (.tmp 1) 3, 0, some (18, true)⟩, ⟨some 20, .load 22 (.tmp 19), 22, some (18, true)⟩, ⟨some 21, .call { callee := .value (.func 31), args := #[.tmp 20], argTypes := #[22] }, 4, some (18, true)⟩, ⟨some 22, .pick (.tmp 18) (.tmp 21) (.const (.bool false)), 4, none⟩, ⟨some 2, .assign (.tmp 22), 4, none⟩]) (.ret))⟩
theorem conv_s_PackOk : convF Tryd.f12 = some q_s_PackOk := by kernel_rfl
/-! 13 w_toPack -/
abbrev fn_w_toPack : FuncId := 13
@[simp] def q_w_toPack : QFn := ⟨19, [(.cell 2 36, 36)], .seq (.ops [⟨some 1, .box 31 (.tmp 0), 0, none⟩, ⟨some 2, .alloc 36, 0, none⟩]) (.seq (.ops [⟨some 3, .alloc 36, 0, none⟩]) (.seq (.ops [⟨some 4, .fieldAddr 31 (.tmp 1) 0, 0, none⟩, ⟨some 5, .load 9 (.tmp 4), 9, none⟩, ⟨some 6, .fieldAddr 36 (.tmp 3) 0, 0, none⟩, ⟨none, .store 9 (.tmp 6) (.tmp 5), 0, none⟩]) (.seq (.ops [⟨some 7, .fieldAddr 31 (.tmp 1) 1, 0, none⟩, ⟨some 8, .load 9 (.tmp 7), 9, none⟩, ⟨some 9, .fieldAddr 36 (.tmp 3) 1, 0, none⟩, ⟨none, .store 9 (.tmp 9) (.tmp 8), 0, none⟩]) (.seq (.ops [⟨some 10, .fieldAddr 31 (.tmp 1) 2, 0, none⟩, ⟨some 11, .load 28 (.tmp 10), 28, none⟩, ⟨some 12, .call { callee := .value (.func 32), args := #[.tmp 11], argTypes := #[28] }, 34, none⟩, ⟨some 13, .fieldAddr 36 (.tmp 3) 2, 0, none⟩, ⟨none, .store 34 (.tmp 13) (.tmp 12), 0, none⟩]) (.seq (.ops [⟨some 14, .fieldAddr 31 (.tmp 1) 3, 0, none⟩, ⟨some 15, .load 29 (.tmp 14), 29, none⟩, ⟨some 16, .call { callee := .value (.func 33), args := #[.tmp 15], argTypes := #[29] }, 22, none⟩, ⟨some 17, .fieldAddr 36 (.tmp 3) 3, 0, none⟩, ⟨none, .store 22 (.tmp 17) (.tmp 16), 0, none⟩]) (.seq (.ops [⟨some 18, .load 36 (.tmp 3), 36, none⟩, ⟨none, .store 36 (.tmp 2) (.tmp 18), 0, none⟩]) (.ret)))))))⟩
theorem conv_w_toPack : convF Tryd.f13 = some q_w_toPack := by kernel_rfl
/-! 14 i_PackOk -/
abbrev fn_i_PackOk : FuncId := 14
def q_i_PackOk_c0 : QCode := .seq (.ops [⟨some 19, .fieldAddr 36 (.tmp 1) 2, 0, none⟩, ⟨some 20, .load 34 (.tmp 19), 34, none⟩, ⟨some 21, .call { callee := .value (.func 36), args := #[.tmp 20, .func 37], argTypes := #[34, 60] }, 4, none⟩, ⟨some 22, .move (.tmp 21), 4, none⟩, ⟨some 23, .fieldAddr 36 (.tmp 1) 2, 0, some (22, true)⟩, ⟨some 24, .load 34 (.tmp 23), 34, some (22, true)⟩, ⟨some 25, .fieldAddr 36 (.tmp 1) 0, 0, some (22, true)⟩, ⟨some 26, .load 9 (.tmp 25), 9, some (22, true)⟩, ⟨some 27, .buildSlice 80 1 #[(0, .tmp 26)], 80, some (22, true)⟩, ⟨some 28, .call { callee := .value (.func 38), args := #[.tmp 24, .func 39, .tmp 27], argTypes := #[34, 62, 80] }, 4, some (22, true)⟩, ⟨some 29, .unOp .not 4 (.tmp 28), 4, some (22, true)⟩, ⟨some 30, .pick (.tmp 22) (.tmp 29) (.const (.bool false)), 4, none⟩, ⟨some 31, .move (.tmp 30), 4, none⟩, ⟨some 32, .fieldAddr 36 (.tmp 1) 3, 0, some (31, true)⟩, ⟨some 33, .load 22 (.tmp 32), 22, some (31, true)⟩, ⟨some 34, .call { callee := .value (.func 19), args := #[.tmp 33], argTypes := #[22] }, 4, some (31, true)⟩, ⟨some 35, .pick (.tmp 31) (.tmp 34) (.const (.bool false)), 4, none⟩, ⟨some 2, .assign (.tmp 35), 4, none⟩]) (.ret)
@[simp] theorem q_i_PackOk_c0_run : type_of% (run_is q_i_PackOk_c0.eq_1) := run_is q_i_PackOk_c0.eq_1
@[simp] def q_i_PackOk : QFn := ⟨36, [(.tmp 2, 4)], .seq (.ops [⟨some 1, .box 36 (.tmp 0), 0, none⟩, ⟨some 2, .assign (.const (.bool false)), 4, none⟩]) (.seq (.seq (.ops [⟨some 3, .fieldAddr 36 (.tmp 1) 0, 0, none⟩, ⟨some 4, .load 9 (.tmp 3), 9, none⟩, ⟨some 5, .call { callee := .value (.func 34), args := #[.tmp 4], argTypes := #[9] }, 4, none⟩, ⟨some 6, .unOp .not 4 (.tmp 5), 4, none⟩, ⟨some 7, .move (.tmp 6), 4, none⟩, ⟨some 8, .fieldAddr 36 (.tmp 1) 1, 0, some (7, false)⟩, ⟨some 9, .load 9 (.tmp 8), 9, some (7, false)⟩, ⟨some 10, .call { callee := .value (.func 35), args := #[.tmp 9], argTypes := #[9] }, 4, some (7, false)⟩, ⟨some 11, .unOp .not 4 (.tmp 10), 4, some (7, false)⟩, ⟨some 12, .pick (.tmp 7) (.const (.bool true)) (.tmp 11), 4, none⟩, ⟨some 13, .move (.tmp 12), 4, none⟩, ⟨some 14, .fieldAddr 36 (.tmp 1) 2, 0, some (13, false)⟩, ⟨some 15, .load 34 (.tmp 14), 34, some (13, false)⟩, ⟨some 16, .call { callee := .builtin .len, args := #[.tmp 15], argTypes := #[34] }, 3, some (13, false)⟩, ⟨some 17, .binOp .gtr 3 (.tmp 16) (.const (.int .i64 6)) 3, 4, some (13, false)⟩, ⟨some 18, .pick (.tmp 13) (.const (.bool true)) (.tmp 17), 4, none⟩]) (.cond (.tmp 18) (.seq (.ops [⟨some 2, .assign (.const (.bool false)), 4, none⟩]) (.ret)) (.skip))) (q_i_PackOk_c0))⟩
theorem conv_i_PackOk : convF Tryd.f14 = some q_i_PackOk := by kernel_rfl
/-! 15 w_eqPack -/
abbrev fn_w_eqPack : FuncId := 15
def q_w_eqPack_c0 : QCode := .seq (.ops [⟨some 4, .assign (.const (.bool true)), 4, none⟩]) (.ret)
@[simp] theorem q_w_eqPack_c0_run : type_of% (run_is q_w_eqPack_c0.eq_1) := run_is q_w_eqPack_c0.eq_1
def q_w_eqPack_c1 : QCode := .seq (.seq (.ops [⟨some 21, .fieldAddr 36 (.tmp 2) 3, 0, none⟩, ⟨some 22, .load 22 (.tmp 21), 22, none⟩, ⟨some 23, .fieldAddr 36 (.tmp 3) 3, 0, none⟩, ⟨some 24, .load 22 (.tmp 23), 22, none⟩, ⟨some 25, .call { callee := .value (.func 8), args := #[.tmp 22, .tmp 24], argTypes := #[22, 22] }, 4, none⟩, ⟨some 26, .unOp .not 4 (.tmp 25), 4, none⟩]) (.cond (.tmp 26) (.seq (.ops [⟨some 4, .assign (.const (.bool false)), 4, none⟩]) (.ret)) (.skip))) (q_w_eqPack_c0)
@[simp] theorem q_w_eqPack_c1_run : type_of% (run_is q_w_eqPack_c1.eq_1) := run_is q_w_eqPack_c1.eq_1
def q_w_eqPack_c2 : QCode := .seq (.seq (.ops [⟨some 15, .fieldAddr 36 (.tmp 2) 2, 0, none⟩, ⟨some 16, .load 34 (.tmp 15), 34, none⟩, ⟨some 17, .fieldAddr 36 (.tmp 3) 2, 0, none⟩, ⟨some 18, .load 34 (.tmp 17), 34, none⟩, ⟨some 19, .call { callee := .value (.func 40), args := #[.tmp 16, .tmp 18], argTypes := #[34, 34] }, 4, none⟩, ⟨some 20, .unOp .not 4 (.tmp 19), 4, none⟩]) (.cond (.tmp 20) (.seq (.ops [⟨some 4, .assign (.const (.bool false)), 4, none⟩]) (.ret)) (.skip))) (q_w_eqPack_c1)
@[simp] theorem q_w_eqPack_c2_run : type_of% (run_is q_w_eqPack_c2.eq_1) := run_is q_w_eqPack_c2.eq_1
def q_w_eqPack_c3 : QCode := .seq (.seq (.ops [⟨some 10, .fieldAddr 36 (.tmp 2) 1, 0, none⟩, ⟨some 11, .load 9 (.tmp 10), 9, none⟩, ⟨some 12, .fieldAddr 36 (.tmp 3) 1, 0, none⟩, ⟨some 13, .load 9 (.tmp 12), 9, none⟩, ⟨some 14, .binOp .neq 9 (.tmp 11) (.tmp 13) 9, 4, none⟩]) (.cond (.tmp 14) (.seq (.ops [⟨some 4, .assign (.const (.bool false)), 4, none⟩]) (.ret)) (.skip))) (q_w_eqPack_c2)
@[simp] theorem q_w_eqPack_c3_run : type_of% (run_is q_w_eqPack_c3.eq_1) := run_is q_w_eqPack_c3.eq_1
@[simp] def q_w_eqPack : QFn := ⟨27, [(.tmp 4, 4)], .seq (.ops [⟨some 2, .box 36 (.tmp 0), 0, none⟩, ⟨some 3, .box 36 (.tmp 1), 0, none⟩, ⟨some 4, .assign (.const (.bool false)), 4, none⟩]) (.seq (.seq (.ops [⟨some 5, .fieldAddr 36 (.tmp 2) 0, 0, none⟩, ⟨some 6, .load 9 (.tmp 5), 9, none⟩, ⟨some 7, .fieldAddr 36 (.tmp 3) 0, 0, none⟩, ⟨some 8, .load 9 (.tmp 7), 9, none⟩, ⟨some 9, .binOp .neq 9 (.tmp 6) (.tmp 8) 9, 4, none⟩]) (.cond (.tmp 9) (.seq (.ops [⟨some 4, .assign (.const (.bool false)), 4, none⟩]) (.ret)) (.skip))) (q_w_eqPack_c3))⟩
theorem conv_w_eqPack : convF Tryd.f15 = some q_w_eqPack := by kernel_rfl
/-! 19 i_TreeOk -/
abbrev fn_i_TreeOk : FuncId := 19
def q_i_TreeOk_c0 : QCode := .ops [⟨some 42, .binOp .add 3 (.tmp 10) (.const (.int .i64 1)) 3, 3, none⟩, ⟨some 10, .move (.tmp 42), 3, none⟩]
@[simp] theorem q_i_TreeOk_c0_run : type_of% (run_is q_i_TreeOk_c0.eq_1) := run_is q_i_TreeOk_c0.eq_1
def q_i_TreeOk_c1 : QCode := .seq (.block 1 (.seq (.ops [⟨some 12, .move (.tmp 10), 3, none⟩, ⟨some 13, .indexAddr 22 (.tmp 8) (.tmp 10), 0, none⟩, ⟨some 14, .load 47 (.tmp 13), 47, none⟩, ⟨some 4, .alloc 47, 0, none⟩, ⟨some 3, .assign (.tmp 12), 3, none⟩, ⟨none, .store 47 (.tmp 4) (.tmp 14), 0, none⟩]) (.seq (.draw [] [⟨some 15, .load 47 (.tmp 4), 47, none⟩, ⟨some 16, .call { callee := .value (.func 47), args := #[.tmp 15], argTypes := #[47] }, 4, none⟩, ⟨some 17, .unOp .not 4 (.tmp 16), 4, none⟩, ⟨some 18, .move (.tmp 17), 4, none⟩, ⟨some 19, .move (.tmp 3), 3, some (18, false)⟩, ⟨some 20, .binOp .gtr 3 (.tmp 19) (.const (.int .i64 0)) 3, 4, some (18, false)⟩, ⟨some 21, .move (.tmp 20), 4, some (18, false)⟩, ⟨some 22, .move (.tmp 0), 22, some (21, true)⟩, ⟨some 23, .move (.tmp 3), 3, some (21, true)⟩, ⟨some 24, .binOp .sub 3 (.tmp 23) (.const (.int .i64 1)) 3, 3, some (21, true)⟩, ⟨some 25, .indexAddr 22 (.tmp 22) (.tmp 24), 0, some (21, true)⟩, ⟨some 26, .fieldAddr 47 (.tmp 25) 0, 0, some (21, true)⟩, ⟨some 27, .load 9 (.tmp 26), 9, some (21, true)⟩, ⟨some 28, .fieldAddr 47 (.tmp 4) 0, 0, some (21, true)⟩, ⟨some 29, .load 9 (.tmp 28), 9, some (21, true)⟩, ⟨some 30, .binOp .geq 9 (.tmp 27) (.tmp 29) 9, 4, some (21, true)⟩, ⟨some 31, .pick (.tmp 21) (.tmp 30) (.const (.bool false)), 4, some (18, false)⟩, ⟨some 32, .pick (.tmp 18) (.const (.bool true)) (.tmp 31), 4, none⟩, ⟨some 33, .move (.tmp 32), 4, none⟩, ⟨some 34, .move (.tmp 0), 22, some (33, false)⟩, ⟨some 35, .move (.tmp 3), 3, some (33, false)⟩, ⟨some 36, .slice 22 (.tmp 34) none (some (.tmp 35)) none, 22, some (33, false)⟩, ⟨some 37, .fieldAddr 47 (.tmp 4) 0, 0, some (33, false)⟩, ⟨some 38, .load 9 (.tmp 37), 9, some (33, false)⟩] [⟨some 39, .call { callee := .value (.func 48), args := #[.tmp 36, .tmp 38], argTypes := #[22, 9] }, 4, some (33, false)⟩, ⟨some 40, .unOp .not 4 (.tmp 39), 4, some (33, false)⟩, ⟨some 41, .pick (.tmp 33) (.const (.bool true)) (.tmp 40), 4, none⟩]) (.cond (.tmp 41) (.seq (.ops [⟨some 2, .assign (.const (.bool false)), 4, none⟩]) (.ret)) (.skip))))) (q_i_TreeOk_c0)
@[simp] theorem q_i_TreeOk_c1_run : type_of% (run_is q_i_TreeOk_c1.eq_1) := run_is q_i_TreeOk_c1.eq_1
def q_i_TreeOk_l0 : QCode := .seq (.ops [⟨some 11, .binOp .lss 3 (.tmp 10) (.tmp 9) 3, 0, none⟩]) (.seq (.cond (.tmp 11) (.skip) (.exit 0)) (q_i_TreeOk_c1))
@[simp] theorem q_i_TreeOk_l0_run : type_of% (run_is q_i_TreeOk_l0.eq_1) := run_is q_i_TreeOk_l0.eq_1
def q_i_TreeOk_c2 : QCode := .seq (.ops [⟨some 2, .assign (.const (.bool true)), 4, none⟩]) (.ret)
@[simp] theorem q_i_TreeOk_c2_run : type_of% (run_is q_i_TreeOk_c2.eq_1) := run_is q_i_TreeOk_c2.eq_1
def q_i_TreeOk_c3 : QCode := .seq (.seq (.ops [⟨some 8, .move (.tmp 0), 22, none⟩, ⟨some 9, .call { callee := .builtin .len, args := #[.tmp 8], argTypes := #[22] }, 3, none⟩, ⟨some 10, .move (.const (.int .i64 0)), 3, none⟩]) (.block 0 (.loop q_i_TreeOk_l0))) (q_i_TreeOk_c2)
@[simp] theorem q_i_TreeOk_c3_run : type_of% (run_is q_i_TreeOk_c3.eq_1) := run_is q_i_TreeOk_c3.eq_1
@[simp] def q_i_TreeOk : QFn := ⟨43, [(.tmp 2, 4)], .seq (.ops [⟨some 2, .assign (.const (.bool false)), 4, none⟩]) (.seq (.seq (.ops [⟨some 5, .move (.tmp 0), 22, none⟩, ⟨some 6, .call { callee := .builtin .len, args := #[.tmp 5], argTypes := #[22] }, 3, none⟩, ⟨some 7, .binOp .gtr 3 (.tmp 6) (.const (.int .i64 16)) 3, 4, none⟩]) (.cond (.tmp 7) (.seq (.ops [⟨some 2, .assign (.const (.bool false)), 4, none⟩]) (.ret)) (.skip))) (q_i_TreeOk_c3))⟩
theorem conv_i_TreeOk : convF Tryd.f19 = some q_i_TreeOk := by kernel_rfl
/-! 24 w_eqEntry -/
abbrev fn_w_eqEntry : FuncId := 24
def q_w_eqEntry_c0 : QCode := .seq (.ops [⟨some 4, .assign (.const (.bool true)), 4, none⟩]) (.ret)
@[simp] theorem q_w_eqEntry_c0_run : type_of% (run_is q_w_eqEntry_c0.eq_1) := run_is q_w_eqEntry_c0.eq_1
def q_w_eqEntry_c1 : QCode := .seq (.seq (.ops [⟨some 20, .fieldAddr 47 (.tmp 2) 3, 0, none⟩, ⟨some 21, .load 9 (.tmp 20), 9, none⟩, ⟨some 22, .fieldAddr 47 (.tmp 3) 3, 0, none⟩, ⟨some 23, .load 9 (.tmp 22), 9, none⟩, ⟨some 24, .binOp .neq 9 (.tmp 21) (.tmp 23) 9, 4, none⟩]) (.cond (.tmp 24) (.seq (.ops [⟨some 4, .assign (.const (.bool false)), 4, none⟩]) (.ret)) (.skip))) (q_w_eqEntry_c0)
@[simp] theorem q_w_eqEntry_c1_run : type_of% (run_is q_w_eqEntry_c1.eq_1) := run_is q_w_eqEntry_c1.eq_1
def q_w_eqEntry_c2 : QCode := .seq (.seq (.ops [⟨some 15, .fieldAddr 47 (.tmp 2) 2, 0, none⟩, ⟨some 16, .load 3 (.tmp 15), 3, none⟩, ⟨some 17, .fieldAddr 47 (.tmp 3) 2, 0, none⟩, ⟨some 18, .load 3 (.tmp 17), 3, none⟩, ⟨some 19, .binOp .neq 3 (.tmp 16) (.tmp 18) 3, 4, none⟩]) (.cond (.tmp 19) (.seq (.ops [⟨some 4, .assign (.const (.bool false)), 4, none⟩]) (.ret)) (.skip))) (q_w_eqEntry_c1)
@[simp] theorem q_w_eqEntry_c2_run : type_of% (run_is q_w_eqEntry_c2.eq_1) := run_is q_w_eqEntry_c2.eq_1
def q_w_eqEntry_c3 : QCode := .seq (.seq (.ops [⟨some 10, .fieldAddr 47 (.tmp 2) 1, 0, none⟩, ⟨some 11, .load 3 (.tmp 10), 3, none⟩, ⟨some 12, .fieldAddr 47 (.tmp 3) 1, 0, none⟩, ⟨some 13, .load 3 (.tmp 12), 3, none⟩, ⟨some 14, .binOp .neq 3 (.tmp 11) (.tmp 13) 3, 4, none⟩]) (.cond (.tmp 14) (.seq (.ops [⟨some 4, .assign (.const (.bool false)), 4, none⟩]) (.ret)) (.skip))) (q_w_eqEntry_c2)
@[simp] theorem q_w_eqEntry_c3_run : type_of% (run_is q_w_eqEntry_c3.eq_1) := run_is q_w_eqEntry_c3.eq_1
@[simp] def q_w_eqEntry : QFn := ⟨25, [(.tmp 4, 4)], .seq (.ops [⟨some 2, .box 47 (.tmp 0), 0, none⟩, ⟨some 3, .box 47 (.tmp 1), 0, none⟩, ⟨some 4, .assign (.const (.bool false)), 4, none⟩]) (.seq (.seq (.ops [⟨some 5, .fieldAddr 47 (.tmp 2) 0, 0, none⟩, ⟨some 6, .load 9 (.tmp 5), 9, none⟩, ⟨some 7, .fieldAddr 47 (.tmp 3) 0, 0, none⟩, ⟨some 8, .load 9 (.tmp 7), 9, none⟩, ⟨some 9, .binOp .neq 9 (.tmp 6) (.tmp 8) 9, 4, none⟩]) (.cond (.tmp 9) (.seq (.ops [⟨some 4, .assign (.const (.bool false)), 4, none⟩]) (.ret)) (.skip))) (q_w_eqEntry_c3))⟩
theorem conv_w_eqEntry : convF Tryd.f24 = some q_w_eqEntry := by kernel_rfl
/-! 25 w_markText -/
abbrev fn_w_markText : FuncId := 25
def q_w_markText_c0 : QCode := .block 1 (.seq (.ops [⟨some 8, .move (.tmp 0), 3, none⟩, ⟨some 9, .binOp .rem 3 (.tmp 8) (.const (.int .i64 10)) 3, 3, none⟩, ⟨some 10, .binOp .add 3 (.const (.int .i64 48)) (.tmp 9) 3, 3, none⟩, ⟨some 11, .convert 3 5 (.tmp 10), 5, none⟩, ⟨some 12, .buildSlice 40 1 #[(0, .tmp 11)], 40, none⟩, ⟨some 13, .convert 40 9 (.tmp 12), 9, none⟩, ⟨some 14, .move (.tmp 3), 9, none⟩, ⟨some 15, .binOp .add 9 (.tmp 13) (.tmp 14) 9, 9, none⟩, ⟨some 3, .assign (.tmp 15), 9, none⟩]) (.ops [⟨some 16, .move (.tmp 0), 3, none⟩, ⟨some 17, .binOp .quo 3 (.tmp 16) (.const (.int .i64 10)) 3, 3, none⟩, ⟨some 0, .assign (.tmp 17), 3, none⟩]))
@[simp] theorem q_w_markText_c0_run : type_of% (run_is q_w_markText_c0.eq_1) := run_is q_w_markText_c0.eq_1
def q_w_markText_l0 : QCode := .seq (.seq (.ops [⟨some 6, .move (.tmp 0), 3, none⟩, ⟨some 7, .binOp .gtr 3 (.tmp 6) (.const (.int .i64 0)) 3, 4, none⟩]) (.cond (.tmp 7) (.skip) (.exit 0))) (q_w_markText_c0)
@[simp] theorem q_w_markText_l0_run : type_of% (run_is q_w_markText_l0.eq_1) := run_is q_w_markText_l0.eq_1
def q_w_markText_c1 : QCode := .seq (.ops [⟨some 18, .move (.tmp 3), 9, none⟩, ⟨some 19, .binOp .add 9 (.const (.string { data := #[109] })) (.tmp 18) 9, 9, none⟩, ⟨some 2, .assign (.tmp 19), 9, none⟩]) (.ret)
@[simp] theorem q_w_markText_c1_run : type_of% (run_is q_w_markText_c1.eq_1) := run_is q_w_markText_c1.eq_1
def q_w_markText_c2 : QCode := .seq (.ops [⟨some 3, .assign (.const (.string { data := #[] })), 9, none⟩]) (.seq (.block 0 (.loop q_w_markText_l0)) (q_w_markText_c1))
@[simp] theorem q_w_markText_c2_run : type_of% (run_is q_w_markText_c2.eq_1) := run_is q_w_markText_c2.eq_1
@[simp] def q_w_markText : QFn := ⟨20, [(.tmp 2, 9)], .seq (.ops [⟨some 2, .assign (.const (.string { data := #[] })), 9, none⟩]) (.seq (.seq (.ops [⟨some 4, .move (.tmp 0), 3, none⟩, ⟨some 5, .binOp .leq 3 (.tmp 4) (.const (.int .i64 0)) 3, 4, none⟩]) (.cond (.tmp 5) (.seq (.ops [⟨some 2, .assign (.const (.string { data := #[109, 48] })), 9, none⟩]) (.ret)) (.skip))) (q_w_markText_c2))⟩
theorem conv_w_markText : convF Tryd.f25 = some q_w_markText := by kernel_rfl
/-! 26 w_szNeedS -/
abbrev fn_w_szNeedS : FuncId := 26
def q_w_szNeedS_c0 : QCode := .ops [⟨some 16, .move (.tmp 5), 3, none⟩, ⟨some 17, .binOp .add 3 (.tmp 16) (.const (.int .i64 1)) 3, 3, none⟩, ⟨some 5, .assign (.tmp 17), 3, none⟩]
@[simp] theorem q_w_szNeedS_c0_run : type_of% (run_is q_w_szNeedS_c0.eq_1) := run_is q_w_szNeedS_c0.eq_1
def q_w_szNeedS_c1 : QCode := .seq (.block 1 (.seq (.ops [⟨some 18, .move (.tmp 0), 28, none⟩, ⟨some 19, .move (.tmp 5), 3, none⟩, ⟨some 20, .indexAddr 28 (.tmp 18) (.tmp 19), 0, none⟩, ⟨some 21, .load 85 (.tmp 20), 85, none⟩, ⟨some 22, .move (.tmp 1), 3, none⟩, ⟨some 23, .call { callee := .value (.func 55), args := #[.tmp 21, .tmp 22], argTypes := #[85, 3] }, 3, none⟩, ⟨some 1, .assign (.tmp 23), 3, none⟩]) (.seq (.ops [⟨some 24, .move (.tmp 1), 3, none⟩, ⟨some 25, .binOp .lss 3 (.tmp 24) (.const (.int .i64 0)) 3, 4, none⟩]) (.cond (.tmp 25) (.seq (.ops [⟨some 4, .assign (.const (.int .i64 (-1))), 3, none⟩]) (.ret)) (.skip))))) (q_w_szNeedS_c0)
@[simp] theorem q_w_szNeedS_c1_run : type_of% (run_is q_w_szNeedS_c1.eq_1) := run_is q_w_szNeedS_c1.eq_1
def q_w_szNeedS_l0 : QCode := .seq (.seq (.ops [⟨some 12, .move (.tmp 5), 3, none⟩, ⟨some 13, .move (.tmp 0), 28, none⟩, ⟨some 14, .call { callee := .builtin .len, args := #[.tmp 13], argTypes := #[28] }, 3, none⟩, ⟨some 15, .binOp .lss 3 (.tmp 12) (.tmp 14) 3, 4, none⟩]) (.cond (.tmp 15) (.skip) (.exit 0))) (q_w_szNeedS_c1)
@[simp] theorem q_w_szNeedS_l0_run : type_of% (run_is q_w_szNeedS_l0.eq_1) := run_is q_w_szNeedS_l0.eq_1
def q_w_szNeedS_c2 : QCode := .seq (.ops [⟨some 26, .move (.tmp 1), 3, none⟩, ⟨some 4, .assign (.tmp 26), 3, none⟩]) (.ret)
@[simp] theorem q_w_szNeedS_c2_run : type_of% (run_is q_w_szNeedS_c2.eq_1) := run_is q_w_szNeedS_c2.eq_1
def q_w_szNeedS_c3 : QCode := .seq (.seq (.ops [⟨some 5, .assign (.const (.int .i64 0)), 3, none⟩]) (.block 0 (.loop q_w_szNeedS_l0))) (q_w_szNeedS_c2)
@[simp] theorem q_w_szNeedS_c3_run : type_of% (run_is q_w_szNeedS_c3.eq_1) := run_is q_w_szNeedS_c3.eq_1
@[simp] def q_w_szNeedS : QFn := ⟨27, [(.tmp 4, 3)], .seq (.ops [⟨some 4, .assign (.const (.int .i64 0)), 3, none⟩]) (.seq (.ops [⟨some 6, .move (.tmp 1), 3, none⟩, ⟨some 7, .move (.tmp 0), 28, none⟩, ⟨some 8, .call { callee := .builtin .len, args := #[.tmp 7], argTypes := #[28] }, 3, none⟩, ⟨some 9, .binOp .sub 3 (.tmp 6) (.tmp 8) 3, 3, none⟩, ⟨some 1, .assign (.tmp 9), 3, none⟩]) (.seq (.seq (.ops [⟨some 10, .move (.tmp 1), 3, none⟩, ⟨some 11, .binOp .lss 3 (.tmp 10) (.const (.int .i64 0)) 3, 4, none⟩]) (.cond (.tmp 11) (.seq (.ops [⟨some 4, .assign (.const (.int .i64 (-1))), 3, none⟩]) (.ret)) (.skip))) (q_w_szNeedS_c3)))⟩
theorem conv_w_szNeedS : convF Tryd.f26 = some q_w_szNeedS := by kernel_rfl
/-! 27 w_szEntryS -/
abbrev fn_w_szEntryS : FuncId := 27
def q_w_szEntryS_c0 : QCode := .ops [⟨some 16, .move (.tmp 5), 3, none⟩, ⟨some 17, .binOp .add 3 (.tmp 16) (.const (.int .i64 1)) 3, 3, none⟩, ⟨some 5, .assign (.tmp 17), 3, none⟩]
@[simp] theorem q_w_szEntryS_c0_run : type_of% (run_is q_w_szEntryS_c0.eq_1) := run_is q_w_szEntryS_c0.eq_1
def q_w_szEntryS_c1 : QCode := .seq (.block 1 (.seq (.ops [⟨some 18, .move (.tmp 0), 29, none⟩, ⟨some 19, .move (.tmp 5), 3, none⟩, ⟨some 20, .indexAddr 29 (.tmp 18) (.tmp 19), 0, none⟩, ⟨some 21, .load 87 (.tmp 20), 87, none⟩, ⟨some 22, .move (.tmp 1), 3, none⟩, ⟨some 23, .call { callee := .value (.func 56), args := #[.tmp 21, .tmp 22], argTypes := #[87, 3] }, 3, none⟩, ⟨some 1, .assign (.tmp 23), 3, none⟩]) (.seq (.ops [⟨some 24, .move (.tmp 1), 3, none⟩, ⟨some 25, .binOp .lss 3 (.tmp 24) (.const (.int .i64 0)) 3, 4, none⟩]) (.cond (.tmp 25) (.seq (.ops [⟨some 4, .assign (.const (.int .i64 (-1))), 3, none⟩]) (.ret)) (.skip))))) (q_w_szEntryS_c0)
@[simp] theorem q_w_szEntryS_c1_run : type_of% (run_is q_w_szEntryS_c1.eq_1) := run_is q_w_szEntryS_c1.eq_1
def q_w_szEntryS_l0 : QCode := .seq (.seq (.ops [⟨some 12, .move (.tmp 5), 3, none⟩, ⟨some 13, .move (.tmp 0), 29, none⟩, ⟨some 14, .call { callee := .builtin .len, args := #[.tmp 13], argTypes := #[29] }, 3, none⟩, ⟨some 15, .binOp .lss 3 (.tmp 12) (.tmp 14) 3, 4, none⟩]) (.cond (.tmp 15) (.skip) (.exit 0))) (q_w_szEntryS_c1)
@[simp] theorem q_w_szEntryS_l0_run : type_of% (run_is q_w_szEntryS_l0.eq_1) := run_is q_w_szEntryS_l0.eq_1
def q_w_szEntryS_c2 : QCode := .seq (.ops [⟨some 26, .move (.tmp 1), 3, none⟩, ⟨some 4, .assign (.tmp 26), 3, none⟩]) (.ret)
@[simp] theorem q_w_szEntryS_c2_run : type_of% (run_is q_w_szEntryS_c2.eq_1) := run_is q_w_szEntryS_c2.eq_1
def q_w_szEntryS_c3 : QCode := .seq (.seq (.ops [⟨some 5, .assign (.const (.int .i64 0)), 3, none⟩]) (.block 0 (.loop q_w_szEntryS_l0))) (q_w_szEntryS_c2)
@[simp] theorem q_w_szEntryS_c3_run : type_of% (run_is q_w_szEntryS_c3.eq_1) := run_is q_w_szEntryS_c3.eq_1
@[simp] def q_w_szEntryS : QFn := ⟨27, [(.tmp 4, 3)], .seq (.ops [⟨some 4, .assign (.const (.int .i64 0)), 3, none⟩]) (.seq (.ops [⟨some 6, .move (.tmp 1), 3, none⟩, ⟨some 7, .move (.tmp 0), 29, none⟩, ⟨some 8, .call { callee := .builtin .len, args := #[.tmp 7], argTypes := #[29] }, 3, none⟩, ⟨some 9, .binOp .sub 3 (.tmp 6) (.tmp 8) 3, 3, none⟩, ⟨some 1, .assign (.tmp 9), 3, none⟩]) (.seq (.seq (.ops [⟨some 10, .move (.tmp 1), 3, none⟩, ⟨some 11, .binOp .lss 3 (.tmp 10) (.const (.int .i64 0)) 3, 4, none⟩]) (.cond (.tmp 11) (.seq (.ops [⟨some 4, .assign (.const (.int .i64 (-1))), 3, none⟩]) (.ret)) (.skip))) (q_w_szEntryS_c3)))⟩
theorem conv_w_szEntryS : convF Tryd.f27 = some q_w_szEntryS := by kernel_rfl
/-! 28 s_l3Pack -/
abbrev fn_s_l3Pack : FuncId := 28
def q_s_l3Pack_c0 : QCode := .ops [⟨some 9, .move (.tmp 3), 3, none⟩, ⟨some 10, .binOp .add 3 (.tmp 9) (.const (.int .i64 1)) 3, 3, none⟩, ⟨some 3, .assign (.tmp 10), 3, none⟩]
@[simp] theorem q_s_l3Pack_c0_run : type_of% (run_is q_s_l3Pack_c0.eq_1) := run_is q_s_l3Pack_c0.eq_1
def q_s_l3Pack_c1 : QCode := .seq (.block 1 (.seq (.ops [⟨some 11, .move (.tmp 0), 9, none⟩, ⟨some 12, .move (.tmp 3), 3, none⟩, ⟨some 13, .index 9 (.tmp 11) (.tmp 12), 5, none⟩, ⟨some 14, .binOp .geq 5 (.tmp 13) (.const (.int .u8 97)) 5, 4, none⟩, ⟨some 15, .move (.tmp 14), 4, none⟩, ⟨some 16, .move (.tmp 0), 9, some (15, true)⟩, ⟨some 17, .move (.tmp 3), 3, some (15, true)⟩, ⟨some 18, .index 9 (.tmp 16) (.tmp 17), 5, some (15, true)⟩, ⟨some 19, .binOp .leq 5 (.tmp 18) (.const (.int .u8 122)) 5, 4, some (15, true)⟩, ⟨some 20, .pick (.tmp 15) (.tmp 19) (.const (.bool false)), 4, none⟩, ⟨some 4, .assign (.tmp 20), 4, none⟩]) (.seq (.ops [⟨some 21, .move (.tmp 4), 4, none⟩, ⟨some 22, .unOp .not 4 (.tmp 21), 4, none⟩, ⟨some 23, .move (.tmp 22), 4, none⟩, ⟨some 24, .move (.tmp 3), 3, some (23, true)⟩, ⟨some 25, .binOp .eql 3 (.tmp 24) (.const (.int .i64 0)) 3, 4, some (23, true)⟩, ⟨some 26, .move (.tmp 25), 4, some (23, true)⟩, ⟨some 27, .move (.tmp 0), 9, some (26, false)⟩, ⟨some 28, .move (.tmp 3), 3, some (26, false)⟩, ⟨some 29, .index 9 (.tmp 27) (.tmp 28), 5, some (26, false)⟩, ⟨some 30, .binOp .lss 5 (.tmp 29) (.const (.int .u8 48)) 5, 4, some (26, false)⟩, ⟨some 31, .pick (.tmp 26) (.const (.bool true)) (.tmp 30), 4, some (23, true)⟩, ⟨some 32, .move (.tmp 31), 4, some (23, true)⟩, ⟨some 33, .move (.tmp 0), 9, some (32, false)⟩, ⟨some 34, .move (.tmp 3), 3, some (32, false)⟩, ⟨some 35, .index 9 (.tmp 33) (.tmp 34), 5, some (32, false)⟩, ⟨some 36, .binOp .gtr 5 (.tmp 35) (.const (.int .u8 57)) 5, 4, some (32, false)⟩, ⟨some 37, .pick (.tmp 32) (.const (.bool true)) (.tmp 36), 4, some (23, true)⟩, ⟨some 38, .pick (.tmp 23) (.tmp 37) (.const (.bool false)), 4, none⟩]) (.cond (.tmp 38) (.seq (.ops [⟨some 2, .assign (.const (.bool false)), 4, none⟩]) (.ret)) (.skip))))) (q_s_l3Pack_c0)
@[simp] theorem q_s_l3Pack_c1_run : type_of% (run_is q_s_l3Pack_c1.eq_1) := run_is q_s_l3Pack_c1.eq_1
def q_s_l3Pack_l0 : QCode := .seq (.seq (.ops [⟨some 5, .move (.tmp 3), 3, none⟩, ⟨some 6, .move (.tmp 0), 9, none⟩, ⟨some 7, .call { callee := .builtin .len, args := #[.tmp 6], argTypes := #[9] }, 3, none⟩, ⟨some 8, .binOp .lss 3 (.tmp 5) (.tmp 7) 3, 4, none⟩]) (.cond (.tmp 8) (.skip) (.exit 0))) (q_s_l3Pack_c1)
@[simp] theorem q_s_l3Pack_l0_run : type_of% (run_is q_s_l3Pack_l0.eq_1) := run_is q_s_l3Pack_l0.eq_1
def q_s_l3Pack_c2 : QCode := .seq (.ops [⟨some 39, .move (.tmp 0), 9, none⟩, ⟨some 40, .call { callee := .builtin .len, args := #[.tmp 39], argTypes := #[9] }, 3, none⟩, ⟨some 41, .call { callee := .value (.func 57), args := #[.tmp 40, .const (.int .i64 1), .const (.int .i64 10)], argTypes := #[3, 3, 3] }, 4, none⟩, ⟨some 2, .assign (.tmp 41), 4, none⟩]) (.ret)
@[simp] theorem q_s_l3Pack_c2_run : type_of% (run_is q_s_l3Pack_c2.eq_1) := run_is q_s_l3Pack_c2.eq_1
@[simp] def q_s_l3Pack : QFn := ⟨42, [(.tmp 2, 4)], .seq (.ops [⟨some 2, .assign (.const (.bool false)), 4, none⟩]) (.seq (.seq (.ops [⟨some 3, .assign (.const (.int .i64 0)), 3, none⟩]) (.block 0 (.loop q_s_l3Pack_l0))) (q_s_l3Pack_c2))⟩
theorem conv_s_l3Pack : convF Tryd.f28 = some q_s_l3Pack := by kernel_rfl
/-! 29 s_VersionOk -/
abbrev fn_s_VersionOk : FuncId := 29
@[simp] def q_s_VersionOk : QFn := ⟨11, [(.tmp 2, 4)], .seq (.ops [⟨some 2, .assign (.const (.bool false)), 4, none⟩]) (.seq (.ops [⟨some 6, .move (.tmp 0), 9, none⟩, ⟨some 7, .call { callee := .value (.func 58), args := #[.tmp 6], argTypes := #[9] }, 90, none⟩, ⟨some 5, .move (.tmp 7), 90, none⟩, ⟨some 8, .extract (.tmp 5) 0, 89, none⟩, ⟨some 9, .extract (.tmp 5) 1, 4, none⟩, ⟨some 3, .assign (.tmp 8), 89, none⟩, ⟨some 4, .assign (.tmp 9), 4, none⟩]) (.seq (.ops [⟨some 10, .move (.tmp 4), 4, none⟩, ⟨some 2, .assign (.tmp 10), 4, none⟩]) (.ret)))⟩
theorem conv_s_VersionOk : convF Tryd.f29 = some q_s_VersionOk := by kernel_rfl
/-! 30 s_l7Needs -/
abbrev fn_s_l7Needs : FuncId := 30
def q_s_l7Needs_c0 : QCode := .ops [⟨some 13, .move (.tmp 6), 3, none⟩, ⟨some 14, .binOp .add 3 (.tmp 13) (.const (.int .i64 1)) 3, 3, none⟩, ⟨some 6, .assign (.tmp 14), 3, none⟩]
@[simp] theorem q_s_l7Needs_c0_run : type_of% (run_is q_s_l7Needs_c0.eq_1) := run_is q_s_l7Needs_c0.eq_1
def q_s_l7Needs_c1 : QCode := .seq (.block 1 (.ops [⟨some 15, .move (.tmp 5), 80, none⟩, ⟨some 16, .move (.tmp 1), 34, none⟩, ⟨some 17, .move (.tmp 6), 3, none⟩, ⟨some 18, .indexAddr 34 (.tmp 16) (.tmp 17), 0, none⟩, ⟨some 19, .fieldAddr 59 (.tmp 18) 0, 0, none⟩, ⟨some 20, .load 9 (.tmp 19), 9, none⟩, ⟨some 21, .buildSlice 80 1 #[(0, .tmp 20)], 80, none⟩, ⟨some 22, .call { callee := .builtin .append, args := #[.tmp 15, .tmp 21], argTypes := #[80, 80] }, 80, none⟩, ⟨some 5, .assign (.tmp 22), 80, none⟩])) (q_s_l7Needs_c0)
@[simp] theorem q_s_l7Needs_c1_run : type_of% (run_is q_s_l7Needs_c1.eq_1) := run_is q_s_l7Needs_c1.eq_1
def q_s_l7Needs_l0 : QCode := .seq (.seq (.ops [⟨some 9, .move (.tmp 6), 3, none⟩, ⟨some 10, .move (.tmp 1), 34, none⟩, ⟨some 11, .call { callee := .builtin .len, args := #[.tmp 10], argTypes := #[34] }, 3, none⟩, ⟨some 12, .binOp .lss 3 (.tmp 9) (.tmp 11) 3, 4, none⟩]) (.cond (.tmp 12) (.skip) (.exit 0))) (q_s_l7Needs_c1)
@[simp] theorem q_s_l7Needs_l0_run : type_of% (run_is q_s_l7Needs_l0.eq_1) := run_is q_s_l7Needs_l0.eq_1
def q_s_l7Needs_c2 : QCode := .seq (.ops [⟨some 23, .move (.tmp 1), 34, none⟩, ⟨some 24, .call { callee := .value (.func 59), args := #[.tmp 23], argTypes := #[34] }, 4, none⟩, ⟨some 25, .move (.tmp 24), 4, none⟩, ⟨some 26, .move (.tmp 5), 80, some (25, true)⟩, ⟨some 27, .call { callee := .value (.func 60), args := #[.tmp 26], argTypes := #[80] }, 4, some (25, true)⟩, ⟨some 28, .unOp .not 4 (.tmp 27), 4, some (25, true)⟩, ⟨some 29, .pick (.tmp 25) (.tmp 28) (.const (.bool false)), 4, none⟩, ⟨some 4, .assign (.tmp 29), 4, none⟩]) (.ret)
@[simp] theorem q_s_l7Needs_c2_run : type_of% (run_is q_s_l7Needs_c2.eq_1) := run_is q_s_l7Needs_c2.eq_1
@[simp] def q_s_l7Needs : QFn := ⟨30, [(.tmp 4, 4)], .seq (.ops [⟨some 4, .assign (.const (.bool false)), 4, none⟩]) (.seq (.ops [⟨some 7, .move (.tmp 0), 9, none⟩, ⟨some 8, .buildSlice 80 1 #[(0, .tmp 7)], 80, none⟩, ⟨some 5, .assign (.tmp 8), 80, none⟩]) (.seq (.seq (.ops [⟨some 6, .assign (.const (.int .i64 0)), 3, none⟩]) (.block 0 (.loop q_s_l7Needs_l0))) (q_s_l7Needs_c2)))⟩
theorem conv_s_l7Needs : convF Tryd.f30 = some q_s_l7Needs := by kernel_rfl
/-! 31 s_TreeOk -/
abbrev fn_s_TreeOk : FuncId := 31
def q_s_TreeOk_c0 : QCode := .ops [⟨some 9, .move (.tmp 3), 3, none⟩, ⟨some 10, .binOp .add 3 (.tmp 9) (.const (.int .i64 1)) 3, 3, none⟩, ⟨some 3, .assign (.tmp 10), 3, none⟩]
@[simp] theorem q_s_TreeOk_c0_run : type_of% (run_is q_s_TreeOk_c0.eq_1) := run_is q_s_TreeOk_c0.eq_1
def q_s_TreeOk_c1 : QCode := .seq (.block 1 (.seq (.draw [] [⟨some 11, .move (.tmp 0), 22, none⟩, ⟨some 12, .move (.tmp 3), 3, none⟩, ⟨some 13, .indexAddr 22 (.tmp 11) (.tmp 12), 0, none⟩, ⟨some 14, .load 47 (.tmp 13), 47, none⟩, ⟨some 15, .call { callee := .value (.func 61), args := #[.tmp 14], argTypes := #[47] }, 4, none⟩, ⟨some 16, .unOp .not 4 (.tmp 15), 4, none⟩, ⟨some 17, .move (.tmp 16), 4, none⟩, ⟨some 18, .move (.tmp 3), 3, some (17, false)⟩, ⟨some 19, .binOp .gtr 3 (.tmp 18) (.const (.int .i64 0)) 3, 4, some (17, false)⟩, ⟨some 20, .move (.tmp 19), 4, some (17, false)⟩, ⟨some 21, .move (.tmp 0), 22, some (20, true)⟩, ⟨some 22, .move (.tmp 3), 3, some (20, true)⟩, ⟨some 23, .binOp .sub 3 (.tmp 22) (.const (.int .i64 1)) 3, 3, some (20, true)⟩, ⟨some 24, .indexAddr 22 (.tmp 21) (.tmp 23), 0, some (20, true)⟩, ⟨some 25, .fieldAddr 47 (.tmp 24) 0, 0, some (20, true)⟩, ⟨some 26, .load 9 (.tmp 25), 9, some (20, true)⟩, ⟨some 27, .move (.tmp 0), 22, some (20, true)⟩, ⟨some 28, .move (.tmp 3), 3, some (20, true)⟩, ⟨some 29, .indexAddr 22 (.tmp 27) (.tmp 28), 0, some (20, true)⟩, ⟨some 30, .fieldAddr 47 (.tmp 29) 0, 0, some (20, true)⟩, ⟨some 31, .load 9 (.tmp 30), 9, some (20, true)⟩] [⟨some 32, .binOp .geq 9 (.tmp 26) (.tmp 31) 9, 4, some (20, true)⟩, ⟨some 33, .pick (.tmp 20) (.tmp 32) (.const (.bool false)), 4, some (17, false)⟩, ⟨some 34, .pick (.tmp 17) (.const (.bool true)) (.tmp 33), 4, none⟩]) (.cond (.tmp 34) (.seq (.ops [⟨some 2, .assign (.const (.bool false)), 4, none⟩]) (.ret)) (.skip)))) (q_s_TreeOk_c0)
@[simp] theorem q_s_TreeOk_c1_run : type_of% (run_is q_s_TreeOk_c1.eq_1) := run_is q_s_TreeOk_c1.eq_1
def q_s_TreeOk_l0 : QCode := .seq (.seq (.ops [⟨some 5, .move (.tmp 3), 3, none⟩, ⟨some 6, .move (.tmp 0), 22, none⟩, ⟨some 7, .call { callee := .builtin .len, args := #[.tmp 6], argTypes := #[22] }, 3, none⟩, ⟨some 8, .binOp .lss 3 (.tmp 5) (.tmp 7) 3, 4, none⟩]) (.cond (.tmp 8) (.skip) (.exit 0))) (q_s_TreeOk_c1)
@[simp] theorem q_s_TreeOk_l0_run : type_of% (run_is q_s_TreeOk_l0.eq_1) := run_is q_s_TreeOk_l0.eq_1
def q_s_TreeOk_c2 : QCode := .ops [⟨some 39, .move (.tmp 4), 3, none⟩, ⟨some 40, .binOp .add 3 (.tmp 39) (.const (.int .i64 1)) 3, 3, none⟩, ⟨some 4, .assign (.tmp 40), 3, none⟩]
@[simp] theorem q_s_TreeOk_c2_run : type_of% (run_is q_s_TreeOk_c2.eq_1) := run_is q_s_TreeOk_c2.eq_1
def q_s_TreeOk_c3 : QCode := .seq (.block 3 (.seq (.ops [⟨some 41, .move (.tmp 0), 22, none⟩, ⟨some 42, .move (.tmp 0), 22, none⟩, ⟨some 43, .move (.tmp 4), 3, none⟩, ⟨some 44, .indexAddr 22 (.tmp 42) (.tmp 43), 0, none⟩, ⟨some 45, .fieldAddr 47 (.tmp 44) 0, 0, none⟩, ⟨some 46, .load 9 (.tmp 45), 9, none⟩, ⟨some 47, .call { callee := .value (.func 63), args := #[.tmp 46], argTypes := #[9] }, 9, none⟩, ⟨some 48, .call { callee := .value (.func 62), args := #[.tmp 41, .tmp 47], argTypes := #[22, 9] }, 4, none⟩, ⟨some 49, .unOp .not 4 (.tmp 48), 4, none⟩]) (.cond (.tmp 49) (.seq (.ops [⟨some 2, .assign (.const (.bool false)), 4, none⟩]) (.ret)) (.skip)))) (q_s_TreeOk_c2)
@[simp] theorem q_s_TreeOk_c3_run : type_of% (run_is q_s_TreeOk_c3.eq_1) := run_is q_s_TreeOk_c3.eq_1
def q_s_TreeOk_l1 : QCode := .seq (.seq (.ops [⟨some 35, .move (.tmp 4), 3, none⟩, ⟨some 36, .move (.tmp 0), 22, none⟩, ⟨some 37, .call { callee := .builtin .len, args := #[.tmp 36], argTypes := #[22] }, 3, none⟩, ⟨some 38, .binOp .lss 3 (.tmp 35) (.tmp 37) 3, 4, none⟩]) (.cond (.tmp 38) (.skip) (.exit 2))) (q_s_TreeOk_c3)
@[simp] theorem q_s_TreeOk_l1_run : type_of% (run_is q_s_TreeOk_l1.eq_1) := run_is q_s_TreeOk_l1.eq_1
def q_s_TreeOk_c4 : QCode := .seq (.ops [⟨some 50, .move (.tmp 0), 22, none⟩, ⟨some 51, .call { callee := .builtin .len, args := #[.tmp 50], argTypes := #[22] }, 3, none⟩, ⟨some 52, .binOp .leq 3 (.tmp 51) (.const (.int .i64 16)) 3, 4, none⟩, ⟨some 2, .assign (.tmp 52), 4, none⟩]) (.ret)
@[simp] theorem q_s_TreeOk_c4_run : type_of% (run_is q_s_TreeOk_c4.eq_1) := run_is q_s_TreeOk_c4.eq_1
def q_s_TreeOk_c5 : QCode := .seq (.seq (.ops [⟨some 4, .assign (.const (.int .i64 0)), 3, none⟩]) (.block 2 (.loop q_s_TreeOk_l1))) (q_s_TreeOk_c4)
@[simp] theorem q_s_TreeOk_c5_run : type_of% (run_is q_s_TreeOk_c5.eq_1) := run_is q_s_TreeOk_c5.eq_1
@[simp] def q_s_TreeOk : QFn := ⟨53, [(.tmp 2, 4)], .seq (.ops [⟨some 2, .assign (.const (.bool false)), 4, none⟩]) (.seq (.seq (.ops [⟨some 3, .assign (.const (.int .i64 0)), 3, none⟩]) (.block 0 (.loop q_s_TreeOk_l0))) (q_s_TreeOk_c5))⟩
theorem conv_s_TreeOk : convF Tryd.f31 = some q_s_TreeOk := by kernel_rfl
/-! 32 w_toNeedS -/
abbrev fn_w_toNeedS : FuncId := 32
def q_w_toNeedS_c0 : QCode := .ops [⟨some 12, .move (.tmp 4), 3, none⟩, ⟨some 13, .binOp .add 3 (.tmp 12) (.const (.int .i64 1)) 3, 3, none⟩, ⟨some 4, .assign (.tmp 13), 3, none⟩]
@[simp] theorem q_w_toNeedS_c0_run : type_of% (run_is q_w_toNeedS_c0.eq_1) := run_is q_w_toNeedS_c0.eq_1
def q_w_toNeedS_c1 : QCode := .seq (.block 1 (.ops [⟨some 14, .move (.tmp 3), 34, none⟩, ⟨some 15, .move (.tmp 4), 3, none⟩, ⟨some 16, .move (.tmp 0), 28, none⟩, ⟨some 17, .move (.tmp 4), 3, none⟩, ⟨some 18, .indexAddr 28 (.tmp 16) (.tmp 17), 0, none⟩, ⟨some 19, .load 85 (.tmp 18), 85, none⟩, ⟨some 20, .call { callee := .value (.func 64), args := #[.tmp 19], argTypes := #[85] }, 59, none⟩, ⟨some 21, .indexAddr 34 (.tmp 14) (.tmp 15), 0, none⟩, ⟨none, .store 59 (.tmp 21) (.tmp 20), 0, none⟩])) (q_w_toNeedS_c0)
@[simp] theorem q_w_toNeedS_c1_run : type_of% (run_is q_w_toNeedS_c1.eq_1) := run_is q_w_toNeedS_c1.eq_1
def q_w_toNeedS_l0 : QCode := .seq (.seq (.ops [⟨some 8, .move (.tmp 4), 3, none⟩, ⟨some 9, .move (.tmp 0), 28, none⟩, ⟨some 10, .call { callee := .builtin .len, args := #[.tmp 9], argTypes := #[28] }, 3, none⟩, ⟨some 11, .binOp .lss 3 (.tmp 8) (.tmp 10) 3, 4, none⟩]) (.cond (.tmp 11) (.skip) (.exit 0))) (q_w_toNeedS_c1)
@[simp] theorem q_w_toNeedS_l0_run : type_of% (run_is q_w_toNeedS_l0.eq_1) := run_is q_w_toNeedS_l0.eq_1
def q_w_toNeedS_c2 : QCode := .seq (.ops [⟨some 22, .move (.tmp 3), 34, none⟩, ⟨some 2, .assign (.tmp 22), 34, none⟩]) (.ret)
@[simp] theorem q_w_toNeedS_c2_run : type_of% (run_is q_w_toNeedS_c2.eq_1) := run_is q_w_toNeedS_c2.eq_1
@[simp] def q_w_toNeedS : QFn := ⟨23, [(.tmp 2, 34)], .seq (.ops [⟨some 2, .assign (.const (.slice none 0 0)), 34, none⟩]) (.seq (.ops [⟨some 5, .move (.tmp 0), 28, none⟩, ⟨some 6, .call { callee := .builtin .len, args := #[.tmp 5], argTypes := #[28] }, 3, none⟩, ⟨some 7, .makeSlice 34 (.tmp 6) (.tmp 6), 34, none⟩, ⟨some 3, .assign (.tmp 7), 34, none⟩]) (.seq (.seq (.ops [⟨some 4, .assign (.const (.int .i64 0)), 3, none⟩]) (.block 0 (.loop q_w_toNeedS_l0))) (q_w_toNeedS_c2)))⟩
theorem conv_w_toNeedS : convF Tryd.f32 = some q_w_toNeedS := by kernel_rfl
/-! 33 w_toEntryS -/
abbrev fn_w_toEntryS : FuncId := 33
def q_w_toEntryS_c0 : QCode := .ops [⟨some 12, .move (.tmp 4), 3, none⟩, ⟨some 13, .binOp .add 3 (.tmp 12) (.const (.int .i64 1)) 3, 3, none⟩, ⟨some 4, .assign (.tmp 13), 3, none⟩]
@[simp] theorem q_w_toEntryS_c0_run : type_of% (run_is q_w_toEntryS_c0.eq_1) := run_is q_w_toEntryS_c0.eq_1
def q_w_toEntryS_c1 : QCode := .seq (.block 1 (.ops [⟨some 14, .move (.tmp 3), 22, none⟩, ⟨some 15, .move (.tmp 4), 3, none⟩, ⟨some 16, .move (.tmp 0), 29, none⟩, ⟨some 17, .move (.tmp 4), 3, none⟩, ⟨some 18, .indexAddr 29 (.tmp 16) (.tmp 17), 0, none⟩, ⟨some 19, .load 87 (.tmp 18), 87, none⟩, ⟨some 20, .call { callee := .value (.func 65), args := #[.tmp 19], argTypes := #[87] }, 47, none⟩, ⟨some 21, .indexAddr 22 (.tmp 14) (.tmp 15), 0, none⟩, ⟨none, .store 47 (.tmp 21) (.tmp 20), 0, none⟩])) (q_w_toEntryS_c0)
@[simp] theorem q_w_toEntryS_c1_run : type_of% (run_is q_w_toEntryS_c1.eq_1) := run_is q_w_toEntryS_c1.eq_1
def q_w_toEntryS_l0 : QCode := .seq (.seq (.ops [⟨some 8, .move (.tmp 4), 3, none⟩, ⟨some 9, .move (.tmp 0), 29, none⟩, ⟨some 10, .call { callee := .builtin .len, args := #[.tmp 9], argTypes := #[29] }, 3, none⟩, ⟨some 11, .binOp .lss 3 (.tmp 8) (.tmp 10) 3, 4, none⟩]) (.cond (.tmp 11) (.skip) (.exit 0))) (q_w_toEntryS_c1)
@[simp] theorem q_w_toEntryS_l0_run : type_of% (run_is q_w_toEntryS_l0.eq_1) := run_is q_w_toEntryS_l0.eq_1
def q_w_toEntryS_c2 : QCode := .seq (.ops [⟨some 22, .move (.tmp 3), 22, none⟩, ⟨some 2, .assign (.tmp 22), 22, none⟩]) (.ret)
@[simp] theorem q_w_toEntryS_c2_run : type_of% (run_is q_w_toEntryS_c2.eq_1) := run_is q_w_toEntryS_c2.eq_1
@[simp] def q_w_toEntryS : QFn := ⟨23, [(.tmp 2, 22)], .seq (.ops [⟨some 2, .assign (.const (.slice none 0 0)), 22, none⟩]) (.seq (.ops [⟨some 5, .move (.tmp 0), 29, none⟩, ⟨some 6, .call { callee := .builtin .len, args := #[.tmp 5], argTypes := #[29] }, 3, none⟩, ⟨some 7, .makeSlice 22 (.tmp 6) (.tmp 6), 22, none⟩, ⟨some 3, .assign (.tmp 7), 22, none⟩]) (.seq (.seq (.ops [⟨some 4, .assign (.const (.int .i64 0)), 3, none⟩]) (.block 0 (.loop q_w_toEntryS_l0))) (q_w_toEntryS_c2)))⟩
theorem conv_w_toEntryS : convF Tryd.f33 = some q_w_toEntryS := by kernel_rfl
/-! 34 i_packNameOk -/
abbrev fn_i_packNameOk : FuncId := 34
def q_i_packNameOk_c0 : QCode := .ops [⟨some 48, .binOp .add 3 (.tmp 23) (.const (.int .i64 1)) 3, 3, none⟩, ⟨some 23, .move (.tmp 48), 3, none⟩]
@[simp] theorem q_i_packNameOk_c0_run : type_of% (run_is q_i_packNameOk_c0.eq_1) := run_is q_i_packNameOk_c0.eq_1
def q_i_packNameOk_c1 : QCode := .seq (.block 1 (.seq (.ops [⟨some 25, .move (.tmp 23), 3, none⟩, ⟨some 3, .assign (.tmp 25), 3, none⟩]) (.seq (.ops [⟨some 26, .move (.tmp 0), 9, none⟩, ⟨some 27, .move (.tmp 3), 3, none⟩, ⟨some 28, .index 9 (.tmp 26) (.tmp 27), 5, none⟩, ⟨some 29, .binOp .lss 5 (.tmp 28) (.const (.int .u8 97)) 5, 4, none⟩, ⟨some 30, .move (.tmp 29), 4, none⟩, ⟨some 31, .move (.tmp 0), 9, some (30, false)⟩, ⟨some 32, .move (.tmp 3), 3, some (30, false)⟩, ⟨some 33, .index 9 (.tmp 31) (.tmp 32), 5, some (30, false)⟩, ⟨some 34, .binOp .gtr 5 (.tmp 33) (.const (.int .u8 122)) 5, 4, some (30, false)⟩, ⟨some 35, .pick (.tmp 30) (.const (.bool true)) (.tmp 34), 4, none⟩, ⟨some 36, .move (.tmp 35), 4, none⟩, ⟨some 37, .move (.tmp 0), 9, some (36, true)⟩, ⟨some 38, .move (.tmp 3), 3, some (36, true)⟩, ⟨some 39, .index 9 (.tmp 37) (.tmp 38), 5, some (36, true)⟩, ⟨some 40, .binOp .lss 5 (.tmp 39) (.const (.int .u8 48)) 5, 4, some (36, true)⟩, ⟨some 41, .move (.tmp 40), 4, some (36, true)⟩, ⟨some 42, .move (.tmp 0), 9, some (41, false)⟩, ⟨some 43, .move (.tmp 3), 3, some (41, false)⟩, ⟨some 44, .index 9 (.tmp 42) (.tmp 43), 5, some (41, false)⟩, ⟨some 45, .binOp .gtr 5 (.tmp 44) (.const (.int .u8 57)) 5, 4, some (41, false)⟩, ⟨some 46, .pick (.tmp 41) (.const (.bool true)) (.tmp 45), 4, some (36, true)⟩, ⟨some 47, .pick (.tmp 36) (.tmp 46) (.const (.bool false)), 4, none⟩]) (.cond (.tmp 47) (.seq (.ops [⟨some 2, .assign (.const (.bool false)), 4, none⟩]) (.ret)) (.skip))))) (q_i_packNameOk_c0)
@[simp] theorem q_i_packNameOk_c1_run : type_of% (run_is q_i_packNameOk_c1.eq_1) := run_is q_i_packNameOk_c1.eq_1
def q_i_packNameOk_l0 : QCode := .seq (.ops [⟨some 24, .binOp .lss 3 (.tmp 23) (.tmp 22) 3, 4, none⟩]) (.seq (.cond (.tmp 24) (.skip) (.exit 0)) (q_i_packNameOk_c1))
@[simp] theorem q_i_packNameOk_l0_run : type_of% (run_is q_i_packNameOk_l0.eq_1) := run_is q_i_packNameOk_l0.eq_1
def q_i_packNameOk_c2 : QCode := .seq (.ops [⟨some 2, .assign (.const (.bool true)), 4, none⟩]) (.ret)
@[simp] theorem q_i_packNameOk_c2_run : type_of% (run_is q_i_packNameOk_c2.eq_1) := run_is q_i_packNameOk_c2.eq_1
def q_i_packNameOk_c3 : QCode := .seq (.seq (.ops [⟨some 21, .move (.tmp 0), 9, none⟩, ⟨some 22, .call { callee := .builtin .len, args := #[.tmp 21], argTypes := #[9] }, 3, none⟩, ⟨some 23, .move (.const (.int .i64 0)), 3, none⟩]) (.block 0 (.loop q_i_packNameOk_l0))) (q_i_packNameOk_c2)
@[simp] theorem q_i_packNameOk_c3_run : type_of% (run_is q_i_packNameOk_c3.eq_1) := run_is q_i_packNameOk_c3.eq_1
@[simp] def q_i_packNameOk : QFn := ⟨49, [(.tmp 2, 4)], .seq (.ops [⟨some 2, .assign (.const (.bool false)), 4, none⟩]) (.seq (.seq (.ops [⟨some 4, .move (.tmp 0), 9, none⟩, ⟨some 5, .binOp .eql 9 (.tmp 4) (.const (.string { data := #[] })) 9, 4, none⟩, ⟨some 6, .move (.tmp 5), 4, none⟩, ⟨some 7, .move (.tmp 0), 9, some (6, false)⟩, ⟨some 8, .call { callee := .builtin .len, args := #[.tmp 7], argTypes := #[9] }, 3, some (6, false)⟩, ⟨some 9, .binOp .gtr 3 (.tmp 8) (.const (.int .i64 10)) 3, 4, some (6, false)⟩, ⟨some 10, .pick (.tmp 6) (.const (.bool true)) (.tmp 9), 4, none⟩, ⟨some 11, .move (.tmp 10), 4, none⟩, ⟨some 12, .move (.tmp 0), 9, some (11, false)⟩, ⟨some 13, .index 9 (.tmp 12) (.const (.int .i64 0)), 5, some (11, false)⟩, ⟨some 14, .binOp .lss 5 (.tmp 13) (.const (.int .u8 97)) 5, 4, some (11, false)⟩, ⟨some 15, .pick (.tmp 11) (.const (.bool true)) (.tmp 14), 4, none⟩, ⟨some 16, .move (.tmp 15), 4, none⟩, ⟨some 17, .move (.tmp 0), 9, some (16, false)⟩, ⟨some 18, .index 9 (.tmp 17) (.const (.int .i64 0)), 5, some (16, false)⟩, ⟨some 19, .binOp .gtr 5 (.tmp 18) (.const (.int .u8 122)) 5, 4, some (16, false)⟩, ⟨some 20, .pick (.tmp 16) (.const (.bool true)) (.tmp 19), 4, none⟩]) (.cond (.tmp 20) (.seq (.ops [⟨some 2, .assign (.const (.bool false)), 4, none⟩]) (.ret)) (.skip))) (q_i_packNameOk_c3))⟩
theorem conv_i_packNameOk : convF Tryd.f34 = some q_i_packNameOk := by kernel_rfl
/-! 35 i_VersionOk -/
abbrev fn_i_VersionOk : FuncId := 35
@[simp] def q_i_VersionOk : QFn := ⟨11, [(.tmp 2, 4)], .seq (.ops [⟨some 2, .assign (.const (.bool false)), 4, none⟩]) (.seq (.ops [⟨some 6, .move (.tmp 0), 9, none⟩, ⟨some 7, .call { callee := .value (.func 66), args := #[.tmp 6], argTypes := #[9] }, 98, none⟩, ⟨some 5, .move (.tmp 7), 98, none⟩, ⟨some 8, .extract (.tmp 5) 0, 97, none⟩, ⟨some 9, .extract (.tmp 5) 1, 4, none⟩, ⟨some 3, .assign (.tmp 8), 97, none⟩, ⟨some 4, .assign (.tmp 9), 4, none⟩]) (.seq (.ops [⟨some 10, .move (.tmp 4), 4, none⟩, ⟨some 2, .assign (.tmp 10), 4, none⟩]) (.ret)))⟩
theorem conv_i_VersionOk : convF Tryd.f35 = some q_i_VersionOk := by kernel_rfl
/-! 36 i_all_i_Need -/
abbrev fn_i_all_i_Need : FuncId := 36
def q_i_all_i_Need_c0 : QCode := .ops [⟨some 17, .binOp .add 3 (.tmp 9) (.const (.int .i64 1)) 3, 3, none⟩, ⟨some 9, .move (.tmp 17), 3, none⟩]
@[simp] theorem q_i_all_i_Need_c0_run : type_of% (run_is q_i_all_i_Need_c0.eq_1) := run_is q_i_all_i_Need_c0.eq_1
def q_i_all_i_Need_c1 : QCode := .seq (.block 1 (.seq (.ops [⟨some 11, .indexAddr 34 (.tmp 7) (.tmp 9), 0, none⟩, ⟨some 12, .load 59 (.tmp 11), 59, none⟩, ⟨some 6, .alloc 59, 0, none⟩, ⟨none, .store 59 (.tmp 6) (.tmp 12), 0, none⟩]) (.seq (.ops [⟨some 13, .move (.tmp 1), 60, none⟩, ⟨some 14, .load 59 (.tmp 6), 59, none⟩, ⟨some 15, .call { callee := .value (.tmp 13), args := #[.tmp 14], argTypes := #[59] }, 4, none⟩, ⟨some 16, .unOp .not 4 (.tmp 15), 4, none⟩]) (.cond (.tmp 16) (.seq (.ops [⟨some 4, .assign (.const (.bool false)), 4, none⟩]) (.ret)) (.skip))))) (q_i_all_i_Need_c0)
@[simp] theorem q_i_all_i_Need_c1_run : type_of% (run_is q_i_all_i_Need_c1.eq_1) := run_is q_i_all_i_Need_c1.eq_1
def q_i_all_i_Need_l0 : QCode := .seq (.ops [⟨some 10, .binOp .lss 3 (.tmp 9) (.tmp 8) 3, 0, none⟩]) (.seq (.cond (.tmp 10) (.skip) (.exit 0)) (q_i_all_i_Need_c1))
@[simp] theorem q_i_all_i_Need_l0_run : type_of% (run_is q_i_all_i_Need_l0.eq_1) := run_is q_i_all_i_Need_l0.eq_1
def q_i_all_i_Need_c2 : QCode := .seq (.ops [⟨some 4, .assign (.const (.bool true)), 4, none⟩]) (.ret)
@[simp] theorem q_i_all_i_Need_c2_run : type_of% (run_is q_i_all_i_Need_c2.eq_1) := run_is q_i_all_i_Need_c2.eq_1
@[simp] def q_i_all_i_Need : QFn := ⟨18, [(.tmp 4, 4)], .seq (.ops [⟨some 4, .assign (.const (.bool false)), 4, none⟩]) (.seq (.seq (.ops [⟨some 7, .move (.tmp 0), 34, none⟩, ⟨some 8, .call { callee := .builtin .len, args := #[.tmp 7], argTypes := #[34] }, 3, none⟩, ⟨some 9, .move (.const (.int .i64 0)), 3, none⟩]) (.block 0 (.loop q_i_all_i_Need_l0))) (q_i_all_i_Need_c2))⟩
theorem conv_i_all_i_Need : convF Tryd.f36 = some q_i_all_i_Need := by kernel_rfl
/-! 37 i_NeedOk -/
abbrev fn_i_NeedOk : FuncId := 37
def q_i_NeedOk_c0 : QCode := .cond (.tmp 14) (.seq (.ops [⟨some 18, .fieldAddr 59 (.tmp 1) 2, 0, none⟩, ⟨some 19, .load 9 (.tmp 18), 9, none⟩, ⟨some 20, .call { callee := .value (.func 35), args := #[.tmp 19], argTypes := #[9] }, 4, none⟩, ⟨some 2, .assign (.tmp 20), 4, none⟩]) (.ret)) (.skip)
@[simp] theorem q_i_NeedOk_c0_run : type_of% (run_is q_i_NeedOk_c0.eq_1) := run_is q_i_NeedOk_c0.eq_1
def q_i_NeedOk_c1 : QCode := .seq (.ops [⟨some 2, .assign (.const (.bool false)), 4, none⟩]) (.ret)
@[simp] theorem q_i_NeedOk_c1_run : type_of% (run_is q_i_NeedOk_c1.eq_1) := run_is q_i_NeedOk_c1.eq_1
def q_i_NeedOk_c2 : QCode := .seq (.seq (.ops [⟨some 7, .fieldAddr 59 (.tmp 1) 1, 0, none⟩, ⟨some 8, .load 3 (.tmp 7), 3, none⟩]) (.block 0 (.seq (.ops [⟨some 10, .binOp .eql 3 (.tmp 8) (.const (.int .i64 0)) 3, 4, none⟩, ⟨some 9, .assign (.tmp 10), 4, none⟩]) (.cond (.tmp 9) (.seq (.ops [⟨some 11, .fieldAddr 59 (.tmp 1) 2, 0, none⟩, ⟨some 12, .load 9 (.tmp 11), 9, none⟩, ⟨some 13, .binOp .eql 9 (.tmp 12) (.const (.string { data := #[] })) 9, 4, none⟩, ⟨some 2, .assign (.tmp 13), 4, none⟩]) (.ret)) (.seq (.seq (.ops [⟨some 15, .binOp .eql 3 (.tmp 8) (.const (.int .i64 1)) 3, 4, none⟩, ⟨some 14, .assign (.tmp 15), 4, none⟩]) (.cond (.tmp 14) (.skip) (.seq (.ops [⟨some 16, .binOp .eql 3 (.tmp 8) (.const (.int .i64 2)) 3, 4, none⟩, ⟨some 14, .assign (.tmp 16), 4, none⟩]) (.cond (.tmp 14) (.skip) (.ops [⟨some 17, .binOp .eql 3 (.tmp 8) (.const (.int .i64 3)) 3, 4, none⟩, ⟨some 14, .assign (.tmp 17), 4, none⟩]))))) (q_i_NeedOk_c0)))))) (q_i_NeedOk_c1)
@[simp] theorem q_i_NeedOk_c2_run : type_of% (run_is q_i_NeedOk_c2.eq_1) := run_is q_i_NeedOk_c2.eq_1
@[simp] def q_i_NeedOk : QFn := ⟨21, [(.tmp 2, 4)], .seq (.ops [⟨some 1, .box 59 (.tmp 0), 0, none⟩, ⟨some 2, .assign (.const (.bool false)), 4, none⟩]) (.seq (.seq (.ops [⟨some 3, .fieldAddr 59 (.tmp 1) 0, 0, none⟩, ⟨some 4, .load 9 (.tmp 3), 9, none⟩, ⟨some 5, .call { callee := .value (.func 34), args := #[.tmp 4], argTypes := #[9] }, 4, none⟩, ⟨some 6, .unOp .not 4 (.tmp 5), 4, none⟩]) (.cond (.tmp 6) (.seq (.ops [⟨some 2, .assign (.const (.bool false)), 4, none⟩]) (.ret)) (.skip))) (q_i_NeedOk_c2))⟩
theorem conv_i_NeedOk : convF Tryd.f37 = some q_i_NeedOk := by kernel_rfl
/-! 38 i_namesTwice_i_Need -/
abbrev fn_i_namesTwice_i_Need : FuncId := 38
def q_i_namesTwice_i_Need_c0 : QCode := .ops [⟨some 23, .move (.tmp 7), 80, none⟩, ⟨some 24, .move (.tmp 1), 62, none⟩, ⟨some 25, .load 59 (.tmp 9), 59, none⟩, ⟨some 26, .call { callee := .value (.tmp 24), args := #[.tmp 25], argTypes := #[59] }, 9, none⟩, ⟨some 27, .buildSlice 80 1 #[(0, .tmp 26)], 80, none⟩, ⟨some 28, .call { callee := .builtin .append, args := #[.tmp 23, .tmp 27], argTypes := #[80, 80] }, 80, none⟩, ⟨some 7, .assign (.tmp 28), 80, none⟩]
@[simp] theorem q_i_namesTwice_i_Need_c0_run : type_of% (run_is q_i_namesTwice_i_Need_c0.eq_1) := run_is q_i_namesTwice_i_Need_c0.eq_1
def q_i_namesTwice_i_Need_c1 : QCode := .ops [⟨some 29, .binOp .add 3 (.tmp 14) (.const (.int .i64 1)) 3, 3, none⟩, ⟨some 14, .move (.tmp 29), 3, none⟩]
@[simp] theorem q_i_namesTwice_i_Need_c1_run : type_of% (run_is q_i_namesTwice_i_Need_c1.eq_1) := run_is q_i_namesTwice_i_Need_c1.eq_1
def q_i_namesTwice_i_Need_c2 : QCode := .seq (.block 1 (.seq (.ops [⟨some 16, .indexAddr 34 (.tmp 12) (.tmp 14), 0, none⟩, ⟨some 17, .load 59 (.tmp 16), 59, none⟩, ⟨some 9, .alloc 59, 0, none⟩, ⟨none, .store 59 (.tmp 9) (.tmp 17), 0, none⟩]) (.seq (.seq (.ops [⟨some 18, .move (.tmp 7), 80, none⟩, ⟨some 19, .move (.tmp 1), 62, none⟩, ⟨some 20, .load 59 (.tmp 9), 59, none⟩, ⟨some 21, .call { callee := .value (.tmp 19), args := #[.tmp 20], argTypes := #[59] }, 9, none⟩, ⟨some 22, .call { callee := .value (.func 68), args := #[.tmp 18, .tmp 21], argTypes := #[80, 9] }, 4, none⟩]) (.cond (.tmp 22) (.seq (.ops [⟨some 6, .assign (.const (.bool true)), 4, none⟩]) (.ret)) (.skip))) (q_i_namesTwice_i_Need_c0)))) (q_i_namesTwice_i_Need_c1)
@[simp] theorem q_i_namesTwice_i_Need_c2_run : type_of% (run_is q_i_namesTwice_i_Need_c2.eq_1) := run_is q_i_namesTwice_i_Need_c2.eq_1
def q_i_namesTwice_i_Need_l0 : QCode := .seq (.ops [⟨some 15, .binOp .lss 3 (.tmp 14) (.tmp 13) 3, 0, none⟩]) (.seq (.cond (.tmp 15) (.skip) (.exit 0)) (q_i_namesTwice_i_Need_c2))
@[simp] theorem q_i_namesTwice_i_Need_l0_run : type_of% (run_is q_i_namesTwice_i_Need_l0.eq_1) := run_is q_i_namesTwice_i_Need_l0.eq_1
def q_i_namesTwice_i_Need_c3 : QCode := .seq (.ops [⟨some 6, .assign (.const (.bool false)), 4, none⟩]) (.ret)
@[simp] theorem q_i_namesTwice_i_Need_c3_run : type_of% (run_is q_i_namesTwice_i_Need_c3.eq_1) := run_is q_i_namesTwice_i_Need_c3.eq_1
@[simp] def q_i_namesTwice_i_Need : QFn := ⟨30, [(.tmp 6, 4)], .seq (.ops [⟨some 6, .assign (.const (.bool false)), 4, none⟩]) (.seq (.ops [⟨some 10, .move (.tmp 2), 80, none⟩, ⟨some 11, .call { callee := .value (.func 67), args := #[.tmp 10], argTypes := #[80] }, 80, none⟩, ⟨some 7, .assign (.tmp 11), 80, none⟩]) (.seq (.seq (.ops [⟨some 12, .move (.tmp 0), 34, none⟩, ⟨some 13, .call { callee := .builtin .len, args := #[.tmp 12], argTypes := #[34] }, 3, none⟩, ⟨some 14, .move (.const (.int .i64 0)), 3, none⟩]) (.block 0 (.loop q_i_namesTwice_i_Need_l0))) (q_i_namesTwice_i_Need_c3)))⟩
theorem conv_i_namesTwice_i_Need : convF Tryd.f38 = some q_i_namesTwice_i_Need := by kernel_rfl
/-! 39 i_needName -/
abbrev fn_i_needName : FuncId := 39
@[simp] def q_i_needName : QFn := ⟨5, [(.tmp 2, 9)], .seq (.ops [⟨some 1, .box 59 (.tmp 0), 0, none⟩, ⟨some 2, .assign (.const (.string { data := #[] })), 9, none⟩]) (.seq (.ops [⟨some 3, .fieldAddr 59 (.tmp 1) 0, 0, none⟩, ⟨some 4, .load 9 (.tmp 3), 9, none⟩, ⟨some 2, .assign (.tmp 4), 9, none⟩]) (.ret))⟩
theorem conv_i_needName : convF Tryd.f39 = some q_i_needName := by kernel_rfl
/-! 40 w_eqNeedS -/
abbrev fn_w_eqNeedS : FuncId := 40
def q_w_eqNeedS_c0 : QCode := .ops [⟨some 15, .move (.tmp 5), 3, none⟩, ⟨some 16, .binOp .add 3 (.tmp 15) (.const (.int .i64 1)) 3, 3, none⟩, ⟨some 5, .assign (.tmp 16), 3, none⟩]
@[simp] theorem q_w_eqNeedS_c0_run : type_of% (run_is q_w_eqNeedS_c0.eq_1) := run_is q_w_eqNeedS_c0.eq_1
def q_w_eqNeedS_c1 : QCode := .seq (.block 1 (.seq (.draw [] [⟨some 17, .move (.tmp 0), 34, none⟩, ⟨some 18, .move (.tmp 5), 3, none⟩, ⟨some 19, .indexAddr 34 (.tmp 17) (.tmp 18), 0, none⟩, ⟨some 20, .load 59 (.tmp 19), 59, none⟩, ⟨some 21, .move (.tmp 1), 34, none⟩, ⟨some 22, .move (.tmp 5), 3, none⟩, ⟨some 23, .indexAddr 34 (.tmp 21) (.tmp 22), 0, none⟩, ⟨some 24, .load 59 (.tmp 23), 59, none⟩] [⟨some 25, .call { callee := .value (.func 69), args := #[.tmp 20, .tmp 24], argTypes := #[59, 59] }, 4, none⟩, ⟨some 26, .unOp .not 4 (.tmp 25), 4, none⟩]) (.cond (.tmp 26) (.seq (.ops [⟨some 4, .assign (.const (.bool false)), 4, none⟩]) (.ret)) (.skip)))) (q_w_eqNeedS_c0)
@[simp] theorem q_w_eqNeedS_c1_run : type_of% (run_is q_w_eqNeedS_c1.eq_1) := run_is q_w_eqNeedS_c1.eq_1
def q_w_eqNeedS_l0 : QCode := .seq (.seq (.ops [⟨some 11, .move (.tmp 5), 3, none⟩, ⟨some 12, .move (.tmp 0), 34, none⟩, ⟨some 13, .call { callee := .builtin .len, args := #[.tmp 12], argTypes := #[34] }, 3, none⟩, ⟨some 14, .binOp .lss 3 (.tmp 11) (.tmp 13) 3, 4, none⟩]) (.cond (.tmp 14) (.skip) (.exit 0))) (q_w_eqNeedS_c1)
@[simp] theorem q_w_eqNeedS_l0_run : type_of% (run_is q_w_eqNeedS_l0.eq_1) := run_is q_w_eqNeedS_l0.eq_1
def q_w_eqNeedS_c2 : QCode := .seq (.ops [⟨some 4, .assign (.const (.bool true)), 4, none⟩]) (.ret)
@[simp] theorem q_w_eqNeedS_c2_run : type_of% (run_is q_w_eqNeedS_c2.eq_1) := run_is q_w_eqNeedS_c2.eq_1
def q_w_eqNeedS_c3 : QCode := .seq (.seq (.ops [⟨some 5, .assign (.const (.int .i64 0)), 3, none⟩]) (.block 0 (.loop q_w_eqNeedS_l0))) (q_w_eqNeedS_c2)
@[simp] theorem q_w_eqNeedS_c3_run : type_of% (run_is q_w_eqNeedS_c3.eq_1) := run_is q_w_eqNeedS_c3.eq_1
@[simp] def q_w_eqNeedS : QFn := ⟨27, [(.tmp 4, 4)], .seq (.ops [⟨some 4, .assign (.const (.bool false)), 4, none⟩]) (.seq (.seq (.ops [⟨some 6, .move (.tmp 0), 34, none⟩, ⟨some 7, .call { callee := .builtin .len, args := #[.tmp 6], argTypes := #[34] }, 3, none⟩, ⟨some 8, .move (.tmp 1), 34, none⟩, ⟨some 9, .call { callee := .builtin .len, args := #[.tmp 8], argTypes := #[34] }, 3, none⟩, ⟨some 10, .binOp .neq 3 (.tmp 7) (.tmp 9) 3, 4, none⟩]) (.cond (.tmp 10) (.seq (.ops [⟨some 4, .assign (.const (.bool false)), 4, none⟩]) (.ret)) (.skip))) (q_w_eqNeedS_c3))⟩
theorem conv_w_eqNeedS : convF Tryd.f40 = some q_w_eqNeedS := by kernel_rfl
/-! 47 i_entryOk -/
abbrev fn_i_entryOk : FuncId := 47
def q_i_entryOk_c0 : QCode := .seq (.ops [⟨some 2, .assign (.const (.bool false)), 4, none⟩]) (.ret)
@[simp] theorem q_i_entryOk_c0_run : type_of% (run_is q_i_entryOk_c0.eq_1) := run_is q_i_entryOk_c0.eq_1
def q_i_entryOk_c1 : QCode := .seq (.seq (.ops [⟨some 17, .fieldAddr 47 (.tmp 1) 1, 0, none⟩, ⟨some 18, .load 3 (.tmp 17), 3, none⟩]) (.block 0 (.seq (.ops [⟨some 20, .binOp .eql 3 (.tmp 18) (.const (.int .i64 1)) 3, 4, none⟩, ⟨some 19, .assign (.tmp 20), 4, none⟩]) (.cond (.tmp 19) (.seq (.ops [⟨some 21, .fieldAddr 47 (.tmp 1) 3, 0, none⟩, ⟨some 22, .load 9 (.tmp 21), 9, none⟩, ⟨some 23, .binOp .eql 9 (.tmp 22) (.const (.string { data := #[] })) 9, 4, none⟩, ⟨some 2, .assign (.tmp 23), 4, none⟩]) (.ret)) (.seq (.ops [⟨some 25, .binOp .eql 3 (.tmp 18) (.const (.int .i64 2)) 3, 4, none⟩, ⟨some 24, .assign (.tmp 25), 4, none⟩]) (.cond (.tmp 24) (.seq (.ops [⟨some 26, .fieldAddr 47 (.tmp 1) 3, 0, none⟩, ⟨some 27, .load 9 (.tmp 26), 9, none⟩, ⟨some 28, .call { callee := .value (.func 77), args := #[.tmp 27], argTypes := #[9] }, 4, none⟩, ⟨some 2, .assign (.tmp 28), 4, none⟩]) (.ret)) (.seq (.ops [⟨some 30, .binOp .eql 3 (.tmp 18) (.const (.int .i64 3)) 3, 4, none⟩, ⟨some 29, .assign (.tmp 30), 4, none⟩]) (.cond (.tmp 29) (.seq (.ops [⟨some 31, .fieldAddr 47 (.tmp 1) 2, 0, none⟩, ⟨some 32, .load 3 (.tmp 31), 3, none⟩, ⟨some 33, .binOp .eql 3 (.tmp 32) (.const (.int .i64 0)) 3, 4, none⟩, ⟨some 34, .move (.tmp 33), 4, none⟩, ⟨some 35, .fieldAddr 47 (.tmp 1) 3, 0, some (34, true)⟩, ⟨some 36, .load 9 (.tmp 35), 9, some (34, true)⟩, ⟨some 37, .call { callee := .value (.func 76), args := #[.tmp 36], argTypes := #[9] }, 4, some (34, true)⟩, ⟨some 38, .pick (.tmp 34) (.tmp 37) (.const (.bool false)), 4, none⟩, ⟨some 2, .assign (.tmp 38), 4, none⟩]) (.ret)) (.skip))))))))) (q_i_entryOk_c0)
@[simp] theorem q_i_entryOk_c1_run : type_of% (run_is q_i_entryOk_c1.eq_1) := run_is q_i_entryOk_c1.eq_1
@[simp] def q_i_entryOk : QFn := ⟨39, [(.tmp 2, 4)], .seq (.ops [⟨some 1, .box 47 (.tmp 0), 0, none⟩, ⟨some 2, .assign (.const (.bool false)), 4, none⟩]) (.seq (.seq (.ops [⟨some 3, .fieldAddr 47 (.tmp 1) 0, 0, none⟩, ⟨some 4, .load 9 (.tmp 3), 9, none⟩, ⟨some 5, .call { callee := .value (.func 76), args := #[.tmp 4], argTypes := #[9] }, 4, none⟩, ⟨some 6, .unOp .not 4 (.tmp 5), 4, none⟩, ⟨some 7, .move (.tmp 6), 4, none⟩, ⟨some 8, .fieldAddr 47 (.tmp 1) 2, 0, some (7, false)⟩, ⟨some 9, .load 3 (.tmp 8), 3, some (7, false)⟩, ⟨some 10, .binOp .lss 3 (.tmp 9) (.const (.int .i64 0)) 3, 4, some (7, false)⟩, ⟨some 11, .pick (.tmp 7) (.const (.bool true)) (.tmp 10), 4, none⟩, ⟨some 12, .move (.tmp 11), 4, none⟩, ⟨some 13, .fieldAddr 47 (.tmp 1) 2, 0, some (12, false)⟩, ⟨some 14, .load 3 (.tmp 13), 3, some (12, false)⟩, ⟨some 15, .binOp .gtr 3 (.tmp 14) (.const (.int .i64 7)) 3, 4, some (12, false)⟩, ⟨some 16, .pick (.tmp 12) (.const (.bool true)) (.tmp 15), 4, none⟩]) (.cond (.tmp 16) (.seq (.ops [⟨some 2, .assign (.const (.bool false)), 4, none⟩]) (.ret)) (.skip))) (q_i_entryOk_c1))⟩
theorem conv_i_entryOk : convF Tryd.f47 = some q_i_entryOk := by kernel_rfl
/-! 48 i_hasPlaceFor -/
abbrev fn_i_hasPlaceFor : FuncId := 48
def q_i_hasPlaceFor_c0 : QCode := .seq (.ops [⟨some 13, .move (.tmp 0), 22, none⟩, ⟨some 14, .move (.tmp 5), 9, none⟩, ⟨some 15, .call { callee := .value (.func 79), args := #[.tmp 13, .tmp 14], argTypes := #[22, 9] }, 82, none⟩, ⟨some 12, .move (.tmp 15), 82, none⟩, ⟨some 16, .extract (.tmp 12) 0, 3, none⟩, ⟨some 17, .extract (.tmp 12) 1, 4, none⟩, ⟨some 6, .assign (.tmp 16), 3, none⟩, ⟨some 7, .assign (.tmp 17), 4, none⟩]) (.seq (.ops [⟨some 18, .move (.tmp 7), 4, none⟩, ⟨some 19, .move (.tmp 18), 4, none⟩, ⟨some 20, .move (.tmp 0), 22, some (19, true)⟩, ⟨some 21, .move (.tmp 6), 3, some (19, true)⟩, ⟨some 22, .indexAddr 22 (.tmp 20) (.tmp 21), 0, some (19, true)⟩, ⟨some 23, .fieldAddr 47 (.tmp 22) 1, 0, some (19, true)⟩, ⟨some 24, .load 3 (.tmp 23), 3, some (19, true)⟩, ⟨some 25, .binOp .eql 3 (.tmp 24) (.const (.int .i64 1)) 3, 4, some (19, true)⟩, ⟨some 26, .pick (.tmp 19) (.tmp 25) (.const (.bool false)), 4, none⟩, ⟨some 4, .assign (.tmp 26), 4, none⟩]) (.ret))
@[simp] theorem q_i_hasPlaceFor_c0_run : type_of% (run_is q_i_hasPlaceFor_c0.eq_1) := run_is q_i_hasPlaceFor_c0.eq_1
@[simp] def q_i_hasPlaceFor : QFn := ⟨27, [(.tmp 4, 4)], .seq (.ops [⟨some 4, .assign (.const (.bool false)), 4, none⟩]) (.seq (.ops [⟨some 8, .move (.tmp 1), 9, none⟩, ⟨some 9, .call { callee := .value (.func 78), args := #[.tmp 8], argTypes := #[9] }, 9, none⟩, ⟨some 5, .assign (.tmp 9), 9, none⟩]) (.seq (.seq (.ops [⟨some 10, .move (.tmp 5), 9, none⟩, ⟨some 11, .binOp .eql 9 (.tmp 10) (.const (.string { data := #[] })) 9, 4, none⟩]) (.cond (.tmp 11) (.seq (.ops [⟨some 4, .assign (.const (.bool true)), 4, none⟩]) (.ret)) (.skip))) (q_i_hasPlaceFor_c0)))⟩
theorem conv_i_hasPlaceFor : convF Tryd.f48 = some q_i_hasPlaceFor := by kernel_rfl
/-! 54 i_number -/
abbrev fn_i_number : FuncId := 54
def q_i_number_c0 : QCode := .ops [⟨some 40, .move (.tmp 6), 3, none⟩, ⟨some 41, .binOp .mul 3 (.tmp 40) (.const (.int .i64 10)) 3, 3, none⟩, ⟨some 42, .move (.tmp 0), 9, none⟩, ⟨some 43, .move (.tmp 7), 3, none⟩, ⟨some 44, .index 9 (.tmp 42) (.tmp 43), 5, none⟩, ⟨some 45, .binOp .sub 5 (.tmp 44) (.const (.int .u8 48)) 5, 5, none⟩, ⟨some 46, .convert 5 3 (.tmp 45), 3, none⟩, ⟨some 47, .binOp .add 3 (.tmp 41) (.tmp 46) 3, 3, none⟩, ⟨some 6, .assign (.tmp 47), 3, none⟩]
@[simp] theorem q_i_number_c0_run : type_of% (run_is q_i_number_c0.eq_1) := run_is q_i_number_c0.eq_1
def q_i_number_c1 : QCode := .ops [⟨some 48, .binOp .add 3 (.tmp 27) (.const (.int .i64 1)) 3, 3, none⟩, ⟨some 27, .move (.tmp 48), 3, none⟩]
@[simp] theorem q_i_number_c1_run : type_of% (run_is q_i_number_c1.eq_1) := run_is q_i_number_c1.eq_1
def q_i_number_c2 : QCode := .seq (.block 1 (.seq (.ops [⟨some 29, .move (.tmp 27), 3, none⟩, ⟨some 7, .assign (.tmp 29), 3, none⟩]) (.seq (.seq (.ops [⟨some 30, .move (.tmp 0), 9, none⟩, ⟨some 31, .move (.tmp 7), 3, none⟩, ⟨some 32, .index 9 (.tmp 30) (.tmp 31), 5, none⟩, ⟨some 33, .binOp .lss 5 (.tmp 32) (.const (.int .u8 48)) 5, 4, none⟩, ⟨some 34, .move (.tmp 33), 4, none⟩, ⟨some 35, .move (.tmp 0), 9, some (34, false)⟩, ⟨some 36, .move (.tmp 7), 3, some (34, false)⟩, ⟨some 37, .index 9 (.tmp 35) (.tmp 36), 5, some (34, false)⟩, ⟨some 38, .binOp .gtr 5 (.tmp 37) (.const (.int .u8 57)) 5, 4, some (34, false)⟩, ⟨some 39, .pick (.tmp 34) (.const (.bool true)) (.tmp 38), 4, none⟩]) (.cond (.tmp 39) (.seq (.ops [⟨some 4, .assign (.const (.int .i64 0)), 3, none⟩, ⟨some 5, .assign (.const (.bool false)), 4, none⟩]) (.ret)) (.skip))) (q_i_number_c0)))) (q_i_number_c1)
@[simp] theorem q_i_number_c2_run : type_of% (run_is q_i_number_c2.eq_1) := run_is q_i_number_c2.eq_1
def q_i_number_l0 : QCode := .seq (.ops [⟨some 28, .binOp .lss 3 (.tmp 27) (.tmp 26) 3, 4, none⟩]) (.seq (.cond (.tmp 28) (.skip) (.exit 0)) (q_i_number_c2))
@[simp] theorem q_i_number_l0_run : type_of% (run_is q_i_number_l0.eq_1) := run_is q_i_number_l0.eq_1
def q_i_number_c3 : QCode := .seq (.ops [⟨some 52, .move (.tmp 6), 3, none⟩, ⟨some 4, .assign (.tmp 52), 3, none⟩, ⟨some 5, .assign (.const (.bool true)), 4, none⟩]) (.ret)
@[simp] theorem q_i_number_c3_run : type_of% (run_is q_i_number_c3.eq_1) := run_is q_i_number_c3.eq_1
def q_i_number_c4 : QCode := .seq (.seq (.ops [⟨some 49, .move (.tmp 6), 3, none⟩, ⟨some 50, .move (.tmp 1), 3, none⟩, ⟨some 51, .binOp .gtr 3 (.tmp 49) (.tmp 50) 3, 4, none⟩]) (.cond (.tmp 51) (.seq (.ops [⟨some 4, .assign (.const (.int .i64 0)), 3, none⟩, ⟨some 5, .assign (.const (.bool false)), 4, none⟩]) (.ret)) (.skip))) (q_i_number_c3)
@[simp] theorem q_i_number_c4_run : type_of% (run_is q_i_number_c4.eq_1) := run_is q_i_number_c4.eq_1
def q_i_number_c5 : QCode := .seq (.ops [⟨some 6, .assign (.const (.int .i64 0)), 3, none⟩]) (.seq (.seq (.ops [⟨some 25, .move (.tmp 0), 9, none⟩, ⟨some 26, .call { callee := .builtin .len, args := #[.tmp 25], argTypes := #[9] }, 3, none⟩, ⟨some 27, .move (.const (.int .i64 0)), 3, none⟩]) (.block 0 (.loop q_i_number_l0))) (q_i_number_c4))
@[simp] theorem q_i_number_c5_run : type_of% (run_is q_i_number_c5.eq_1) := run_is q_i_number_c5.eq_1
@[simp] def q_i_number : QFn := ⟨53, [(.tmp 4, 3), (.tmp 5, 4)], .seq (.ops [⟨some 4, .assign (.const (.int .i64 0)), 3, none⟩, ⟨some 5, .assign (.const (.bool false)), 4, none⟩]) (.seq (.seq (.ops [⟨some 8, .move (.tmp 0), 9, none⟩, ⟨some 9, .binOp .eql 9 (.tmp 8) (.const (.string { data := #[] })) 9, 4, none⟩, ⟨some 10, .move (.tmp 9), 4, none⟩, ⟨some 11, .move (.tmp 0), 9, some (10, false)⟩, ⟨some 12, .call { callee := .builtin .len, args := #[.tmp 11], argTypes := #[9] }, 3, some (10, false)⟩, ⟨some 13, .binOp .gtr 3 (.tmp 12) (.const (.int .i64 9)) 3, 4, some (10, false)⟩, ⟨some 14, .pick (.tmp 10) (.const (.bool true)) (.tmp 13), 4, none⟩, ⟨some 15, .move (.tmp 14), 4, none⟩, ⟨some 16, .move (.tmp 0), 9, some (15, false)⟩, ⟨some 17, .call { callee := .builtin .len, args := #[.tmp 16], argTypes := #[9] }, 3, some (15, false)⟩, ⟨some 18, .binOp .gtr 3 (.tmp 17) (.const (.int .i64 1)) 3, 4, some (15, false)⟩, ⟨some 19, .move (.tmp 18), 4, some (15, false)⟩, ⟨some 20, .move (.tmp 0), 9, some (19, true)⟩, ⟨some 21, .index 9 (.tmp 20) (.const (.int .i64 0)), 5, some (19, true)⟩, ⟨some 22, .binOp .eql 5 (.tmp 21) (.const (.int .u8 48)) 5, 4, some (19, true)⟩, ⟨some 23, .pick (.tmp 19) (.tmp 22) (.const (.bool false)), 4, some (15, false)⟩, ⟨some 24, .pick (.tmp 15) (.const (.bool true)) (.tmp 23), 4, none⟩]) (.cond (.tmp 24) (.seq (.ops [⟨some 4, .assign (.const (.int .i64 0)), 3, none⟩, ⟨some 5, .assign (.const (.bool false)), 4, none⟩]) (.ret)) (.skip))) (q_i_number_c5))⟩
theorem conv_i_number : convF Tryd.f54 = some q_i_number := by kernel_rfl
/-! 55 w_szNeed -/
abbrev fn_w_szNeed : FuncId := 55
def q_w_szNeed_c0 : QCode := .seq (.ops [⟨some 19, .move (.tmp 1), 3, none⟩, ⟨some 4, .assign (.tmp 19), 3, none⟩]) (.ret)
@[simp] theorem q_w_szNeed_c0_run : type_of% (run_is q_w_szNeed_c0.eq_1) := run_is q_w_szNeed_c0.eq_1
def q_w_szNeed_c1 : QCode := .seq (.ops [⟨some 12, .move (.tmp 1), 3, none⟩, ⟨some 13, .fieldAddr 85 (.tmp 2) 2, 0, none⟩, ⟨some 14, .load 9 (.tmp 13), 9, none⟩, ⟨some 15, .call { callee := .builtin .len, args := #[.tmp 14], argTypes := #[9] }, 3, none⟩, ⟨some 16, .binOp .sub 3 (.tmp 12) (.tmp 15) 3, 3, none⟩, ⟨some 1, .assign (.tmp 16), 3, none⟩]) (.seq (.seq (.ops [⟨some 17, .move (.tmp 1), 3, none⟩, ⟨some 18, .binOp .lss 3 (.tmp 17) (.const (.int .i64 0)) 3, 4, none⟩]) (.cond (.tmp 18) (.seq (.ops [⟨some 4, .assign (.const (.int .i64 (-1))), 3, none⟩]) (.ret)) (.skip))) (q_w_szNeed_c0))
@[simp] theorem q_w_szNeed_c1_run : type_of% (run_is q_w_szNeed_c1.eq_1) := run_is q_w_szNeed_c1.eq_1
@[simp] def q_w_szNeed : QFn := ⟨20, [(.tmp 4, 3)], .seq (.ops [⟨some 2, .box 85 (.tmp 0), 0, none⟩, ⟨some 4, .assign (.const (.int .i64 0)), 3, none⟩]) (.seq (.ops [⟨some 5, .move (.tmp 1), 3, none⟩, ⟨some 6, .fieldAddr 85 (.tmp 2) 0, 0, none⟩, ⟨some 7, .load 9 (.tmp 6), 9, none⟩, ⟨some 8, .call { callee := .builtin .len, args := #[.tmp 7], argTypes := #[9] }, 3, none⟩, ⟨some 9, .binOp .sub 3 (.tmp 5) (.tmp 8) 3, 3, none⟩, ⟨some 1, .assign (.tmp 9), 3, none⟩]) (.seq (.seq (.ops [⟨some 10, .move (.tmp 1), 3, none⟩, ⟨some 11, .binOp .lss 3 (.tmp 10) (.const (.int .i64 0)) 3, 4, none⟩]) (.cond (.tmp 11) (.seq (.ops [⟨some 4, .assign (.const (.int .i64 (-1))), 3, none⟩]) (.ret)) (.skip))) (q_w_szNeed_c1)))⟩
theorem conv_w_szNeed : convF Tryd.f55 = some q_w_szNeed := by kernel_rfl
/-! 56 w_szEntry -/
abbrev fn_w_szEntry : FuncId := 56
def q_w_szEntry_c0 : QCode := .seq (.ops [⟨some 19, .move (.tmp 1), 3, none⟩, ⟨some 4, .assign (.tmp 19), 3, none⟩]) (.ret)
@[simp] theorem q_w_szEntry_c0_run : type_of% (run_is q_w_szEntry_c0.eq_1) := run_is q_w_szEntry_c0.eq_1
def q_w_szEntry_c1 : QCode := .seq (.ops [⟨some 12, .move (.tmp 1), 3, none⟩, ⟨some 13, .fieldAddr 87 (.tmp 2) 3, 0, none⟩, ⟨some 14, .load 9 (.tmp 13), 9, none⟩, ⟨some 15, .call { callee := .builtin .len, args := #[.tmp 14], argTypes := #[9] }, 3, none⟩, ⟨some 16, .binOp .sub 3 (.tmp 12) (.tmp 15) 3, 3, none⟩, ⟨some 1, .assign (.tmp 16), 3, none⟩]) (.seq (.seq (.ops [⟨some 17, .move (.tmp 1), 3, none⟩, ⟨some 18, .binOp .lss 3 (.tmp 17) (.const (.int .i64 0)) 3, 4, none⟩]) (.cond (.tmp 18) (.seq (.ops [⟨some 4, .assign (.const (.int .i64 (-1))), 3, none⟩]) (.ret)) (.skip))) (q_w_szEntry_c0))
@[simp] theorem q_w_szEntry_c1_run : type_of% (run_is q_w_szEntry_c1.eq_1) := run_is q_w_szEntry_c1.eq_1
@[simp] def q_w_szEntry : QFn := ⟨20, [(.tmp 4, 3)], .seq (.ops [⟨some 2, .box 87 (.tmp 0), 0, none⟩, ⟨some 4, .assign (.const (.int .i64 0)), 3, none⟩]) (.seq (.ops [⟨some 5, .move (.tmp 1), 3, none⟩, ⟨some 6, .fieldAddr 87 (.tmp 2) 0, 0, none⟩, ⟨some 7, .load 9 (.tmp 6), 9, none⟩, ⟨some 8, .call { callee := .builtin .len, args := #[.tmp 7], argTypes := #[9] }, 3, none⟩, ⟨some 9, .binOp .sub 3 (.tmp 5) (.tmp 8) 3, 3, none⟩, ⟨some 1, .assign (.tmp 9), 3, none⟩]) (.seq (.seq (.ops [⟨some 10, .move (.tmp 1), 3, none⟩, ⟨some 11, .binOp .lss 3 (.tmp 10) (.const (.int .i64 0)) 3, 4, none⟩]) (.cond (.tmp 11) (.seq (.ops [⟨some 4, .assign (.const (.int .i64 (-1))), 3, none⟩]) (.ret)) (.skip))) (q_w_szEntry_c1)))⟩
theorem conv_w_szEntry : convF Tryd.f56 = some q_w_szEntry := by kernel_rfl
/-! 57 s_l1In -/
abbrev fn_s_l1In : FuncId := 57
@[simp] def q_s_l1In : QFn := ⟨15, [(.tmp 6, 4)], .seq (.ops [⟨some 6, .assign (.const (.bool false)), 4, none⟩]) (.seq (.ops [⟨some 7, .move (.tmp 0), 3, none⟩, ⟨some 8, .move (.tmp 1), 3, none⟩, ⟨some 9, .binOp .geq 3 (.tmp 7) (.tmp 8) 3, 4, none⟩, ⟨some 10, .move (.tmp 9), 4, none⟩, ⟨some 11, .move (.tmp 0), 3, some (10, true)⟩, ⟨some 12, .move (.tmp 2), 3, some (10, true)⟩, ⟨some 13, .binOp .leq 3 (.tmp 11) (.tmp 12) 3, 4, some (10, true)⟩, ⟨some 14, .pick (.tmp 10) (.tmp 13) (.const (.bool false)), 4, none⟩, ⟨some 6, .assign (.tmp 14), 4, none⟩]) (.ret))⟩
theorem conv_s_l1In : convF Tryd.f57 = some q_s_l1In := by kernel_rfl
/-! 58 s_l3Parts -/
abbrev fn_s_l3Parts : FuncId := 58
def q_s_l3Parts_c0 : QCode := .ops [⟨some 29, .move (.tmp 5), 89, none⟩, ⟨some 30, .move (.tmp 7), 3, none⟩, ⟨some 31, .buildSlice 89 1 #[(0, .tmp 30)], 89, none⟩, ⟨some 32, .call { callee := .builtin .append, args := #[.tmp 29, .tmp 31], argTypes := #[89, 89] }, 89, none⟩, ⟨some 5, .assign (.tmp 32), 89, none⟩]
@[simp] theorem q_s_l3Parts_c0_run : type_of% (run_is q_s_l3Parts_c0.eq_1) := run_is q_s_l3Parts_c0.eq_1
def q_s_l3Parts_c1 : QCode := .ops [⟨some 18, .move (.tmp 6), 3, none⟩, ⟨some 19, .binOp .add 3 (.tmp 18) (.const (.int .i64 1)) 3, 3, none⟩, ⟨some 6, .assign (.tmp 19), 3, none⟩]
@[simp] theorem q_s_l3Parts_c1_run : type_of% (run_is q_s_l3Parts_c1.eq_1) := run_is q_s_l3Parts_c1.eq_1
def q_s_l3Parts_c2 : QCode := .seq (.block 1 (.seq (.ops [⟨some 20, .move (.tmp 4), 80, none⟩, ⟨some 21, .move (.tmp 6), 3, none⟩, ⟨some 22, .indexAddr 80 (.tmp 20) (.tmp 21), 0, none⟩, ⟨some 23, .load 9 (.tmp 22), 9, none⟩, ⟨some 24, .call { callee := .value (.func 85), args := #[.tmp 23], argTypes := #[9] }, 3, none⟩, ⟨some 7, .assign (.tmp 24), 3, none⟩]) (.seq (.seq (.ops [⟨some 25, .move (.tmp 7), 3, none⟩, ⟨some 26, .call { callee := .value (.func 57), args := #[.tmp 25, .const (.int .i64 0), .const (.int .i64 999)], argTypes := #[3, 3, 3] }, 4, none⟩, ⟨some 27, .unOp .not 4 (.tmp 26), 4, none⟩]) (.cond (.tmp 27) (.seq (.ops [⟨some 28, .move (.tmp 5), 89, none⟩, ⟨some 2, .assign (.tmp 28), 89, none⟩, ⟨some 3, .assign (.const (.bool false)), 4, none⟩]) (.ret)) (.skip))) (q_s_l3Parts_c0)))) (q_s_l3Parts_c1)
@[simp] theorem q_s_l3Parts_c2_run : type_of% (run_is q_s_l3Parts_c2.eq_1) := run_is q_s_l3Parts_c2.eq_1
def q_s_l3Parts_l0 : QCode := .seq (.seq (.ops [⟨some 14, .move (.tmp 6), 3, none⟩, ⟨some 15, .move (.tmp 4), 80, none⟩, ⟨some 16, .call { callee := .builtin .len, args := #[.tmp 15], argTypes := #[80] }, 3, none⟩, ⟨some 17, .binOp .lss 3 (.tmp 14) (.tmp 16) 3, 4, none⟩]) (.cond (.tmp 17) (.skip) (.exit 0))) (q_s_l3Parts_c2)
@[simp] theorem q_s_l3Parts_l0_run : type_of% (run_is q_s_l3Parts_l0.eq_1) := run_is q_s_l3Parts_l0.eq_1
def q_s_l3Parts_c3 : QCode := .seq (.ops [⟨some 33, .move (.tmp 5), 89, none⟩, ⟨some 34, .move (.tmp 4), 80, none⟩, ⟨some 35, .call { callee := .builtin .len, args := #[.tmp 34], argTypes := #[80] }, 3, none⟩, ⟨some 36, .binOp .leq 3 (.tmp 35) (.const (.int .i64 4)) 3, 4, none⟩, ⟨some 2, .assign (.tmp 33), 89, none⟩, ⟨some 3, .assign (.tmp 36), 4, none⟩]) (.ret)
@[simp] theorem q_s_l3Parts_c3_run : type_of% (run_is q_s_l3Parts_c3.eq_1) := run_is q_s_l3Parts_c3.eq_1
@[simp] def q_s_l3Parts : QFn := ⟨37, [(.tmp 2, 89), (.tmp 3, 4)], .seq (.ops [⟨some 2, .assign (.const (.slice none 0 0)), 89, none⟩, ⟨some 3, .assign (.const (.bool false)), 4, none⟩]) (.seq (.ops [⟨some 8, .move (.tmp 0), 9, none⟩, ⟨some 9, .move (.tmp 0), 9, none⟩, ⟨some 10, .call { callee := .builtin .len, args := #[.tmp 9], argTypes := #[9] }, 3, none⟩, ⟨some 11, .binOp .add 3 (.tmp 10) (.const (.int .i64 1)) 3, 3, none⟩, ⟨some 12, .call { callee := .value (.func 84), args := #[.tmp 8, .const (.int .u8 46), .tmp 11], argTypes := #[9, 5, 3] }, 80, none⟩, ⟨some 4, .assign (.tmp 12), 80, none⟩]) (.seq (.ops [⟨some 13, .buildSlice 89 0 #[], 89, none⟩, ⟨some 5, .assign (.tmp 13), 89, none⟩]) (.seq (.seq (.ops [⟨some 6, .assign (.const (.int .i64 0)), 3, none⟩]) (.block 0 (.loop q_s_l3Parts_l0))) (q_s_l3Parts_c3))))⟩
theorem conv_s_l3Parts : convF Tryd.f58 = some q_s_l3Parts := by kernel_rfl
/-! 59 s_l4Needs -/
abbrev fn_s_l4Needs : FuncId := 59
def q_s_l4Needs_c0 : QCode := .ops [⟨some 8, .move (.tmp 3), 3, none⟩, ⟨some 9, .binOp .add 3 (.tmp 8) (.const (.int .i64 1)) 3, 3, none⟩, ⟨some 3, .assign (.tmp 9), 3, none⟩]
@[simp] theorem q_s_l4Needs_c0_run : type_of% (run_is q_s_l4Needs_c0.eq_1) := run_is q_s_l4Needs_c0.eq_1
def q_s_l4Needs_c1 : QCode := .seq (.block 1 (.seq (.ops [⟨some 10, .move (.tmp 0), 34, none⟩, ⟨some 11, .move (.tmp 3), 3, none⟩, ⟨some 12, .indexAddr 34 (.tmp 10) (.tmp 11), 0, none⟩, ⟨some 13, .load 59 (.tmp 12), 59, none⟩, ⟨some 14, .call { callee := .value (.func 88), args := #[.tmp 13], argTypes := #[59] }, 4, none⟩, ⟨some 15, .unOp .not 4 (.tmp 14), 4, none⟩]) (.cond (.tmp 15) (.seq (.ops [⟨some 2, .assign (.const (.bool false)), 4, none⟩]) (.ret)) (.skip)))) (q_s_l4Needs_c0)
@[simp] theorem q_s_l4Needs_c1_run : type_of% (run_is q_s_l4Needs_c1.eq_1) := run_is q_s_l4Needs_c1.eq_1
def q_s_l4Needs_l0 : QCode := .seq (.seq (.ops [⟨some 4, .move (.tmp 3), 3, none⟩, ⟨some 5, .move (.tmp 0), 34, none⟩, ⟨some 6, .call { callee := .builtin .len, args := #[.tmp 5], argTypes := #[34] }, 3, none⟩, ⟨some 7, .binOp .lss 3 (.tmp 4) (.tmp 6) 3, 4, none⟩]) (.cond (.tmp 7) (.skip) (.exit 0))) (q_s_l4Needs_c1)
@[simp] theorem q_s_l4Needs_l0_run : type_of% (run_is q_s_l4Needs_l0.eq_1) := run_is q_s_l4Needs_l0.eq_1
def q_s_l4Needs_c2 : QCode := .seq (.ops [⟨some 16, .move (.tmp 0), 34, none⟩, ⟨some 17, .call { callee := .builtin .len, args := #[.tmp 16], argTypes := #[34] }, 3, none⟩, ⟨some 18, .binOp .leq 3 (.tmp 17) (.const (.int .i64 6)) 3, 4, none⟩, ⟨some 2, .assign (.tmp 18), 4, none⟩]) (.ret)
@[simp] theorem q_s_l4Needs_c2_run : type_of% (run_is q_s_l4Needs_c2.eq_1) := run_is q_s_l4Needs_c2.eq_1
@[simp] def q_s_l4Needs : QFn := ⟨19, [(.tmp 2, 4)], .seq (.ops [⟨some 2, .assign (.const (.bool false)), 4, none⟩]) (.seq (.seq (.ops [⟨some 3, .assign (.const (.int .i64 0)), 3, none⟩]) (.block 0 (.loop q_s_l4Needs_l0))) (q_s_l4Needs_c2))⟩
theorem conv_s_l4Needs : convF Tryd.f59 = some q_s_l4Needs := by kernel_rfl
/-! 60 s_l4Twice -/
abbrev fn_s_l4Twice : FuncId := 60
def q_s_l4Twice_c0 : QCode := .ops [⟨some 14, .move (.tmp 4), 3, none⟩, ⟨some 15, .binOp .add 3 (.tmp 14) (.const (.int .i64 1)) 3, 3, none⟩, ⟨some 4, .assign (.tmp 15), 3, none⟩]
@[simp] theorem q_s_l4Twice_c0_run : type_of% (run_is q_s_l4Twice_c0.eq_1) := run_is q_s_l4Twice_c0.eq_1
def q_s_l4Twice_c1 : QCode := .seq (.block 3 (.seq (.draw [] [⟨some 16, .move (.tmp 0), 80, none⟩, ⟨some 17, .move (.tmp 4), 3, none⟩, ⟨some 18, .indexAddr 80 (.tmp 16) (.tmp 17), 0, none⟩, ⟨some 19, .load 9 (.tmp 18), 9, none⟩, ⟨some 20, .move (.tmp 0), 80, none⟩, ⟨some 21, .move (.tmp 3), 3, none⟩, ⟨some 22, .indexAddr 80 (.tmp 20) (.tmp 21), 0, none⟩, ⟨some 23, .load 9 (.tmp 22), 9, none⟩] [⟨some 24, .binOp .eql 9 (.tmp 19) (.tmp 23) 9, 4, none⟩]) (.cond (.tmp 24) (.seq (.ops [⟨some 2, .assign (.const (.bool true)), 4, none⟩]) (.ret)) (.skip)))) (q_s_l4Twice_c0)
@[simp] theorem q_s_l4Twice_c1_run : type_of% (run_is q_s_l4Twice_c1.eq_1) := run_is q_s_l4Twice_c1.eq_1
def q_s_l4Twice_l0 : QCode := .seq (.seq (.ops [⟨some 11, .move (.tmp 4), 3, none⟩, ⟨some 12, .move (.tmp 3), 3, none⟩, ⟨some 13, .binOp .lss 3 (.tmp 11) (.tmp 12) 3, 4, none⟩]) (.cond (.tmp 13) (.skip) (.exit 2))) (q_s_l4Twice_c1)
@[simp] theorem q_s_l4Twice_l0_run : type_of% (run_is q_s_l4Twice_l0.eq_1) := run_is q_s_l4Twice_l0.eq_1
def q_s_l4Twice_c2 : QCode := .ops [⟨some 9, .move (.tmp 3), 3, none⟩, ⟨some 10, .binOp .add 3 (.tmp 9) (.const (.int .i64 1)) 3, 3, none⟩, ⟨some 3, .assign (.tmp 10), 3, none⟩]
@[simp] theorem q_s_l4Twice_c2_run : type_of% (run_is q_s_l4Twice_c2.eq_1) := run_is q_s_l4Twice_c2.eq_1
def q_s_l4Twice_c3 : QCode := .seq (.block 1 (.seq (.ops [⟨some 4, .assign (.const (.int .i64 0)), 3, none⟩]) (.block 2 (.loop q_s_l4Twice_l0)))) (q_s_l4Twice_c2)
@[simp] theorem q_s_l4Twice_c3_run : type_of% (run_is q_s_l4Twice_c3.eq_1) := run_is q_s_l4Twice_c3.eq_1
def q_s_l4Twice_l1 : QCode := .seq (.seq (.ops [⟨some 5, .move (.tmp 3), 3, none⟩, ⟨some 6, .move (.tmp 0), 80, none⟩, ⟨some 7, .call { callee := .builtin .len, args := #[.tmp 6], argTypes := #[80] }, 3, none⟩, ⟨some 8, .binOp .lss 3 (.tmp 5) (.tmp 7) 3, 4, none⟩]) (.cond (.tmp 8) (.skip) (.exit 0))) (q_s_l4Twice_c3)
@[simp] theorem q_s_l4Twice_l1_run : type_of% (run_is q_s_l4Twice_l1.eq_1) := run_is q_s_l4Twice_l1.eq_1
def q_s_l4Twice_c4 : QCode := .seq (.ops [⟨some 2, .assign (.const (.bool false)), 4, none⟩]) (.ret)
@[simp] theorem q_s_l4Twice_c4_run : type_of% (run_is q_s_l4Twice_c4.eq_1) := run_is q_s_l4Twice_c4.eq_1
@[simp] def q_s_l4Twice : QFn := ⟨25, [(.tmp 2, 4)], .seq (.ops [⟨some 2, .assign (.const (.bool false)), 4, none⟩]) (.seq (.seq (.ops [⟨some 3, .assign (.const (.int .i64 0)), 3, none⟩]) (.block 0 (.loop q_s_l4Twice_l1))) (q_s_l4Twice_c4))⟩
theorem conv_s_l4Twice : convF Tryd.f60 = some q_s_l4Twice := by kernel_rfl
/-! 61 s_l2Entry -/
abbrev fn_s_l2Entry : FuncId := 61
def q_s_l2Entry_c0 : QCode := .seq (.ops [⟨some 29, .fieldAddr 47 (.tmp 1) 1, 0, none⟩, ⟨some 30, .load 3 (.tmp 29), 3, none⟩, ⟨some 31, .binOp .eql 3 (.tmp 30) (.const (.int .i64 3)) 3, 4, none⟩, ⟨some 32, .move (.tmp 31), 4, none⟩, ⟨some 33, .fieldAddr 47 (.tmp 1) 2, 0, some (32, true)⟩, ⟨some 34, .load 3 (.tmp 33), 3, some (32, true)⟩, ⟨some 35, .binOp .eql 3 (.tmp 34) (.const (.int .i64 0)) 3, 4, some (32, true)⟩, ⟨some 36, .pick (.tmp 32) (.tmp 35) (.const (.bool false)), 4, none⟩, ⟨some 37, .move (.tmp 36), 4, none⟩, ⟨some 38, .fieldAddr 47 (.tmp 1) 3, 0, some (37, true)⟩, ⟨some 39, .load 9 (.tmp 38), 9, some (37, true)⟩, ⟨some 40, .call { callee := .value (.func 89), args := #[.tmp 39], argTypes := #[9] }, 4, some (37, true)⟩, ⟨some 41, .pick (.tmp 37) (.tmp 40) (.const (.bool false)), 4, none⟩, ⟨some 2, .assign (.tmp 41), 4, none⟩]) (.ret)
@[simp] theorem q_s_l2Entry_c0_run : type_of% (run_is q_s_l2Entry_c0.eq_1) := run_is q_s_l2Entry_c0.eq_1
def q_s_l2Entry_c1 : QCode := .seq (.seq (.ops [⟨some 7, .fieldAddr 47 (.tmp 1) 1, 0, none⟩, ⟨some 8, .load 3 (.tmp 7), 3, none⟩]) (.block 0 (.seq (.ops [⟨some 10, .binOp .eql 3 (.tmp 8) (.const (.int .i64 1)) 3, 4, none⟩, ⟨some 9, .assign (.tmp 10), 4, none⟩]) (.cond (.tmp 9) (.seq (.ops [⟨some 11, .fieldAddr 47 (.tmp 1) 2, 0, none⟩, ⟨some 12, .load 3 (.tmp 11), 3, none⟩, ⟨some 13, .call { callee := .value (.func 57), args := #[.tmp 12, .const (.int .i64 0), .const (.int .i64 7)], argTypes := #[3, 3, 3] }, 4, none⟩, ⟨some 14, .move (.tmp 13), 4, none⟩, ⟨some 15, .fieldAddr 47 (.tmp 1) 3, 0, some (14, true)⟩, ⟨some 16, .load 9 (.tmp 15), 9, some (14, true)⟩, ⟨some 17, .binOp .eql 9 (.tmp 16) (.const (.string { data := #[] })) 9, 4, some (14, true)⟩, ⟨some 18, .pick (.tmp 14) (.tmp 17) (.const (.bool false)), 4, none⟩, ⟨some 2, .assign (.tmp 18), 4, none⟩]) (.ret)) (.seq (.ops [⟨some 20, .binOp .eql 3 (.tmp 8) (.const (.int .i64 2)) 3, 4, none⟩, ⟨some 19, .assign (.tmp 20), 4, none⟩]) (.cond (.tmp 19) (.seq (.ops [⟨some 21, .fieldAddr 47 (.tmp 1) 2, 0, none⟩, ⟨some 22, .load 3 (.tmp 21), 3, none⟩, ⟨some 23, .call { callee := .value (.func 57), args := #[.tmp 22, .const (.int .i64 0), .const (.int .i64 7)], argTypes := #[3, 3, 3] }, 4, none⟩, ⟨some 24, .move (.tmp 23), 4, none⟩, ⟨some 25, .fieldAddr 47 (.tmp 1) 3, 0, some (24, true)⟩, ⟨some 26, .load 9 (.tmp 25), 9, some (24, true)⟩, ⟨some 27, .call { callee := .value (.func 90), args := #[.tmp 26], argTypes := #[9] }, 4, some (24, true)⟩, ⟨some 28, .pick (.tmp 24) (.tmp 27) (.const (.bool false)), 4, none⟩, ⟨some 2, .assign (.tmp 28), 4, none⟩]) (.ret)) (.skip))))))) (q_s_l2Entry_c0)
@[simp] theorem q_s_l2Entry_c1_run : type_of% (run_is q_s_l2Entry_c1.eq_1) := run_is q_s_l2Entry_c1.eq_1
@[simp] def q_s_l2Entry : QFn := ⟨42, [(.tmp 2, 4)], .seq (.ops [⟨some 1, .box 47 (.tmp 0), 0, none⟩, ⟨some 2, .assign (.const (.bool false)), 4, none⟩]) (.seq (.seq (.ops [⟨some 3, .fieldAddr 47 (.tmp 1) 0, 0, none⟩, ⟨some 4, .load 9 (.tmp 3), 9, none⟩, ⟨some 5, .call { callee := .value (.func 89), args := #[.tmp 4], argTypes := #[9] }, 4, none⟩, ⟨some 6, .unOp .not 4 (.tmp 5), 4, none⟩]) (.cond (.tmp 6) (.seq (.ops [⟨some 2, .assign (.const (.bool false)), 4, none⟩]) (.ret)) (.skip))) (q_s_l2Entry_c1))⟩
theorem conv_s_l2Entry : convF Tryd.f61 = some q_s_l2Entry := by kernel_rfl
/-! 62 s_l2Dir -/
abbrev fn_s_l2Dir : FuncId := 62
@[simp] def q_s_l2Dir : QFn := ⟨26, [(.tmp 4, 4)], .seq (.ops [⟨some 4, .assign (.const (.bool false)), 4, none⟩]) (.seq (.ops [⟨some 8, .move (.tmp 0), 22, none⟩, ⟨some 9, .move (.tmp 1), 9, none⟩, ⟨some 10, .call { callee := .value (.func 91), args := #[.tmp 8, .tmp 9], argTypes := #[22, 9] }, 82, none⟩, ⟨some 7, .move (.tmp 10), 82, none⟩, ⟨some 11, .extract (.tmp 7) 0, 3, none⟩, ⟨some 12, .extract (.tmp 7) 1, 4, none⟩, ⟨some 5, .assign (.tmp 11), 3, none⟩, ⟨some 6, .assign (.tmp 12), 4, none⟩]) (.seq (.ops [⟨some 13, .move (.tmp 1), 9, none⟩, ⟨some 14, .binOp .eql 9 (.tmp 13) (.const (.string { data := #[] })) 9, 4, none⟩, ⟨some 15, .move (.tmp 14), 4, none⟩, ⟨some 16, .move (.tmp 6), 4, some (15, false)⟩, ⟨some 17, .move (.tmp 16), 4, some (15, false)⟩, ⟨some 18, .move (.tmp 0), 22, some (17, true)⟩, ⟨some 19, .move (.tmp 5), 3, some (17, true)⟩, ⟨some 20, .indexAddr 22 (.tmp 18) (.tmp 19), 0, some (17, true)⟩, ⟨some 21, .fieldAddr 47 (.tmp 20) 1, 0, some (17, true)⟩, ⟨some 22, .load 3 (.tmp 21), 3, some (17, true)⟩, ⟨some 23, .binOp .eql 3 (.tmp 22) (.const (.int .i64 1)) 3, 4, some (17, true)⟩, ⟨some 24, .pick (.tmp 17) (.tmp 23) (.const (.bool false)), 4, some (15, false)⟩, ⟨some 25, .pick (.tmp 15) (.const (.bool true)) (.tmp 24), 4, none⟩, ⟨some 4, .assign (.tmp 25), 4, none⟩]) (.ret)))⟩
theorem conv_s_l2Dir : convF Tryd.f62 = some q_s_l2Dir := by kernel_rfl
/-! 63 s_l1Up -/
abbrev fn_s_l1Up : FuncId := 63
def q_s_l1Up_c0 : QCode := .ops [⟨some 9, .move (.tmp 3), 3, none⟩, ⟨some 10, .binOp .sub 3 (.tmp 9) (.const (.int .i64 1)) 3, 3, none⟩, ⟨some 3, .assign (.tmp 10), 3, none⟩]
@[simp] theorem q_s_l1Up_c0_run : type_of% (run_is q_s_l1Up_c0.eq_1) := run_is q_s_l1Up_c0.eq_1
def q_s_l1Up_c1 : QCode := .seq (.block 1 (.seq (.ops [⟨some 11, .move (.tmp 0), 9, none⟩, ⟨some 12, .move (.tmp 3), 3, none⟩, ⟨some 13, .index 9 (.tmp 11) (.tmp 12), 5, none⟩, ⟨some 14, .binOp .eql 5 (.tmp 13) (.const (.int .u8 47)) 5, 4, none⟩]) (.cond (.tmp 14) (.seq (.ops [⟨some 15, .move (.tmp 0), 9, none⟩, ⟨some 16, .move (.tmp 3), 3, none⟩, ⟨some 17, .slice 9 (.tmp 15) none (some (.tmp 16)) none, 9, none⟩, ⟨some 2, .assign (.tmp 17), 9, none⟩]) (.ret)) (.skip)))) (q_s_l1Up_c0)
@[simp] theorem q_s_l1Up_c1_run : type_of% (run_is q_s_l1Up_c1.eq_1) := run_is q_s_l1Up_c1.eq_1
def q_s_l1Up_l0 : QCode := .seq (.seq (.ops [⟨some 7, .move (.tmp 3), 3, none⟩, ⟨some 8, .binOp .geq 3 (.tmp 7) (.const (.int .i64 0)) 3, 4, none⟩]) (.cond (.tmp 8) (.skip) (.exit 0))) (q_s_l1Up_c1)
@[simp] theorem q_s_l1Up_l0_run : type_of% (run_is q_s_l1Up_l0.eq_1) := run_is q_s_l1Up_l0.eq_1
def q_s_l1Up_c2 : QCode := .seq (.ops [⟨some 2, .assign (.const (.string { data := #[] })), 9, none⟩]) (.ret)
@[simp] theorem q_s_l1Up_c2_run : type_of% (run_is q_s_l1Up_c2.eq_1) := run_is q_s_l1Up_c2.eq_1
@[simp] def q_s_l1Up : QFn := ⟨18, [(.tmp 2, 9)], .seq (.ops [⟨some 2, .assign (.const (.string { data := #[] })), 9, none⟩]) (.seq (.seq (.ops [⟨some 4, .move (.tmp 0), 9, none⟩, ⟨some 5, .call { callee := .builtin .len, args := #[.tmp 4], argTypes := #[9] }, 3, none⟩, ⟨some 6, .binOp .sub 3 (.tmp 5) (.const (.int .i64 1)) 3, 3, none⟩, ⟨some 3, .assign (.tmp 6), 3, none⟩]) (.block 0 (.loop q_s_l1Up_l0))) (q_s_l1Up_c2))⟩
theorem conv_s_l1Up : convF Tryd.f63 = some q_s_l1Up := by kernel_rfl
/-! 64 w_toNeed -/
abbrev fn_w_toNeed : FuncId := 64
@[simp] def q_w_toNeed : QFn := ⟨14, [(.cell 2 59, 59)], .seq (.ops [⟨some 1, .box 85 (.tmp 0), 0, none⟩, ⟨some 2, .alloc 59, 0, none⟩]) (.seq (.ops [⟨some 3, .alloc 59, 0, none⟩]) (.seq (.ops [⟨some 4, .fieldAddr 85 (.tmp 1) 0, 0, none⟩, ⟨some 5, .load 9 (.tmp 4), 9, none⟩, ⟨some 6, .fieldAddr 59 (.tmp 3) 0, 0, none⟩, ⟨none, .store 9 (.tmp 6) (.tmp 5), 0, none⟩]) (.seq (.ops [⟨some 7, .fieldAddr 85 (.tmp 1) 1, 0, none⟩, ⟨some 8, .load 3 (.tmp 7), 3, none⟩, ⟨some 9, .fieldAddr 59 (.tmp 3) 1, 0, none⟩, ⟨none, .store 3 (.tmp 9) (.tmp 8), 0, none⟩]) (.seq (.ops [⟨some 10, .fieldAddr 85 (.tmp 1) 2, 0, none⟩, ⟨some 11, .load 9 (.tmp 10), 9, none⟩, ⟨some 12, .fieldAddr 59 (.tmp 3) 2, 0, none⟩, ⟨none, .store 9 (.tmp 12) (.tmp 11), 0, none⟩]) (.seq (.ops [⟨some 13, .load 59 (.tmp 3), 59, none⟩, ⟨none, .store 59 (.tmp 2) (.tmp 13), 0, none⟩]) (.ret))))))⟩
theorem conv_w_toNeed : convF Tryd.f64 = some q_w_toNeed := by kernel_rfl
/-! 65 w_toEntry -/
abbrev fn_w_toEntry : FuncId := 65
@[simp] def q_w_toEntry : QFn := ⟨17, [(.cell 2 47, 47)], .seq (.ops [⟨some 1, .box 87 (.tmp 0), 0, none⟩, ⟨some 2, .alloc 47, 0, none⟩]) (.seq (.ops [⟨some 3, .alloc 47, 0, none⟩]) (.seq (.ops [⟨some 4, .fieldAddr 87 (.tmp 1) 0, 0, none⟩, ⟨some 5, .load 9 (.tmp 4), 9, none⟩, ⟨some 6, .fieldAddr 47 (.tmp 3) 0, 0, none⟩, ⟨none, .store 9 (.tmp 6) (.tmp 5), 0, none⟩]) (.seq (.ops [⟨some 7, .fieldAddr 87 (.tmp 1) 1, 0, none⟩, ⟨some 8, .load 3 (.tmp 7), 3, none⟩, ⟨some 9, .fieldAddr 47 (.tmp 3) 1, 0, none⟩, ⟨none, .store 3 (.tmp 9) (.tmp 8), 0, none⟩]) (.seq (.ops [⟨some 10, .fieldAddr 87 (.tmp 1) 2, 0, none⟩, ⟨some 11, .load 3 (.tmp 10), 3, none⟩, ⟨some 12, .fieldAddr 47 (.tmp 3) 2, 0, none⟩, ⟨none, .store 3 (.tmp 12) (.tmp 11), 0, none⟩]) (.seq (.ops [⟨some 13, .fieldAddr 87 (.tmp 1) 3, 0, none⟩, ⟨some 14, .load 9 (.tmp 13), 9, none⟩, ⟨some 15, .fieldAddr 47 (.tmp 3) 3, 0, none⟩, ⟨none, .store 9 (.tmp 15) (.tmp 14), 0, none⟩]) (.seq (.ops [⟨some 16, .load 47 (.tmp 3), 47, none⟩, ⟨none, .store 47 (.tmp 2) (.tmp 16), 0, none⟩]) (.ret)))))))⟩
theorem conv_w_toEntry : convF Tryd.f65 = some q_w_toEntry := by kernel_rfl
/-! 66 i_readVersion -/
abbrev fn_i_readVersion : FuncId := 66
def q_i_readVersion_c0 : QCode := .ops [⟨some 23, .load 97 (.tmp 4), 97, none⟩, ⟨some 24, .move (.tmp 6), 3, none⟩, ⟨some 25, .buildSlice 97 1 #[(0, .tmp 24)], 97, none⟩, ⟨some 26, .call { callee := .builtin .append, args := #[.tmp 23, .tmp 25], argTypes := #[97, 97] }, 97, none⟩, ⟨none, .store 97 (.tmp 4) (.tmp 26), 0, none⟩]
@[simp] theorem q_i_readVersion_c0_run : type_of% (run_is q_i_readVersion_c0.eq_1) := run_is q_i_readVersion_c0.eq_1
def q_i_readVersion_c1 : QCode := .seq (.ops [⟨some 27, .load 97 (.tmp 4), 97, none⟩, ⟨none, .store 97 (.tmp 2) (.tmp 27), 0, none⟩, ⟨none, .store 4 (.tmp 3) (.const (.bool true)), 0, none⟩]) (.ret)
@[simp] theorem q_i_readVersion_c1_run : type_of% (run_is q_i_readVersion_c1.eq_1) := run_is q_i_readVersion_c1.eq_1
@[simp] def q_i_readVersion : QFn := ⟨28, [(.cell 2 97, 97), (.cell 3 4, 4)], .seq (.ops [⟨some 2, .alloc 97, 0, none⟩, ⟨some 3, .alloc 4, 0, none⟩]) (.seq (.ops [⟨some 4, .alloc 97, 0, none⟩]) (.seq (.seq (.ops [⟨some 8, .move (.tmp 0), 9, none⟩, ⟨some 9, .call { callee := .value (.func 92), args := #[.tmp 8, .const (.string { data := #[46] })], argTypes := #[9, 9] }, 117, none⟩]) (.block 0 (.range 9 [10] (.ops [⟨some 5, .assign (.tmp 10), 9, none⟩]) (.block 1 (.seq (.ops [⟨some 12, .move (.tmp 5), 9, none⟩, ⟨some 13, .call { callee := .value (.func 54), args := #[.tmp 12, .const (.int .i64 999)], argTypes := #[9, 3] }, 82, none⟩, ⟨some 11, .move (.tmp 13), 82, none⟩, ⟨some 14, .extract (.tmp 11) 0, 3, none⟩, ⟨some 15, .extract (.tmp 11) 1, 4, none⟩, ⟨some 6, .assign (.tmp 14), 3, none⟩, ⟨some 7, .assign (.tmp 15), 4, none⟩]) (.seq (.seq (.ops [⟨some 16, .move (.tmp 7), 4, none⟩, ⟨some 17, .unOp .not 4 (.tmp 16), 4, none⟩, ⟨some 18, .move (.tmp 17), 4, none⟩, ⟨some 19, .load 97 (.tmp 4), 97, some (18, false)⟩, ⟨some 20, .call { callee := .builtin .len, args := #[.tmp 19], argTypes := #[97] }, 3, some (18, false)⟩, ⟨some 21, .binOp .eql 3 (.tmp 20) (.const (.int .i64 4)) 3, 4, some (18, false)⟩, ⟨some 22, .pick (.tmp 18) (.const (.bool true)) (.tmp 21), 4, none⟩]) (.cond (.tmp 22) (.seq (.ops [⟨none, .store 97 (.tmp 2) (.const (.slice none 0 0)), 0, none⟩, ⟨none, .store 4 (.tmp 3) (.const (.bool false)), 0, none⟩]) (.ret)) (.skip))) (q_i_readVersion_c0))))))) (q_i_readVersion_c1)))⟩
theorem conv_i_readVersion : convF Tryd.f66 = some q_i_readVersion := by kernel_rfl
/-! 67 slices_Clone_L_string_string -/
abbrev fn_slices_Clone_L_string_string : FuncId := 67
def q_slices_Clone_L_string_string_c0 : QCode := .seq (.ops [⟨some 5, .buildSlice 80 0 #[], 80, none⟩, ⟨some 6, .move (.tmp 0), 80, none⟩, ⟨some 7, .call { callee := .builtin .append, args := #[.tmp 5, .tmp 6], argTypes := #[80, 80] }, 80, none⟩, ⟨some 2, .assign (.tmp 7), 80, none⟩]) (.ret)
@[simp] theorem q_slices_Clone_L_string_string_c0_run : type_of% (run_is q_slices_Clone_L_string_string_c0.eq_1) := run_is q_slices_Clone_L_string_string_c0.eq_1
@[simp] def q_slices_Clone_L_string_string : QFn := ⟨8, [(.tmp 2, 80)], .seq (.ops [⟨some 2, .assign (.const (.slice none 0 0)), 80, none⟩]) (.seq (.seq (.ops [⟨some 3, .move (.tmp 0), 80, none⟩, ⟨some 4, .binOp .eql 80 (.tmp 3) (.const (.slice none 0 0)) 80, 4, none⟩]) (.cond (.tmp 4) (.seq (.ops [⟨some 2, .assign (.const (.slice none 0 0)), 80, none⟩]) (.ret)) (.skip))) (q_slices_Clone_L_string_string_c0))⟩
theorem conv_slices_Clone_L_string_string : convF Tryd.f67 = some q_slices_Clone_L_string_string := by kernel_rfl
/-! 68 slices_Contains_L_string_string -/
abbrev fn_slices_Contains_L_string_string : FuncId := 68
@[simp] def q_slices_Contains_L_string_string : QFn := ⟨9, [(.tmp 4, 4)], .seq (.ops [⟨some 4, .assign (.const (.bool false)), 4, none⟩]) (.seq (.ops [⟨some 5, .move (.tmp 0), 80, none⟩, ⟨some 6, .move (.tmp 1), 9, none⟩, ⟨some 7, .call { callee := .value (.func 93), args := #[.tmp 5, .tmp 6], argTypes := #[80, 9] }, 3, none⟩, ⟨some 8, .binOp .geq 3 (.tmp 7) (.const (.int .i64 0)) 3, 4, none⟩, ⟨some 4, .assign (.tmp 8), 4, none⟩]) (.ret))⟩
theorem conv_slices_Contains_L_string_string : convF Tryd.f68 = some q_slices_Contains_L_string_string := by kernel_rfl
/-! 69 w_eqNeed -/
abbrev fn_w_eqNeed : FuncId := 69
def q_w_eqNeed_c0 : QCode := .seq (.ops [⟨some 4, .assign (.const (.bool true)), 4, none⟩]) (.ret)
@[simp] theorem q_w_eqNeed_c0_run : type_of% (run_is q_w_eqNeed_c0.eq_1) := run_is q_w_eqNeed_c0.eq_1
def q_w_eqNeed_c1 : QCode := .seq (.seq (.ops [⟨some 15, .fieldAddr 59 (.tmp 2) 2, 0, none⟩, ⟨some 16, .load 9 (.tmp 15), 9, none⟩, ⟨some 17, .fieldAddr 59 (.tmp 3) 2, 0, none⟩, ⟨some 18, .load 9 (.tmp 17), 9, none⟩, ⟨some 19, .binOp .neq 9 (.tmp 16) (.tmp 18) 9, 4, none⟩]) (.cond (.tmp 19) (.seq (.ops [⟨some 4, .assign (.const (.bool false)), 4, none⟩]) (.ret)) (.skip))) (q_w_eqNeed_c0)
@[simp] theorem q_w_eqNeed_c1_run : type_of% (run_is q_w_eqNeed_c1.eq_1) := run_is q_w_eqNeed_c1.eq_1
def q_w_eqNeed_c2 : QCode := .seq (.seq (.ops [⟨some 10, .fieldAddr 59 (.tmp 2) 1, 0, none⟩, ⟨some 11, .load 3 (.tmp 10), 3, none⟩, ⟨some 12, .fieldAddr 59 (.tmp 3) 1, 0, none⟩, ⟨some 13, .load 3 (.tmp 12), 3, none⟩, ⟨some 14, .binOp .neq 3 (.tmp 11) (.tmp 13) 3, 4, none⟩]) (.cond (.tmp 14) (.seq (.ops [⟨some 4, .assign (.const (.bool false)), 4, none⟩]) (.ret)) (.skip))) (q_w_eqNeed_c1)
@[simp] theorem q_w_eqNeed_c2_run : type_of% (run_is q_w_eqNeed_c2.eq_1) := run_is q_w_eqNeed_c2.eq_1
@[simp] def q_w_eqNeed : QFn := ⟨20, [(.tmp 4, 4)], .seq (.ops [⟨some 2, .box 59 (.tmp 0), 0, none⟩, ⟨some 3, .box 59 (.tmp 1), 0, none⟩, ⟨some 4, .assign (.const (.bool false)), 4, none⟩]) (.seq (.seq (.ops [⟨some 5, .fieldAddr 59 (.tmp 2) 0, 0, none⟩, ⟨some 6, .load 9 (.tmp 5), 9, none⟩, ⟨some 7, .fieldAddr 59 (.tmp 3) 0, 0, none⟩, ⟨some 8, .load 9 (.tmp 7), 9, none⟩, ⟨some 9, .binOp .neq 9 (.tmp 6) (.tmp 8) 9, 4, none⟩]) (.cond (.tmp 9) (.seq (.ops [⟨some 4, .assign (.const (.bool false)), 4, none⟩]) (.ret)) (.skip))) (q_w_eqNeed_c2))⟩
theorem conv_w_eqNeed : convF Tryd.f69 = some q_w_eqNeed := by kernel_rfl
/-! 76 i_PathOk -/
abbrev fn_i_PathOk : FuncId := 76
def q_i_PathOk_c0 : QCode := .seq (.ops [⟨none, .store 4 (.tmp 2) (.const (.bool true)), 0, none⟩]) (.ret)
@[simp] theorem q_i_PathOk_c0_run : type_of% (run_is q_i_PathOk_c0.eq_1) := run_is q_i_PathOk_c0.eq_1
@[simp] def q_i_PathOk : QFn := ⟨17, [(.cell 2 4, 4)], .seq (.ops [⟨some 2, .alloc 4, 0, none⟩]) (.seq (.ops [⟨some 3, .alloc 3, 0, none⟩, ⟨none, .store 3 (.tmp 3) (.const (.int .i64 0)), 0, none⟩]) (.seq (.seq (.ops [⟨some 5, .move (.tmp 0), 9, none⟩, ⟨some 6, .call { callee := .value (.func 92), args := #[.tmp 5, .const (.string { data := #[47] })], argTypes := #[9, 9] }, 117, none⟩]) (.block 0 (.range 6 [7] (.ops [⟨some 4, .assign (.tmp 7), 9, none⟩]) (.block 1 (.seq (.ops [⟨some 8, .load 3 (.tmp 3), 3, none⟩, ⟨some 9, .binOp .add 3 (.tmp 8) (.const (.int .i64 1)) 3, 3, none⟩, ⟨none, .store 3 (.tmp 3) (.tmp 9), 0, none⟩]) (.seq (.ops [⟨some 10, .load 3 (.tmp 3), 3, none⟩, ⟨some 11, .binOp .gtr 3 (.tmp 10) (.const (.int .i64 5)) 3, 4, none⟩, ⟨some 12, .move (.tmp 11), 4, none⟩, ⟨some 13, .move (.tmp 4), 9, some (12, false)⟩, ⟨some 14, .call { callee := .value (.func 99), args := #[.tmp 13], argTypes := #[9] }, 4, some (12, false)⟩, ⟨some 15, .unOp .not 4 (.tmp 14), 4, some (12, false)⟩, ⟨some 16, .pick (.tmp 12) (.const (.bool true)) (.tmp 15), 4, none⟩]) (.cond (.tmp 16) (.seq (.ops [⟨none, .store 4 (.tmp 2) (.const (.bool false)), 0, none⟩]) (.ret)) (.skip)))))))) (q_i_PathOk_c0)))⟩
theorem conv_i_PathOk : convF Tryd.f76 = some q_i_PathOk := by kernel_rfl
/-! 77 i_fileText -/
abbrev fn_i_fileText : FuncId := 77
def q_i_fileText_c0 : QCode := .ops [⟨some 23, .binOp .add 3 (.tmp 9) (.const (.int .i64 1)) 3, 3, none⟩, ⟨some 9, .move (.tmp 23), 3, none⟩]
@[simp] theorem q_i_fileText_c0_run : type_of% (run_is q_i_fileText_c0.eq_1) := run_is q_i_fileText_c0.eq_1
def q_i_fileText_c1 : QCode := .seq (.block 1 (.seq (.ops [⟨some 11, .move (.tmp 9), 3, none⟩, ⟨some 3, .assign (.tmp 11), 3, none⟩]) (.seq (.ops [⟨some 12, .move (.tmp 0), 9, none⟩, ⟨some 13, .move (.tmp 3), 3, none⟩, ⟨some 14, .index 9 (.tmp 12) (.tmp 13), 5, none⟩, ⟨some 15, .call { callee := .value (.func 100), args := #[.tmp 14], argTypes := #[5] }, 4, none⟩, ⟨some 16, .unOp .not 4 (.tmp 15), 4, none⟩, ⟨some 17, .move (.tmp 16), 4, none⟩, ⟨some 18, .move (.tmp 0), 9, some (17, true)⟩, ⟨some 19, .move (.tmp 3), 3, some (17, true)⟩, ⟨some 20, .index 9 (.tmp 18) (.tmp 19), 5, some (17, true)⟩, ⟨some 21, .binOp .neq 5 (.tmp 20) (.const (.int .u8 10)) 5, 4, some (17, true)⟩, ⟨some 22, .pick (.tmp 17) (.tmp 21) (.const (.bool false)), 4, none⟩]) (.cond (.tmp 22) (.seq (.ops [⟨some 2, .assign (.const (.bool false)), 4, none⟩]) (.ret)) (.skip))))) (q_i_fileText_c0)
@[simp] theorem q_i_fileText_c1_run : type_of% (run_is q_i_fileText_c1.eq_1) := run_is q_i_fileText_c1.eq_1
def q_i_fileText_l0 : QCode := .seq (.ops [⟨some 10, .binOp .lss 3 (.tmp 9) (.tmp 8) 3, 4, none⟩]) (.seq (.cond (.tmp 10) (.skip) (.exit 0)) (q_i_fileText_c1))
@[simp] theorem q_i_fileText_l0_run : type_of% (run_is q_i_fileText_l0.eq_1) := run_is q_i_fileText_l0.eq_1
def q_i_fileText_c2 : QCode := .seq (.ops [⟨some 2, .assign (.const (.bool true)), 4, none⟩]) (.ret)
@[simp] theorem q_i_fileText_c2_run : type_of% (run_is q_i_fileText_c2.eq_1) := run_is q_i_fileText_c2.eq_1
def q_i_fileText_c3 : QCode := .seq (.seq (.ops [⟨some 7, .move (.tmp 0), 9, none⟩, ⟨some 8, .call { callee := .builtin .len, args := #[.tmp 7], argTypes := #[9] }, 3, none⟩, ⟨some 9, .move (.const (.int .i64 0)), 3, none⟩]) (.block 0 (.loop q_i_fileText_l0))) (q_i_fileText_c2)
@[simp] theorem q_i_fileText_c3_run : type_of% (run_is q_i_fileText_c3.eq_1) := run_is q_i_fileText_c3.eq_1
@[simp] def q_i_fileText : QFn := ⟨24, [(.tmp 2, 4)], .seq (.ops [⟨some 2, .assign (.const (.bool false)), 4, none⟩]) (.seq (.seq (.ops [⟨some 4, .move (.tmp 0), 9, none⟩, ⟨some 5, .call { callee := .builtin .len, args := #[.tmp 4], argTypes := #[9] }, 3, none⟩, ⟨some 6, .binOp .gtr 3 (.tmp 5) (.const (.int .i64 80)) 3, 4, none⟩]) (.cond (.tmp 6) (.seq (.ops [⟨some 2, .assign (.const (.bool false)), 4, none⟩]) (.ret)) (.skip))) (q_i_fileText_c3))⟩
theorem conv_i_fileText : convF Tryd.f77 = some q_i_fileText := by kernel_rfl
/-! 78 i_PathUp -/
abbrev fn_i_PathUp : FuncId := 78
def q_i_PathUp_c0 : QCode := .seq (.ops [⟨some 6, .move (.tmp 0), 9, none⟩, ⟨some 7, .move (.tmp 0), 9, none⟩, ⟨some 8, .call { callee := .value (.func 101), args := #[.tmp 7, .const (.int .u8 47)], argTypes := #[9, 5] }, 3, none⟩, ⟨some 9, .call { callee := .builtin .max, args := #[.tmp 8, .const (.int .i64 0)], argTypes := #[3, 3] }, 3, none⟩, ⟨some 10, .slice 9 (.tmp 6) none (some (.tmp 9)) none, 9, none⟩, ⟨some 2, .assign (.tmp 10), 9, none⟩]) (.ret)
@[simp] theorem q_i_PathUp_c0_run : type_of% (run_is q_i_PathUp_c0.eq_1) := run_is q_i_PathUp_c0.eq_1
@[simp] def q_i_PathUp : QFn := ⟨11, [(.tmp 2, 9)], .seq (.ops [⟨some 2, .assign (.const (.string { data := #[] })), 9, none⟩]) (.seq (.seq (.ops [⟨some 3, .move (.tmp 0), 9, none⟩, ⟨some 4, .call { callee := .value (.func 76), args := #[.tmp 3], argTypes := #[9] }, 4, none⟩, ⟨some 5, .unOp .not 4 (.tmp 4), 4, none⟩]) (.cond (.tmp 5) (.seq (.ops [⟨some 2, .assign (.const (.string { data := #[] })), 9, none⟩]) (.ret)) (.skip))) (q_i_PathUp_c0))⟩
theorem conv_i_PathUp : convF Tryd.f78 = some q_i_PathUp := by kernel_rfl
/-! 79 i_findEntry -/
abbrev fn_i_findEntry : FuncId := 79
@[simp] def q_i_findEntry : QFn := ⟨12, [(.tmp 4, 3), (.tmp 5, 4)], .seq (.ops [⟨some 4, .assign (.const (.int .i64 0)), 3, none⟩, ⟨some 5, .assign (.const (.bool false)), 4, none⟩]) (.seq (.ops [⟨some 6, .move (.tmp 0), 22, none⟩, ⟨some 7, .move (.tmp 1), 9, none⟩, ⟨some 8, .build 47 #[(0, .tmp 7)], 47, none⟩, ⟨some 9, .call { callee := .value (.func 102), args := #[.tmp 6, .tmp 8, .func 103], argTypes := #[22, 47, 129] }, 82, none⟩, ⟨some 10, .extract (.tmp 9) 0, 3, none⟩, ⟨some 11, .extract (.tmp 9) 1, 4, none⟩, ⟨some 4, .assign (.tmp 10), 3, none⟩, ⟨some 5, .assign (.tmp 11), 4, none⟩]) (.ret))⟩
theorem conv_i_findEntry : convF Tryd.f79 = some q_i_findEntry := by kernel_rfl
/-! 83 s_l1Dec -/
abbrev fn_s_l1Dec : FuncId := 83
def q_s_l1Dec_c0 : QCode := .seq (.draw [] [⟨some 18, .move (.tmp 0), 3, none⟩, ⟨some 19, .binOp .quo 3 (.tmp 18) (.const (.int .i64 10)) 3, 3, none⟩, ⟨some 20, .call { callee := .value (.func 83), args := #[.tmp 19], argTypes := #[3] }, 9, none⟩, ⟨some 21, .move (.tmp 0), 3, none⟩, ⟨some 22, .binOp .rem 3 (.tmp 21) (.const (.int .i64 10)) 3, 3, none⟩, ⟨some 23, .binOp .add 3 (.const (.int .i64 48)) (.tmp 22) 3, 3, none⟩, ⟨some 24, .convert 3 5 (.tmp 23), 5, none⟩, ⟨some 25, .buildSlice 40 1 #[(0, .tmp 24)], 40, none⟩, ⟨some 26, .convert 40 9 (.tmp 25), 9, none⟩] [⟨some 27, .binOp .add 9 (.tmp 20) (.tmp 26) 9, 9, none⟩, ⟨some 2, .assign (.tmp 27), 9, none⟩]) (.ret)
@[simp] theorem q_s_l1Dec_c0_run : type_of% (run_is q_s_l1Dec_c0.eq_1) := run_is q_s_l1Dec_c0.eq_1
def q_s_l1Dec_c1 : QCode := .seq (.seq (.ops [⟨some 11, .move (.tmp 0), 3, none⟩, ⟨some 12, .binOp .lss 3 (.tmp 11) (.const (.int .i64 10)) 3, 4, none⟩]) (.cond (.tmp 12) (.seq (.ops [⟨some 13, .move (.tmp 0), 3, none⟩, ⟨some 14, .binOp .add 3 (.const (.int .i64 48)) (.tmp 13) 3, 3, none⟩, ⟨some 15, .convert 3 5 (.tmp 14), 5, none⟩, ⟨some 16, .buildSlice 40 1 #[(0, .tmp 15)], 40, none⟩, ⟨some 17, .convert 40 9 (.tmp 16), 9, none⟩, ⟨some 2, .assign (.tmp 17), 9, none⟩]) (.ret)) (.skip))) (q_s_l1Dec_c0)
@[simp] theorem q_s_l1Dec_c1_run : type_of% (run_is q_s_l1Dec_c1.eq_1) := run_is q_s_l1Dec_c1.eq_1
def q_s_l1Dec_c2 : QCode := .seq (.seq (.ops [⟨some 5, .move (.tmp 0), 3, none⟩, ⟨some 6, .binOp .lss 3 (.tmp 5) (.const (.int .i64 0)) 3, 4, none⟩]) (.cond (.tmp 6) (.seq (.ops [⟨some 7, .move (.tmp 0), 3, none⟩, ⟨some 8, .unOp .neg 3 (.tmp 7), 3, none⟩, ⟨some 9, .call { callee := .value (.func 83), args := #[.tmp 8], argTypes := #[3] }, 9, none⟩, ⟨some 10, .binOp .add 9 (.const (.string { data := #[45] })) (.tmp 9) 9, 9, none⟩, ⟨some 2, .assign (.tmp 10), 9, none⟩]) (.ret)) (.skip))) (q_s_l1Dec_c1)
@[simp] theorem q_s_l1Dec_c2_run : type_of% (run_is q_s_l1Dec_c2.eq_1) := run_is q_s_l1Dec_c2.eq_1
@[simp] def q_s_l1Dec : QFn := ⟨28, [(.tmp 2, 9)], .seq (.ops [⟨some 2, .assign (.const (.string { data := #[] })), 9, none⟩]) (.seq (.seq (.ops [⟨some 3, .move (.tmp 0), 3, none⟩, ⟨some 4, .binOp .lss 3 (.tmp 3) (.const (.int .i64 (-9223372036854775807))) 3, 4, none⟩]) (.cond (.tmp 4) (.seq (.ops [⟨some 2, .assign (.const (.string { data := #[45, 57, 50, 50, 51, 51, 55, 50, 48, 51, 54, 56, 53, 52, 55, 55, 53, 56, 48, 56] })), 9, none⟩]) (.ret)) (.skip))) (q_s_l1Dec_c2))⟩
theorem conv_s_l1Dec : convF Tryd.f83 = some q_s_l1Dec := by kernel_rfl
/-! 84 s_l1Cut -/
abbrev fn_s_l1Cut : FuncId := 84
def q_s_l1Cut_c0 : QCode := .ops [⟨some 21, .move (.tmp 9), 3, none⟩, ⟨some 22, .binOp .add 3 (.tmp 21) (.const (.int .i64 1)) 3, 3, none⟩, ⟨some 9, .assign (.tmp 22), 3, none⟩]
@[simp] theorem q_s_l1Cut_c0_run : type_of% (run_is q_s_l1Cut_c0.eq_1) := run_is q_s_l1Cut_c0.eq_1
def q_s_l1Cut_c1 : QCode := .seq (.block 1 (.seq (.ops [⟨some 23, .move (.tmp 0), 9, none⟩, ⟨some 24, .move (.tmp 9), 3, none⟩, ⟨some 25, .index 9 (.tmp 23) (.tmp 24), 5, none⟩, ⟨some 26, .move (.tmp 1), 5, none⟩, ⟨some 27, .binOp .eql 5 (.tmp 25) (.tmp 26) 5, 4, none⟩]) (.cond (.tmp 27) (.seq (.ops [⟨some 28, .move (.tmp 7), 80, none⟩, ⟨some 29, .move (.tmp 0), 9, none⟩, ⟨some 30, .move (.tmp 8), 3, none⟩, ⟨some 31, .move (.tmp 9), 3, none⟩, ⟨some 32, .slice 9 (.tmp 29) (some (.tmp 30)) (some (.tmp 31)) none, 9, none⟩, ⟨some 33, .buildSlice 80 1 #[(0, .tmp 32)], 80, none⟩, ⟨some 34, .call { callee := .builtin .append, args := #[.tmp 28, .tmp 33], argTypes := #[80, 80] }, 80, none⟩, ⟨some 7, .assign (.tmp 34), 80, none⟩]) (.ops [⟨some 35, .move (.tmp 9), 3, none⟩, ⟨some 36, .binOp .add 3 (.tmp 35) (.const (.int .i64 1)) 3, 3, none⟩, ⟨some 8, .assign (.tmp 36), 3, none⟩])) (.skip)))) (q_s_l1Cut_c0)
@[simp] theorem q_s_l1Cut_c1_run : type_of% (run_is q_s_l1Cut_c1.eq_1) := run_is q_s_l1Cut_c1.eq_1
def q_s_l1Cut_l0 : QCode := .seq (.seq (.ops [⟨some 11, .move (.tmp 9), 3, none⟩, ⟨some 12, .move (.tmp 0), 9, none⟩, ⟨some 13, .call { callee := .builtin .len, args := #[.tmp 12], argTypes := #[9] }, 3, none⟩, ⟨some 14, .binOp .lss 3 (.tmp 11) (.tmp 13) 3, 4, none⟩, ⟨some 15, .move (.tmp 14), 4, none⟩, ⟨some 16, .move (.tmp 7), 80, some (15, true)⟩, ⟨some 17, .call { callee := .builtin .len, args := #[.tmp 16], argTypes := #[80] }, 3, some (15, true)⟩, ⟨some 18, .move (.tmp 2), 3, some (15, true)⟩, ⟨some 19, .binOp .lss 3 (.tmp 17) (.tmp 18) 3, 4, some (15, true)⟩, ⟨some 20, .pick (.tmp 15) (.tmp 19) (.const (.bool false)), 4, none⟩]) (.cond (.tmp 20) (.skip) (.exit 0))) (q_s_l1Cut_c1)
@[simp] theorem q_s_l1Cut_l0_run : type_of% (run_is q_s_l1Cut_l0.eq_1) := run_is q_s_l1Cut_l0.eq_1
def q_s_l1Cut_c2 : QCode := .seq (.ops [⟨some 37, .move (.tmp 7), 80, none⟩, ⟨some 38, .move (.tmp 0), 9, none⟩, ⟨some 39, .move (.tmp 8), 3, none⟩, ⟨some 40, .slice 9 (.tmp 38) (some (.tmp 39)) none none, 9, none⟩, ⟨some 41, .buildSlice 80 1 #[(0, .tmp 40)], 80, none⟩, ⟨some 42, .call { callee := .builtin .append, args := #[.tmp 37, .tmp 41], argTypes := #[80, 80] }, 80, none⟩, ⟨some 6, .assign (.tmp 42), 80, none⟩]) (.ret)
@[simp] theorem q_s_l1Cut_c2_run : type_of% (run_is q_s_l1Cut_c2.eq_1) := run_is q_s_l1Cut_c2.eq_1
@[simp] def q_s_l1Cut : QFn := ⟨43, [(.tmp 6, 80)], .seq (.ops [⟨some 6, .assign (.const (.slice none 0 0)), 80, none⟩]) (.seq (.ops [⟨some 10, .buildSlice 80 0 #[], 80, none⟩, ⟨some 7, .assign (.tmp 10), 80, none⟩]) (.seq (.ops [⟨some 8, .assign (.const (.int .i64 0)), 3, none⟩]) (.seq (.seq (.ops [⟨some 9, .assign (.const (.int .i64 0)), 3, none⟩]) (.block 0 (.loop q_s_l1Cut_l0))) (q_s_l1Cut_c2))))⟩
theorem conv_s_l1Cut : convF Tryd.f84 = some q_s_l1Cut := by kernel_rfl
/-! 85 s_l1Num -/
abbrev fn_s_l1Num : FuncId := 85
def q_s_l1Num_c0 : QCode := .ops [⟨some 25, .move (.tmp 3), 3, none⟩, ⟨some 26, .binOp .mul 3 (.tmp 25) (.const (.int .i64 10)) 3, 3, none⟩, ⟨some 27, .move (.tmp 0), 9, none⟩, ⟨some 28, .move (.tmp 4), 3, none⟩, ⟨some 29, .index 9 (.tmp 27) (.tmp 28), 5, none⟩, ⟨some 30, .binOp .sub 5 (.tmp 29) (.const (.int .u8 48)) 5, 5, none⟩, ⟨some 31, .convert 5 3 (.tmp 30), 3, none⟩, ⟨some 32, .binOp .add 3 (.tmp 26) (.tmp 31) 3, 3, none⟩, ⟨some 3, .assign (.tmp 32), 3, none⟩]
@[simp] theorem q_s_l1Num_c0_run : type_of% (run_is q_s_l1Num_c0.eq_1) := run_is q_s_l1Num_c0.eq_1
def q_s_l1Num_c1 : QCode := .ops [⟨some 9, .move (.tmp 4), 3, none⟩, ⟨some 10, .binOp .add 3 (.tmp 9) (.const (.int .i64 1)) 3, 3, none⟩, ⟨some 4, .assign (.tmp 10), 3, none⟩]
@[simp] theorem q_s_l1Num_c1_run : type_of% (run_is q_s_l1Num_c1.eq_1) := run_is q_s_l1Num_c1.eq_1
def q_s_l1Num_c2 : QCode := .seq (.block 1 (.seq (.seq (.ops [⟨some 11, .move (.tmp 0), 9, none⟩, ⟨some 12, .move (.tmp 4), 3, none⟩, ⟨some 13, .index 9 (.tmp 11) (.tmp 12), 5, none⟩, ⟨some 14, .binOp .lss 5 (.tmp 13) (.const (.int .u8 48)) 5, 4, none⟩, ⟨some 15, .move (.tmp 14), 4, none⟩, ⟨some 16, .move (.tmp 0), 9, some (15, false)⟩, ⟨some 17, .move (.tmp 4), 3, some (15, false)⟩, ⟨some 18, .index 9 (.tmp 16) (.tmp 17), 5, some (15, false)⟩, ⟨some 19, .binOp .gtr 5 (.tmp 18) (.const (.int .u8 57)) 5, 4, some (15, false)⟩, ⟨some 20, .pick (.tmp 15) (.const (.bool true)) (.tmp 19), 4, none⟩, ⟨some 21, .move (.tmp 20), 4, none⟩, ⟨some 22, .move (.tmp 4), 3, some (21, false)⟩, ⟨some 23, .binOp .geq 3 (.tmp 22) (.const (.int .i64 6)) 3, 4, some (21, false)⟩, ⟨some 24, .pick (.tmp 21) (.const (.bool true)) (.tmp 23), 4, none⟩]) (.cond (.tmp 24) (.seq (.ops [⟨some 2, .assign (.const (.int .i64 (-1))), 3, none⟩]) (.ret)) (.skip))) (q_s_l1Num_c0))) (q_s_l1Num_c1)
@[simp] theorem q_s_l1Num_c2_run : type_of% (run_is q_s_l1Num_c2.eq_1) := run_is q_s_l1Num_c2.eq_1
def q_s_l1Num_l0 : QCode := .seq (.seq (.ops [⟨some 5, .move (.tmp 4), 3, none⟩, ⟨some 6, .move (.tmp 0), 9, none⟩, ⟨some 7, .call { callee := .builtin .len, args := #[.tmp 6], argTypes := #[9] }, 3, none⟩, ⟨some 8, .binOp .lss 3 (.tmp 5) (.tmp 7) 3, 4, none⟩]) (.cond (.tmp 8) (.skip) (.exit 0))) (q_s_l1Num_c2)
@[simp] theorem q_s_l1Num_l0_run : type_of% (run_is q_s_l1Num_l0.eq_1) := run_is q_s_l1Num_l0.eq_1
def q_s_l1Num_c3 : QCode := .seq (.ops [⟨some 46, .move (.tmp 3), 3, none⟩, ⟨some 2, .assign (.tmp 46), 3, none⟩]) (.ret)
@[simp] theorem q_s_l1Num_c3_run : type_of% (run_is q_s_l1Num_c3.eq_1) := run_is q_s_l1Num_c3.eq_1
def q_s_l1Num_c4 : QCode := .seq (.seq (.ops [⟨some 33, .move (.tmp 0), 9, none⟩, ⟨some 34, .call { callee := .builtin .len, args := #[.tmp 33], argTypes := #[9] }, 3, none⟩, ⟨some 35, .binOp .eql 3 (.tmp 34) (.const (.int .i64 0)) 3, 4, none⟩, ⟨some 36, .move (.tmp 35), 4, none⟩, ⟨some 37, .move (.tmp 0), 9, some (36, false)⟩, ⟨some 38, .call { callee := .builtin .len, args := #[.tmp 37], argTypes := #[9] }, 3, some (36, false)⟩, ⟨some 39, .binOp .gtr 3 (.tmp 38) (.const (.int .i64 1)) 3, 4, some (36, false)⟩, ⟨some 40, .move (.tmp 39), 4, some (36, false)⟩, ⟨some 41, .move (.tmp 0), 9, some (40, true)⟩, ⟨some 42, .index 9 (.tmp 41) (.const (.int .i64 0)), 5, some (40, true)⟩, ⟨some 43, .binOp .eql 5 (.tmp 42) (.const (.int .u8 48)) 5, 4, some (40, true)⟩, ⟨some 44, .pick (.tmp 40) (.tmp 43) (.const (.bool false)), 4, some (36, false)⟩, ⟨some 45, .pick (.tmp 36) (.const (.bool true)) (.tmp 44), 4, none⟩]) (.cond (.tmp 45) (.seq (.ops [⟨some 2, .assign (.const (.int .i64 (-1))), 3, none⟩]) (.ret)) (.skip))) (q_s_l1Num_c3)
@[simp] theorem q_s_l1Num_c4_run : type_of% (run_is q_s_l1Num_c4.eq_1) := run_is q_s_l1Num_c4.eq_1
@[simp] def q_s_l1Num : QFn := ⟨47, [(.tmp 2, 3)], .seq (.ops [⟨some 2, .assign (.const (.int .i64 0)), 3, none⟩]) (.seq (.ops [⟨some 3, .assign (.const (.int .i64 0)), 3, none⟩]) (.seq (.seq (.ops [⟨some 4, .assign (.const (.int .i64 0)), 3, none⟩]) (.block 0 (.loop q_s_l1Num_l0))) (q_s_l1Num_c4)))⟩
theorem conv_s_l1Num : convF Tryd.f85 = some q_s_l1Num := by kernel_rfl
/-! 88 s_NeedOk -/
abbrev fn_s_NeedOk : FuncId := 88
@[simp] def q_s_NeedOk : QFn := ⟨26, [(.tmp 2, 4)], .seq (.ops [⟨some 1, .box 59 (.tmp 0), 0, none⟩, ⟨some 2, .assign (.const (.bool false)), 4, none⟩]) (.seq (.ops [⟨some 3, .fieldAddr 59 (.tmp 1) 0, 0, none⟩, ⟨some 4, .load 9 (.tmp 3), 9, none⟩, ⟨some 5, .call { callee := .value (.func 28), args := #[.tmp 4], argTypes := #[9] }, 4, none⟩, ⟨some 6, .move (.tmp 5), 4, none⟩, ⟨some 7, .fieldAddr 59 (.tmp 1) 1, 0, some (6, true)⟩, ⟨some 8, .load 3 (.tmp 7), 3, some (6, true)⟩, ⟨some 9, .binOp .eql 3 (.tmp 8) (.const (.int .i64 0)) 3, 4, some (6, true)⟩, ⟨some 10, .move (.tmp 9), 4, some (6, true)⟩, ⟨some 11, .fieldAddr 59 (.tmp 1) 2, 0, some (10, true)⟩, ⟨some 12, .load 9 (.tmp 11), 9, some (10, true)⟩, ⟨some 13, .binOp .eql 9 (.tmp 12) (.const (.string { data := #[] })) 9, 4, some (10, true)⟩, ⟨some 14, .pick (.tmp 10) (.tmp 13) (.const (.bool false)), 4, some (6, true)⟩, ⟨some 15, .move (.tmp 14), 4, some (6, true)⟩, ⟨some 16, .fieldAddr 59 (.tmp 1) 1, 0, some (15, false)⟩, ⟨some 17, .load 3 (.tmp 16), 3, some (15, false)⟩, ⟨some 18, .call { callee := .value (.func 57), args := #[.tmp 17, .const (.int .i64 1), .const (.int .i64 3)], argTypes := #[3, 3, 3] }, 4, some (15, false)⟩, ⟨some 19, .move (.tmp 18), 4, some (15, false)⟩, ⟨some 20, .fieldAddr 59 (.tmp 1) 2, 0, some (19, true)⟩, ⟨some 21, .load 9 (.tmp 20), 9, some (19, true)⟩, ⟨some 22, .call { callee := .value (.func 29), args := #[.tmp 21], argTypes := #[9] }, 4, some (19, true)⟩, ⟨some 23, .pick (.tmp 19) (.tmp 22) (.const (.bool false)), 4, some (15, false)⟩, ⟨some 24, .pick (.tmp 15) (.const (.bool true)) (.tmp 23), 4, some (6, true)⟩, ⟨some 25, .pick (.tmp 6) (.tmp 24) (.const (.bool false)), 4, none⟩, ⟨some 2, .assign (.tmp 25), 4, none⟩]) (.ret))⟩
theorem conv_s_NeedOk : convF Tryd.f88 = some q_s_NeedOk := by kernel_rfl
/-! 89 s_l1Path -/
abbrev fn_s_l1Path : FuncId := 89
def q_s_l1Path_c0 : QCode := .ops [⟨some 14, .move (.tmp 4), 3, none⟩, ⟨some 15, .binOp .add 3 (.tmp 14) (.const (.int .i64 1)) 3, 3, none⟩, ⟨some 4, .assign (.tmp 15), 3, none⟩]
@[simp] theorem q_s_l1Path_c0_run : type_of% (run_is q_s_l1Path_c0.eq_1) := run_is q_s_l1Path_c0.eq_1
def q_s_l1Path_c1 : QCode := .seq (.block 1 (.seq (.ops [⟨some 16, .move (.tmp 3), 80, none⟩, ⟨some 17, .move (.tmp 4), 3, none⟩, ⟨some 18, .indexAddr 80 (.tmp 16) (.tmp 17), 0, none⟩, ⟨some 19, .load 9 (.tmp 18), 9, none⟩, ⟨some 20, .call { callee := .value (.func 110), args := #[.tmp 19], argTypes := #[9] }, 4, none⟩, ⟨some 21, .unOp .not 4 (.tmp 20), 4, none⟩]) (.cond (.tmp 21) (.seq (.ops [⟨some 2, .assign (.const (.bool false)), 4, none⟩]) (.ret)) (.skip)))) (q_s_l1Path_c0)
@[simp] theorem q_s_l1Path_c1_run : type_of% (run_is q_s_l1Path_c1.eq_1) := run_is q_s_l1Path_c1.eq_1
def q_s_l1Path_l0 : QCode := .seq (.seq (.ops [⟨some 10, .move (.tmp 4), 3, none⟩, ⟨some 11, .move (.tmp 3), 80, none⟩, ⟨some 12, .call { callee := .builtin .len, args := #[.tmp 11], argTypes := #[80] }, 3, none⟩, ⟨some 13, .binOp .lss 3 (.tmp 10) (.tmp 12) 3, 4, none⟩]) (.cond (.tmp 13) (.skip) (.exit 0))) (q_s_l1Path_c1)
@[simp] theorem q_s_l1Path_l0_run : type_of% (run_is q_s_l1Path_l0.eq_1) := run_is q_s_l1Path_l0.eq_1
def q_s_l1Path_c2 : QCode := .seq (.ops [⟨some 22, .move (.tmp 3), 80, none⟩, ⟨some 23, .call { callee := .builtin .len, args := #[.tmp 22], argTypes := #[80] }, 3, none⟩, ⟨some 24, .binOp .leq 3 (.tmp 23) (.const (.int .i64 5)) 3, 4, none⟩, ⟨some 2, .assign (.tmp 24), 4, none⟩]) (.ret)
@[simp] theorem q_s_l1Path_c2_run : type_of% (run_is q_s_l1Path_c2.eq_1) := run_is q_s_l1Path_c2.eq_1
@[simp] def q_s_l1Path : QFn := ⟨25, [(.tmp 2, 4)], .seq (.ops [⟨some 2, .assign (.const (.bool false)), 4, none⟩]) (.seq (.ops [⟨some 5, .move (.tmp 0), 9, none⟩, ⟨some 6, .move (.tmp 0), 9, none⟩, ⟨some 7, .call { callee := .builtin .len, args := #[.tmp 6], argTypes := #[9] }, 3, none⟩, ⟨some 8, .binOp .add 3 (.tmp 7) (.const (.int .i64 1)) 3, 3, none⟩, ⟨some 9, .call { callee := .value (.func 84), args := #[.tmp 5, .const (.int .u8 47), .tmp 8], argTypes := #[9, 5, 3] }, 80, none⟩, ⟨some 3, .assign (.tmp 9), 80, none⟩]) (.seq (.seq (.ops [⟨some 4, .assign (.const (.int .i64 0)), 3, none⟩]) (.block 0 (.loop q_s_l1Path_l0))) (q_s_l1Path_c2)))⟩
theorem conv_s_l1Path : convF Tryd.f89 = some q_s_l1Path := by kernel_rfl
/-! 90 s_l2Text -/
abbrev fn_s_l2Text : FuncId := 90
def q_s_l2Text_c0 : QCode := .ops [⟨some 8, .move (.tmp 3), 3, none⟩, ⟨some 9, .binOp .add 3 (.tmp 8) (.const (.int .i64 1)) 3, 3, none⟩, ⟨some 3, .assign (.tmp 9), 3, none⟩]
@[simp] theorem q_s_l2Text_c0_run : type_of% (run_is q_s_l2Text_c0.eq_1) := run_is q_s_l2Text_c0.eq_1
def q_s_l2Text_c1 : QCode := .seq (.block 1 (.seq (.ops [⟨some 10, .move (.tmp 0), 9, none⟩, ⟨some 11, .move (.tmp 3), 3, none⟩, ⟨some 12, .index 9 (.tmp 10) (.tmp 11), 5, none⟩, ⟨some 13, .binOp .neq 5 (.tmp 12) (.const (.int .u8 10)) 5, 4, none⟩, ⟨some 14, .move (.tmp 13), 4, none⟩, ⟨some 15, .move (.tmp 0), 9, some (14, true)⟩, ⟨some 16, .move (.tmp 3), 3, some (14, true)⟩, ⟨some 17, .index 9 (.tmp 15) (.tmp 16), 5, some (14, true)⟩, ⟨some 18, .convert 5 3 (.tmp 17), 3, some (14, true)⟩, ⟨some 19, .call { callee := .value (.func 57), args := #[.tmp 18, .const (.int .i64 32), .const (.int .i64 126)], argTypes := #[3, 3, 3] }, 4, some (14, true)⟩, ⟨some 20, .unOp .not 4 (.tmp 19), 4, some (14, true)⟩, ⟨some 21, .pick (.tmp 14) (.tmp 20) (.const (.bool false)), 4, none⟩]) (.cond (.tmp 21) (.seq (.ops [⟨some 2, .assign (.const (.bool false)), 4, none⟩]) (.ret)) (.skip)))) (q_s_l2Text_c0)
@[simp] theorem q_s_l2Text_c1_run : type_of% (run_is q_s_l2Text_c1.eq_1) := run_is q_s_l2Text_c1.eq_1
def q_s_l2Text_l0 : QCode := .seq (.seq (.ops [⟨some 4, .move (.tmp 3), 3, none⟩, ⟨some 5, .move (.tmp 0), 9, none⟩, ⟨some 6, .call { callee := .builtin .len, args := #[.tmp 5], argTypes := #[9] }, 3, none⟩, ⟨some 7, .binOp .lss 3 (.tmp 4) (.tmp 6) 3, 4, none⟩]) (.cond (.tmp 7) (.skip) (.exit 0))) (q_s_l2Text_c1)
@[simp] theorem q_s_l2Text_l0_run : type_of% (run_is q_s_l2Text_l0.eq_1) := run_is q_s_l2Text_l0.eq_1
def q_s_l2Text_c2 : QCode := .seq (.ops [⟨some 22, .move (.tmp 0), 9, none⟩, ⟨some 23, .call { callee := .builtin .len, args := #[.tmp 22], argTypes := #[9] }, 3, none⟩, ⟨some 24, .binOp .leq 3 (.tmp 23) (.const (.int .i64 80)) 3, 4, none⟩, ⟨some 2, .assign (.tmp 24), 4, none⟩]) (.ret)
@[simp] theorem q_s_l2Text_c2_run : type_of% (run_is q_s_l2Text_c2.eq_1) := run_is q_s_l2Text_c2.eq_1
@[simp] def q_s_l2Text : QFn := ⟨25, [(.tmp 2, 4)], .seq (.ops [⟨some 2, .assign (.const (.bool false)), 4, none⟩]) (.seq (.seq (.ops [⟨some 3, .assign (.const (.int .i64 0)), 3, none⟩]) (.block 0 (.loop q_s_l2Text_l0))) (q_s_l2Text_c2))⟩
theorem conv_s_l2Text : convF Tryd.f90 = some q_s_l2Text := by kernel_rfl
/-! 91 s_l2At -/
abbrev fn_s_l2At : FuncId := 91
def q_s_l2At_c0 : QCode := .block 1 (.ops [⟨some 20, .move (.tmp 6), 3, none⟩, ⟨some 21, .binOp .add 3 (.tmp 20) (.const (.int .i64 1)) 3, 3, none⟩, ⟨some 6, .assign (.tmp 21), 3, none⟩])
@[simp] theorem q_s_l2At_c0_run : type_of% (run_is q_s_l2At_c0.eq_1) := run_is q_s_l2At_c0.eq_1
def q_s_l2At_l0 : QCode := .seq (.seq (.ops [⟨some 7, .move (.tmp 6), 3, none⟩, ⟨some 8, .move (.tmp 0), 22, none⟩, ⟨some 9, .call { callee := .builtin .len, args := #[.tmp 8], argTypes := #[22] }, 3, none⟩, ⟨some 10, .binOp .lss 3 (.tmp 7) (.tmp 9) 3, 4, none⟩, ⟨some 11, .move (.tmp 10), 4, none⟩, ⟨some 12, .move (.tmp 0), 22, some (11, true)⟩, ⟨some 13, .move (.tmp 6), 3, some (11, true)⟩, ⟨some 14, .indexAddr 22 (.tmp 12) (.tmp 13), 0, some (11, true)⟩, ⟨some 15, .fieldAddr 47 (.tmp 14) 0, 0, some (11, true)⟩, ⟨some 16, .load 9 (.tmp 15), 9, some (11, true)⟩, ⟨some 17, .move (.tmp 1), 9, some (11, true)⟩, ⟨some 18, .binOp .lss 9 (.tmp 16) (.tmp 17) 9, 4, some (11, true)⟩, ⟨some 19, .pick (.tmp 11) (.tmp 18) (.const (.bool false)), 4, none⟩]) (.cond (.tmp 19) (.skip) (.exit 0))) (q_s_l2At_c0)
@[simp] theorem q_s_l2At_l0_run : type_of% (run_is q_s_l2At_l0.eq_1) := run_is q_s_l2At_l0.eq_1
def q_s_l2At_c1 : QCode := .seq (.draw [] [⟨some 22, .move (.tmp 6), 3, none⟩, ⟨some 23, .move (.tmp 6), 3, none⟩, ⟨some 24, .move (.tmp 0), 22, none⟩, ⟨some 25, .call { callee := .builtin .len, args := #[.tmp 24], argTypes := #[22] }, 3, none⟩, ⟨some 26, .binOp .lss 3 (.tmp 23) (.tmp 25) 3, 4, none⟩, ⟨some 27, .move (.tmp 26), 4, none⟩, ⟨some 28, .move (.tmp 0), 22, some (27, true)⟩, ⟨some 29, .move (.tmp 6), 3, some (27, true)⟩, ⟨some 30, .indexAddr 22 (.tmp 28) (.tmp 29), 0, some (27, true)⟩, ⟨some 31, .fieldAddr 47 (.tmp 30) 0, 0, some (27, true)⟩, ⟨some 32, .load 9 (.tmp 31), 9, some (27, true)⟩, ⟨some 33, .move (.tmp 1), 9, some (27, true)⟩, ⟨some 34, .binOp .eql 9 (.tmp 32) (.tmp 33) 9, 4, some (27, true)⟩, ⟨some 35, .pick (.tmp 27) (.tmp 34) (.const (.bool false)), 4, none⟩, ⟨some 4, .assign (.tmp 22), 3, none⟩] [⟨some 5, .assign (.tmp 35), 4, none⟩]) (.ret)
@[simp] theorem q_s_l2At_c1_run : type_of% (run_is q_s_l2At_c1.eq_1) := run_is q_s_l2At_c1.eq_1
@[simp] def q_s_l2At : QFn := ⟨36, [(.tmp 4, 3), (.tmp 5, 4)], .seq (.ops [⟨some 4, .assign (.const (.int .i64 0)), 3, none⟩, ⟨some 5, .assign (.const (.bool false)), 4, none⟩]) (.seq (.ops [⟨some 6, .assign (.const (.int .i64 0)), 3, none⟩]) (.seq (.block 0 (.loop q_s_l2At_l0)) (q_s_l2At_c1)))⟩
theorem conv_s_l2At : convF Tryd.f91 = some q_s_l2At := by kernel_rfl
/-! 93 slices_Index_L_string_string -/
abbrev fn_slices_Index_L_string_string : FuncId := 93
def q_slices_Index_L_string_string_c0 : QCode := .ops [⟨some 18, .binOp .add 3 (.tmp 8) (.const (.int .i64 1)) 3, 3, none⟩, ⟨some 8, .move (.tmp 18), 3, none⟩]
@[simp] theorem q_slices_Index_L_string_string_c0_run : type_of% (run_is q_slices_Index_L_string_string_c0.eq_1) := run_is q_slices_Index_L_string_string_c0.eq_1
def q_slices_Index_L_string_string_c1 : QCode := .seq (.block 1 (.seq (.ops [⟨some 10, .move (.tmp 8), 3, none⟩, ⟨some 5, .assign (.tmp 10), 3, none⟩]) (.seq (.ops [⟨some 11, .move (.tmp 1), 9, none⟩, ⟨some 12, .move (.tmp 0), 80, none⟩, ⟨some 13, .move (.tmp 5), 3, none⟩, ⟨some 14, .indexAddr 80 (.tmp 12) (.tmp 13), 0, none⟩, ⟨some 15, .load 9 (.tmp 14), 9, none⟩, ⟨some 16, .binOp .eql 9 (.tmp 11) (.tmp 15) 9, 4, none⟩]) (.cond (.tmp 16) (.seq (.ops [⟨some 17, .move (.tmp 5), 3, none⟩, ⟨some 4, .assign (.tmp 17), 3, none⟩]) (.ret)) (.skip))))) (q_slices_Index_L_string_string_c0)
@[simp] theorem q_slices_Index_L_string_string_c1_run : type_of% (run_is q_slices_Index_L_string_string_c1.eq_1) := run_is q_slices_Index_L_string_string_c1.eq_1
def q_slices_Index_L_string_string_l0 : QCode := .seq (.ops [⟨some 9, .binOp .lss 3 (.tmp 8) (.tmp 7) 3, 0, none⟩]) (.seq (.cond (.tmp 9) (.skip) (.exit 0)) (q_slices_Index_L_string_string_c1))
@[simp] theorem q_slices_Index_L_string_string_l0_run : type_of% (run_is q_slices_Index_L_string_string_l0.eq_1) := run_is q_slices_Index_L_string_string_l0.eq_1
def q_slices_Index_L_string_string_c2 : QCode := .seq (.ops [⟨some 4, .assign (.const (.int .i64 (-1))), 3, none⟩]) (.ret)
@[simp] theorem q_slices_Index_L_string_string_c2_run : type_of% (run_is q_slices_Index_L_string_string_c2.eq_1) := run_is q_slices_Index_L_string_string_c2.eq_1
@[simp] def q_slices_Index_L_string_string : QFn := ⟨19, [(.tmp 4, 3)], .seq (.ops [⟨some 4, .assign (.const (.int .i64 0)), 3, none⟩]) (.seq (.seq (.ops [⟨some 6, .move (.tmp 0), 80, none⟩, ⟨some 7, .call { callee := .builtin .len, args := #[.tmp 6], argTypes := #[80] }, 3, none⟩, ⟨some 8, .move (.const (.int .i64 0)), 3, none⟩]) (.block 0 (.loop q_slices_Index_L_string_string_l0))) (q_slices_Index_L_string_string_c2))⟩
theorem conv_slices_Index_L_string_string : convF Tryd.f93 = some q_slices_Index_L_string_string := by kernel_rfl
/-! 99 i_nameOk -/
abbrev fn_i_nameOk : FuncId := 99
@[simp] def q_i_nameOk : QFn := ⟨18, [(.tmp 2, 4)], .seq (.ops [⟨some 2, .assign (.const (.bool false)), 4, none⟩]) (.seq (.ops [⟨some 3, .move (.tmp 0), 9, none⟩, ⟨some 4, .call { callee := .builtin .len, args := #[.tmp 3], argTypes := #[9] }, 3, none⟩, ⟨some 5, .binOp .leq 3 (.tmp 4) (.const (.int .i64 10)) 3, 4, none⟩, ⟨some 6, .move (.tmp 5), 4, none⟩, ⟨some 7, .move (.tmp 0), 9, some (6, true)⟩, ⟨some 8, .binOp .neq 9 (.tmp 7) (.const (.string { data := #[46] })) 9, 4, some (6, true)⟩, ⟨some 9, .pick (.tmp 6) (.tmp 8) (.const (.bool false)), 4, none⟩, ⟨some 10, .move (.tmp 9), 4, none⟩, ⟨some 11, .move (.tmp 0), 9, some (10, true)⟩, ⟨some 12, .binOp .neq 9 (.tmp 11) (.const (.string { data := #[46, 46] })) 9, 4, some (10, true)⟩, ⟨some 13, .pick (.tmp 10) (.tmp 12) (.const (.bool false)), 4, none⟩, ⟨some 14, .move (.tmp 13), 4, none⟩, ⟨some 15, .move (.tmp 0), 9, some (14, true)⟩, ⟨some 16, .call { callee := .value (.func 116), args := #[.tmp 15], argTypes := #[9] }, 4, some (14, true)⟩, ⟨some 17, .pick (.tmp 14) (.tmp 16) (.const (.bool false)), 4, none⟩, ⟨some 2, .assign (.tmp 17), 4, none⟩]) (.ret))⟩
theorem conv_i_nameOk : convF Tryd.f99 = some q_i_nameOk := by kernel_rfl
/-! 100 i_plainByte -/
abbrev fn_i_plainByte : FuncId := 100
@[simp] def q_i_plainByte : QFn := ⟨9, [(.tmp 2, 4)], .seq (.ops [⟨some 2, .assign (.const (.bool false)), 4, none⟩]) (.seq (.ops [⟨some 3, .move (.tmp 0), 5, none⟩, ⟨some 4, .binOp .geq 5 (.tmp 3) (.const (.int .u8 32)) 5, 4, none⟩, ⟨some 5, .move (.tmp 4), 4, none⟩, ⟨some 6, .move (.tmp 0), 5, some (5, true)⟩, ⟨some 7, .binOp .leq 5 (.tmp 6) (.const (.int .u8 126)) 5, 4, some (5, true)⟩, ⟨some 8, .pick (.tmp 5) (.tmp 7) (.const (.bool false)), 4, none⟩, ⟨some 2, .assign (.tmp 8), 4, none⟩]) (.ret))⟩
theorem conv_i_plainByte : convF Tryd.f100 = some q_i_plainByte := by kernel_rfl
/-! 102 slices_BinarySearchFunc_L_i_Entry_i_Entry_i_Entry -/
abbrev fn_slices_BinarySearchFunc_L_i_Entry_i_Entry_i_Entry : FuncId := 102
def q_slices_BinarySearchFunc_L_i_Entry_i_Entry_i_Entry_c0 : QCode := .block 1 (.seq (.ops [⟨some 18, .move (.tmp 9), 3, none⟩, ⟨some 19, .move (.tmp 10), 3, none⟩, ⟨some 20, .binOp .add 3 (.tmp 18) (.tmp 19) 3, 3, none⟩, ⟨some 21, .convert 3 139 (.tmp 20), 139, none⟩, ⟨some 22, .binOp .shr 139 (.tmp 21) (.const (.int .u64 1)) 139, 139, none⟩, ⟨some 23, .convert 139 3 (.tmp 22), 3, none⟩, ⟨some 11, .assign (.tmp 23), 3, none⟩]) (.seq (.draw [] [⟨some 24, .move (.tmp 2), 129, none⟩, ⟨some 25, .move (.tmp 0), 22, none⟩, ⟨some 26, .move (.tmp 11), 3, none⟩, ⟨some 27, .indexAddr 22 (.tmp 25) (.tmp 26), 0, none⟩, ⟨some 28, .load 47 (.tmp 27), 47, none⟩, ⟨some 29, .load 47 (.tmp 4), 47, none⟩] [⟨some 30, .call { callee := .value (.tmp 24), args := #[.tmp 28, .tmp 29], argTypes := #[47, 47] }, 3, none⟩, ⟨some 31, .binOp .lss 3 (.tmp 30) (.const (.int .i64 0)) 3, 4, none⟩]) (.cond (.tmp 31) (.ops [⟨some 32, .move (.tmp 11), 3, none⟩, ⟨some 33, .binOp .add 3 (.tmp 32) (.const (.int .i64 1)) 3, 3, none⟩, ⟨some 9, .assign (.tmp 33), 3, none⟩]) (.ops [⟨some 34, .move (.tmp 11), 3, none⟩, ⟨some 10, .assign (.tmp 34), 3, none⟩]))))
@[simp] theorem q_slices_BinarySearchFunc_L_i_Entry_i_Entry_i_Entry_c0_run : type_of% (run_is q_slices_BinarySearchFunc_L_i_Entry_i_Entry_i_Entry_c0.eq_1) := run_is q_slices_BinarySearchFunc_L_i_Entry_i_Entry_i_Entry_c0.eq_1
def q_slices_BinarySearchFunc_L_i_Entry_i_Entry_i_Entry_l0 : QCode := .seq (.seq (.ops [⟨some 15, .move (.tmp 9), 3, none⟩, ⟨some 16, .move (.tmp 10), 3, none⟩, ⟨some 17, .binOp .lss 3 (.tmp 15) (.tmp 16) 3, 4, none⟩]) (.cond (.tmp 17) (.skip) (.exit 0))) (q_slices_BinarySearchFunc_L_i_Entry_i_Entry_i_Entry_c0)
@[simp] theorem q_slices_BinarySearchFunc_L_i_Entry_i_Entry_i_Entry_l0_run : type_of% (run_is q_slices_BinarySearchFunc_L_i_Entry_i_Entry_i_Entry_l0.eq_1) := run_is q_slices_BinarySearchFunc_L_i_Entry_i_Entry_i_Entry_l0.eq_1
def q_slices_BinarySearchFunc_L_i_Entry_i_Entry_i_Entry_c1 : QCode := .seq (.draw [] [⟨some 35, .move (.tmp 9), 3, none⟩, ⟨some 36, .move (.tmp 9), 3, none⟩, ⟨some 37, .move (.tmp 8), 3, none⟩, ⟨some 38, .binOp .lss 3 (.tmp 36) (.tmp 37) 3, 4, none⟩, ⟨some 39, .move (.tmp 38), 4, none⟩, ⟨some 40, .move (.tmp 2), 129, some (39, true)⟩, ⟨some 41, .move (.tmp 0), 22, some (39, true)⟩, ⟨some 42, .move (.tmp 9), 3, some (39, true)⟩, ⟨some 43, .indexAddr 22 (.tmp 41) (.tmp 42), 0, some (39, true)⟩, ⟨some 44, .load 47 (.tmp 43), 47, some (39, true)⟩, ⟨some 45, .load 47 (.tmp 4), 47, some (39, true)⟩, ⟨some 46, .call { callee := .value (.tmp 40), args := #[.tmp 44, .tmp 45], argTypes := #[47, 47] }, 3, some (39, true)⟩, ⟨some 47, .binOp .eql 3 (.tmp 46) (.const (.int .i64 0)) 3, 4, some (39, true)⟩, ⟨some 48, .pick (.tmp 39) (.tmp 47) (.const (.bool false)), 4, none⟩, ⟨some 6, .assign (.tmp 35), 3, none⟩] [⟨some 7, .assign (.tmp 48), 4, none⟩]) (.ret)
@[simp] theorem q_slices_BinarySearchFunc_L_i_Entry_i_Entry_i_Entry_c1_run : type_of% (run_is q_slices_BinarySearchFunc_L_i_Entry_i_Entry_i_Entry_c1.eq_1) := run_is q_slices_BinarySearchFunc_L_i_Entry_i_Entry_i_Entry_c1.eq_1
@[simp] def q_slices_BinarySearchFunc_L_i_Entry_i_Entry_i_Entry : QFn := ⟨49, [(.tmp 6, 3), (.tmp 7, 4)], .seq (.ops [⟨some 4, .box 47 (.tmp 1), 0, none⟩, ⟨some 6, .assign (.const (.int .i64 0)), 3, none⟩, ⟨some 7, .assign (.const (.bool false)), 4, none⟩]) (.seq (.ops [⟨some 12, .move (.tmp 0), 22, none⟩, ⟨some 13, .call { callee := .builtin .len, args := #[.tmp 12], argTypes := #[22] }, 3, none⟩, ⟨some 8, .assign (.tmp 13), 3, none⟩]) (.seq (.ops [⟨some 14, .move (.tmp 8), 3, none⟩, ⟨some 9, .assign (.const (.int .i64 0)), 3, none⟩, ⟨some 10, .assign (.tmp 14), 3, none⟩]) (.seq (.block 0 (.loop q_slices_BinarySearchFunc_L_i_Entry_i_Entry_i_Entry_l0)) (q_slices_BinarySearchFunc_L_i_Entry_i_Entry_i_Entry_c1))))⟩
theorem conv_slices_BinarySearchFunc_L_i_Entry_i_Entry_i_Entry : convF Tryd.f102 = some q_slices_BinarySearchFunc_L_i_Entry_i_Entry_i_Entry := by kernel_rfl
/-! 103 i_byPath -/
abbrev fn_i_byPath : FuncId := 103
@[simp] def q_i_byPath : QFn := ⟨10, [(.tmp 4, 3)], .seq (.ops [⟨some 2, .box 47 (.tmp 0), 0, none⟩, ⟨some 3, .box 47 (.tmp 1), 0, none⟩, ⟨some 4, .assign (.const (.int .i64 0)), 3, none⟩]) (.seq (.ops [⟨some 5, .fieldAddr 47 (.tmp 2) 0, 0, none⟩, ⟨some 6, .load 9 (.tmp 5), 9, none⟩, ⟨some 7, .fieldAddr 47 (.tmp 3) 0, 0, none⟩, ⟨some 8, .load 9 (.tmp 7), 9, none⟩, ⟨some 9, .call { callee := .value (.func 118), args := #[.tmp 6, .tmp 8], argTypes := #[9, 9] }, 3, none⟩, ⟨some 4, .assign (.tmp 9), 3, none⟩]) (.ret))⟩
theorem conv_i_byPath : convF Tryd.f103 = some q_i_byPath := by kernel_rfl
/-! 110 s_l1Name -/
abbrev fn_s_l1Name : FuncId := 110
def q_s_l1Name_c0 : QCode := .ops [⟨some 8, .move (.tmp 3), 3, none⟩, ⟨some 9, .binOp .add 3 (.tmp 8) (.const (.int .i64 1)) 3, 3, none⟩, ⟨some 3, .assign (.tmp 9), 3, none⟩]
@[simp] theorem q_s_l1Name_c0_run : type_of% (run_is q_s_l1Name_c0.eq_1) := run_is q_s_l1Name_c0.eq_1
def q_s_l1Name_c1 : QCode := .seq (.block 1 (.seq (.ops [⟨some 10, .move (.tmp 0), 9, none⟩, ⟨some 11, .move (.tmp 3), 3, none⟩, ⟨some 12, .index 9 (.tmp 10) (.tmp 11), 5, none⟩, ⟨some 13, .call { callee := .value (.func 126), args := #[.tmp 12], argTypes := #[5] }, 4, none⟩, ⟨some 14, .unOp .not 4 (.tmp 13), 4, none⟩]) (.cond (.tmp 14) (.seq (.ops [⟨some 2, .assign (.const (.bool false)), 4, none⟩]) (.ret)) (.skip)))) (q_s_l1Name_c0)
@[simp] theorem q_s_l1Name_c1_run : type_of% (run_is q_s_l1Name_c1.eq_1) := run_is q_s_l1Name_c1.eq_1
def q_s_l1Name_l0 : QCode := .seq (.seq (.ops [⟨some 4, .move (.tmp 3), 3, none⟩, ⟨some 5, .move (.tmp 0), 9, none⟩, ⟨some 6, .call { callee := .builtin .len, args := #[.tmp 5], argTypes := #[9] }, 3, none⟩, ⟨some 7, .binOp .lss 3 (.tmp 4) (.tmp 6) 3, 4, none⟩]) (.cond (.tmp 7) (.skip) (.exit 0))) (q_s_l1Name_c1)
@[simp] theorem q_s_l1Name_l0_run : type_of% (run_is q_s_l1Name_l0.eq_1) := run_is q_s_l1Name_l0.eq_1
def q_s_l1Name_c2 : QCode := .seq (.ops [⟨some 15, .move (.tmp 0), 9, none⟩, ⟨some 16, .call { callee := .builtin .len, args := #[.tmp 15], argTypes := #[9] }, 3, none⟩, ⟨some 17, .call { callee := .value (.func 57), args := #[.tmp 16, .const (.int .i64 1), .const (.int .i64 10)], argTypes := #[3, 3, 3] }, 4, none⟩, ⟨some 18, .move (.tmp 17), 4, none⟩, ⟨some 19, .move (.tmp 0), 9, some (18, true)⟩, ⟨some 20, .binOp .neq 9 (.tmp 19) (.const (.string { data := #[46] })) 9, 4, some (18, true)⟩, ⟨some 21, .pick (.tmp 18) (.tmp 20) (.const (.bool false)), 4, none⟩, ⟨some 22, .move (.tmp 21), 4, none⟩, ⟨some 23, .move (.tmp 0), 9, some (22, true)⟩, ⟨some 24, .binOp .neq 9 (.tmp 23) (.const (.string { data := #[46, 46] })) 9, 4, some (22, true)⟩, ⟨some 25, .pick (.tmp 22) (.tmp 24) (.const (.bool false)), 4, none⟩, ⟨some 2, .assign (.tmp 25), 4, none⟩]) (.ret)
@[simp] theorem q_s_l1Name_c2_run : type_of% (run_is q_s_l1Name_c2.eq_1) := run_is q_s_l1Name_c2.eq_1
@[simp] def q_s_l1Name : QFn := ⟨26, [(.tmp 2, 4)], .seq (.ops [⟨some 2, .assign (.const (.bool false)), 4, none⟩]) (.seq (.seq (.ops [⟨some 3, .assign (.const (.int .i64 0)), 3, none⟩]) (.block 0 (.loop q_s_l1Name_l0))) (q_s_l1Name_c2))⟩
theorem conv_s_l1Name : convF Tryd.f110 = some q_s_l1Name := by kernel_rfl
/-! 116 i_nameBytes -/
abbrev fn_i_nameBytes : FuncId := 116
def q_i_nameBytes_c0 : QCode := .ops [⟨some 14, .binOp .add 3 (.tmp 6) (.const (.int .i64 1)) 3, 3, none⟩, ⟨some 6, .move (.tmp 14), 3, none⟩]
@[simp] theorem q_i_nameBytes_c0_run : type_of% (run_is q_i_nameBytes_c0.eq_1) := run_is q_i_nameBytes_c0.eq_1
def q_i_nameBytes_c1 : QCode := .seq (.block 1 (.seq (.ops [⟨some 8, .move (.tmp 6), 3, none⟩, ⟨some 3, .assign (.tmp 8), 3, none⟩]) (.seq (.ops [⟨some 9, .move (.tmp 0), 9, none⟩, ⟨some 10, .move (.tmp 3), 3, none⟩, ⟨some 11, .index 9 (.tmp 9) (.tmp 10), 5, none⟩, ⟨some 12, .call { callee := .value (.func 133), args := #[.tmp 11], argTypes := #[5] }, 4, none⟩, ⟨some 13, .unOp .not 4 (.tmp 12), 4, none⟩]) (.cond (.tmp 13) (.seq (.ops [⟨some 2, .assign (.const (.bool false)), 4, none⟩]) (.ret)) (.skip))))) (q_i_nameBytes_c0)
@[simp] theorem q_i_nameBytes_c1_run : type_of% (run_is q_i_nameBytes_c1.eq_1) := run_is q_i_nameBytes_c1.eq_1
def q_i_nameBytes_l0 : QCode := .seq (.ops [⟨some 7, .binOp .lss 3 (.tmp 6) (.tmp 5) 3, 4, none⟩]) (.seq (.cond (.tmp 7) (.skip) (.exit 0)) (q_i_nameBytes_c1))
@[simp] theorem q_i_nameBytes_l0_run : type_of% (run_is q_i_nameBytes_l0.eq_1) := run_is q_i_nameBytes_l0.eq_1
def q_i_nameBytes_c2 : QCode := .seq (.ops [⟨some 15, .move (.tmp 0), 9, none⟩, ⟨some 16, .binOp .neq 9 (.tmp 15) (.const (.string { data := #[] })) 9, 4, none⟩, ⟨some 2, .assign (.tmp 16), 4, none⟩]) (.ret)
@[simp] theorem q_i_nameBytes_c2_run : type_of% (run_is q_i_nameBytes_c2.eq_1) := run_is q_i_nameBytes_c2.eq_1
@[simp] def q_i_nameBytes : QFn := ⟨17, [(.tmp 2, 4)], .seq (.ops [⟨some 2, .assign (.const (.bool false)), 4, none⟩]) (.seq (.seq (.ops [⟨some 4, .move (.tmp 0), 9, none⟩, ⟨some 5, .call { callee := .builtin .len, args := #[.tmp 4], argTypes := #[9] }, 3, none⟩, ⟨some 6, .move (.const (.int .i64 0)), 3, none⟩]) (.block 0 (.loop q_i_nameBytes_l0))) (q_i_nameBytes_c2))⟩
theorem conv_i_nameBytes : convF Tryd.f116 = some q_i_nameBytes := by kernel_rfl
/-! 118 cmp_Compare_string -/
abbrev fn_cmp_Compare_string : FuncId := 118
def q_cmp_Compare_string_c0 : QCode := .seq (.ops [⟨some 4, .assign (.const (.int .i64 (-1))), 3, none⟩]) (.ret)
@[simp] theorem q_cmp_Compare_string_c0_run : type_of% (run_is q_cmp_Compare_string_c0.eq_1) := run_is q_cmp_Compare_string_c0.eq_1
def q_cmp_Compare_string_c1 : QCode := .seq (.ops [⟨some 4, .assign (.const (.int .i64 0)), 3, none⟩]) (.ret)
@[simp] theorem q_cmp_Compare_string_c1_run : type_of% (run_is q_cmp_Compare_string_c1.eq_1) := run_is q_cmp_Compare_string_c1.eq_1
def q_cmp_Compare_string_c2 : QCode := .seq (.seq (.ops [⟨some 17, .move (.tmp 0), 9, none⟩, ⟨some 18, .move (.tmp 1), 9, none⟩, ⟨some 19, .binOp .gtr 9 (.tmp 17) (.tmp 18) 9, 4, none⟩]) (.cond (.tmp 19) (.seq (.ops [⟨some 4, .assign (.const (.int .i64 1)), 3, none⟩]) (.ret)) (.skip))) (q_cmp_Compare_string_c1)
@[simp] theorem q_cmp_Compare_string_c2_run : type_of% (run_is q_cmp_Compare_string_c2.eq_1) := run_is q_cmp_Compare_string_c2.eq_1
def q_cmp_Compare_string_c3 : QCode := .seq (.seq (.ops [⟨some 14, .move (.tmp 0), 9, none⟩, ⟨some 15, .move (.tmp 1), 9, none⟩, ⟨some 16, .binOp .lss 9 (.tmp 14) (.tmp 15) 9, 4, none⟩]) (.cond (.tmp 16) (.seq (.ops [⟨some 4, .assign (.const (.int .i64 (-1))), 3, none⟩]) (.ret)) (.skip))) (q_cmp_Compare_string_c2)
@[simp] theorem q_cmp_Compare_string_c3_run : type_of% (run_is q_cmp_Compare_string_c3.eq_1) := run_is q_cmp_Compare_string_c3.eq_1
def q_cmp_Compare_string_c4 : QCode := .seq (.seq (.ops [⟨some 13, .move (.tmp 6), 4, none⟩]) (.cond (.tmp 13) (.seq (.ops [⟨some 4, .assign (.const (.int .i64 1)), 3, none⟩]) (.ret)) (.skip))) (q_cmp_Compare_string_c3)
@[simp] theorem q_cmp_Compare_string_c4_run : type_of% (run_is q_cmp_Compare_string_c4.eq_1) := run_is q_cmp_Compare_string_c4.eq_1
@[simp] def q_cmp_Compare_string : QFn := ⟨20, [(.tmp 4, 3)], .seq (.ops [⟨some 4, .assign (.const (.int .i64 0)), 3, none⟩]) (.seq (.ops [⟨some 7, .move (.tmp 0), 9, none⟩, ⟨some 8, .call { callee := .value (.func 134), args := #[.tmp 7], argTypes := #[9] }, 4, none⟩, ⟨some 5, .assign (.tmp 8), 4, none⟩]) (.seq (.ops [⟨some 9, .move (.tmp 1), 9, none⟩, ⟨some 10, .call { callee := .value (.func 134), args := #[.tmp 9], argTypes := #[9] }, 4, none⟩, ⟨some 6, .assign (.tmp 10), 4, none⟩]) (.seq (.seq (.ops [⟨some 11, .move (.tmp 5), 4, none⟩]) (.cond (.tmp 11) (.seq (.seq (.ops [⟨some 12, .move (.tmp 6), 4, none⟩]) (.cond (.tmp 12) (.seq (.ops [⟨some 4, .assign (.const (.int .i64 0)), 3, none⟩]) (.ret)) (.skip))) (q_cmp_Compare_string_c0)) (.skip))) (q_cmp_Compare_string_c4))))⟩
theorem conv_cmp_Compare_string : convF Tryd.f118 = some q_cmp_Compare_string := by kernel_rfl
/-! 126 s_l1Small -/
abbrev fn_s_l1Small : FuncId := 126
@[simp] def q_s_l1Small : QFn := ⟨29, [(.tmp 2, 4)], .seq (.ops [⟨some 2, .assign (.const (.bool false)), 4, none⟩]) (.seq (.ops [⟨some 3, .move (.tmp 0), 5, none⟩, ⟨some 4, .binOp .geq 5 (.tmp 3) (.const (.int .u8 97)) 5, 4, none⟩, ⟨some 5, .move (.tmp 4), 4, none⟩, ⟨some 6, .move (.tmp 0), 5, some (5, true)⟩, ⟨some 7, .binOp .leq 5 (.tmp 6) (.const (.int .u8 122)) 5, 4, some (5, true)⟩, ⟨some 8, .pick (.tmp 5) (.tmp 7) (.const (.bool false)), 4, none⟩, ⟨some 9, .move (.tmp 8), 4, none⟩, ⟨some 10, .move (.tmp 0), 5, some (9, false)⟩, ⟨some 11, .binOp .geq 5 (.tmp 10) (.const (.int .u8 48)) 5, 4, some (9, false)⟩, ⟨some 12, .move (.tmp 11), 4, some (9, false)⟩, ⟨some 13, .move (.tmp 0), 5, some (12, true)⟩, ⟨some 14, .binOp .leq 5 (.tmp 13) (.const (.int .u8 57)) 5, 4, some (12, true)⟩, ⟨some 15, .pick (.tmp 12) (.tmp 14) (.const (.bool false)), 4, some (9, false)⟩, ⟨some 16, .pick (.tmp 9) (.const (.bool true)) (.tmp 15), 4, none⟩, ⟨some 17, .move (.tmp 16), 4, none⟩, ⟨some 18, .move (.tmp 0), 5, some (17, false)⟩, ⟨some 19, .binOp .eql 5 (.tmp 18) (.const (.int .u8 46)) 5, 4, some (17, false)⟩, ⟨some 20, .pick (.tmp 17) (.const (.bool true)) (.tmp 19), 4, none⟩, ⟨some 21, .move (.tmp 20), 4, none⟩, ⟨some 22, .move (.tmp 0), 5, some (21, false)⟩, ⟨some 23, .binOp .eql 5 (.tmp 22) (.const (.int .u8 95)) 5, 4, some (21, false)⟩, ⟨some 24, .pick (.tmp 21) (.const (.bool true)) (.tmp 23), 4, none⟩, ⟨some 25, .move (.tmp 24), 4, none⟩, ⟨some 26, .move (.tmp 0), 5, some (25, false)⟩, ⟨some 27, .binOp .eql 5 (.tmp 26) (.const (.int .u8 45)) 5, 4, some (25, false)⟩, ⟨some 28, .pick (.tmp 25) (.const (.bool true)) (.tmp 27), 4, none⟩, ⟨some 2, .assign (.tmp 28), 4, none⟩]) (.ret))⟩
theorem conv_s_l1Small : convF Tryd.f126 = some q_s_l1Small := by kernel_rfl
/-! 133 i_nameByte -/
abbrev fn_i_nameByte : FuncId := 133
@[simp] def q_i_nameByte : QFn := ⟨29, [(.tmp 2, 4)], .seq (.ops [⟨some 2, .assign (.const (.bool false)), 4, none⟩]) (.seq (.ops [⟨some 3, .move (.tmp 0), 5, none⟩, ⟨some 4, .binOp .geq 5 (.tmp 3) (.const (.int .u8 97)) 5, 4, none⟩, ⟨some 5, .move (.tmp 4), 4, none⟩, ⟨some 6, .move (.tmp 0), 5, some (5, true)⟩, ⟨some 7, .binOp .leq 5 (.tmp 6) (.const (.int .u8 122)) 5, 4, some (5, true)⟩, ⟨some 8, .pick (.tmp 5) (.tmp 7) (.const (.bool false)), 4, none⟩, ⟨some 9, .move (.tmp 8), 4, none⟩, ⟨some 10, .move (.tmp 0), 5, some (9, false)⟩, ⟨some 11, .binOp .geq 5 (.tmp 10) (.const (.int .u8 48)) 5, 4, some (9, false)⟩, ⟨some 12, .move (.tmp 11), 4, some (9, false)⟩, ⟨some 13, .move (.tmp 0), 5, some (12, true)⟩, ⟨some 14, .binOp .leq 5 (.tmp 13) (.const (.int .u8 57)) 5, 4, some (12, true)⟩, ⟨some 15, .pick (.tmp 12) (.tmp 14) (.const (.bool false)), 4, some (9, false)⟩, ⟨some 16, .pick (.tmp 9) (.const (.bool true)) (.tmp 15), 4, none⟩, ⟨some 17, .move (.tmp 16), 4, none⟩, ⟨some 18, .move (.tmp 0), 5, some (17, false)⟩, ⟨some 19, .binOp .eql 5 (.tmp 18) (.const (.int .u8 46)) 5, 4, some (17, false)⟩, ⟨some 20, .pick (.tmp 17) (.const (.bool true)) (.tmp 19), 4, none⟩, ⟨some 21, .move (.tmp 20), 4, none⟩, ⟨some 22, .move (.tmp 0), 5, some (21, false)⟩, ⟨some 23, .binOp .eql 5 (.tmp 22) (.const (.int .u8 95)) 5, 4, some (21, false)⟩, ⟨some 24, .pick (.tmp 21) (.const (.bool true)) (.tmp 23), 4, none⟩, ⟨some 25, .move (.tmp 24), 4, none⟩, ⟨some 26, .move (.tmp 0), 5, some (25, false)⟩, ⟨some 27, .binOp .eql 5 (.tmp 26) (.const (.int .u8 45)) 5, 4, some (25, false)⟩, ⟨some 28, .pick (.tmp 25) (.const (.bool true)) (.tmp 27), 4, none⟩, ⟨some 2, .assign (.tmp 28), 4, none⟩]) (.ret))⟩
theorem conv_i_nameByte : convF Tryd.f133 = some q_i_nameByte := by kernel_rfl
/-! 134 cmp_isNaN_string -/
abbrev fn_cmp_isNaN_string : FuncId := 134
@[simp] def q_cmp_isNaN_string : QFn := ⟨6, [(.tmp 2, 4)], .seq (.ops [⟨some 2, .assign (.const (.bool false)), 4, none⟩]) (.seq (.ops [⟨some 3, .move (.tmp 0), 9, none⟩, ⟨some 4, .move (.tmp 0), 9, none⟩, ⟨some 5, .binOp .neq 9 (.tmp 3) (.tmp 4) 9, 4, none⟩, ⟨some 2, .assign (.tmp 5), 4, none⟩]) (.ret))⟩
theorem conv_cmp_isNaN_string : convF Tryd.f134 = some q_cmp_isNaN_string := by kernel_rfl
end Go.Qz
