/- The evaluator of the claim and what it says, part Qm0 (several texts in one). -/
import Derived.Test.YtikdjbagodebiaaProg
import Derived.Test.YtikdjbagodebiaaQj0
import Derived.KernelRfl
/- The types of the program, as the evaluator asks of them (printed by a program of ours). -/
namespace Go.Qz
open Go.Proofs

@[simp] theorem ty_size2 : sizeT Try.prog 2 = some 1 := by kernel_rfl
@[simp] theorem ty_agg2 : isAggT Try.prog 2 = false := by kernel_rfl
@[simp] theorem ty_bld2 : builderT Try.prog 2 = none := by kernel_rfl
@[simp] theorem ty_zero2 : zeroA Try.prog 2 = some [.ro (.int .i64 0)] := by kernel_rfl
@[simp] theorem ty_size3 : sizeT Try.prog 3 = some 1 := by kernel_rfl
@[simp] theorem ty_agg3 : isAggT Try.prog 3 = false := by kernel_rfl
@[simp] theorem ty_bld3 : builderT Try.prog 3 = none := by kernel_rfl
@[simp] theorem ty_zero3 : zeroA Try.prog 3 = some [.ro (.int .i64 0)] := by kernel_rfl
@[simp] theorem ty_size4 : sizeT Try.prog 4 = some 1 := by kernel_rfl
@[simp] theorem ty_agg4 : isAggT Try.prog 4 = false := by kernel_rfl
@[simp] theorem ty_bld4 : builderT Try.prog 4 = none := by kernel_rfl
@[simp] theorem ty_zero4 : zeroA Try.prog 4 = some [.ro (.bool false)] := by kernel_rfl
@[simp] theorem ty_size5 : sizeT Try.prog 5 = some 1 := by kernel_rfl
@[simp] theorem ty_agg5 : isAggT Try.prog 5 = false := by kernel_rfl
@[simp] theorem ty_bld5 : builderT Try.prog 5 = none := by kernel_rfl
@[simp] theorem ty_zero5 : zeroA Try.prog 5 = some [.ro (.int .u8 0)] := by kernel_rfl
@[simp] theorem ty_size6 : sizeT Try.prog 6 = some 1 := by kernel_rfl
@[simp] theorem ty_agg6 : isAggT Try.prog 6 = false := by kernel_rfl
@[simp] theorem ty_bld6 : builderT Try.prog 6 = none := by kernel_rfl
@[simp] theorem ty_zero6 : zeroA Try.prog 6 = some [.ro (.int .u8 0)] := by kernel_rfl
@[simp] theorem ty_size7 : sizeT Try.prog 7 = some 4 := by kernel_rfl
@[simp] theorem ty_agg7 : isAggT Try.prog 7 = true := by kernel_rfl
@[simp] theorem ty_bld7 : builderT Try.prog 7 = none := by kernel_rfl
@[simp] theorem ty_f7_0 : fieldAt Try.prog 7 0 = some (0, 2) := by kernel_rfl
@[simp] theorem ty_f7_1 : fieldAt Try.prog 7 1 = some (1, 3) := by kernel_rfl
@[simp] theorem ty_f7_2 : fieldAt Try.prog 7 2 = some (2, 4) := by kernel_rfl
@[simp] theorem ty_f7_3 : fieldAt Try.prog 7 3 = some (3, 6) := by kernel_rfl
@[simp] theorem ty_pl7 : placesOk Try.prog 7 = true := by kernel_rfl
@[simp] theorem ty_zero7 : zeroA Try.prog 7 = some [.ro (.int .i64 0), .ro (.int .i64 0), .ro (.bool false), .ro (.int .u8 0)] := by kernel_rfl
@[simp] theorem ty_size8 : sizeT Try.prog 8 = some 4 := by kernel_rfl
@[simp] theorem ty_agg8 : isAggT Try.prog 8 = true := by kernel_rfl
@[simp] theorem ty_bld8 : builderT Try.prog 8 = none := by kernel_rfl
@[simp] theorem ty_f8_0 : fieldAt Try.prog 8 0 = some (0, 2) := by kernel_rfl
@[simp] theorem ty_f8_1 : fieldAt Try.prog 8 1 = some (1, 3) := by kernel_rfl
@[simp] theorem ty_f8_2 : fieldAt Try.prog 8 2 = some (2, 4) := by kernel_rfl
@[simp] theorem ty_f8_3 : fieldAt Try.prog 8 3 = some (3, 6) := by kernel_rfl
@[simp] theorem ty_pl8 : placesOk Try.prog 8 = true := by kernel_rfl
@[simp] theorem ty_zero8 : zeroA Try.prog 8 = some [.ro (.int .i64 0), .ro (.int .i64 0), .ro (.bool false), .ro (.int .u8 0)] := by kernel_rfl
@[simp] theorem ty_size9 : sizeT Try.prog 9 = some 1 := by kernel_rfl
@[simp] theorem ty_agg9 : isAggT Try.prog 9 = false := by kernel_rfl
@[simp] theorem ty_bld9 : builderT Try.prog 9 = none := by kernel_rfl
@[simp] theorem ty_zero9 : zeroA Try.prog 9 = some [.ro (.str ⟨#[]⟩)] := by kernel_rfl
@[simp] theorem ty_size10 : sizeT Try.prog 10 = some 1 := by kernel_rfl
@[simp] theorem ty_agg10 : isAggT Try.prog 10 = false := by kernel_rfl
@[simp] theorem ty_bld10 : builderT Try.prog 10 = none := by kernel_rfl
@[simp] theorem ty_zero10 : zeroA Try.prog 10 = some [.ro (.str ⟨#[]⟩)] := by kernel_rfl
@[simp] theorem ty_size11 : sizeT Try.prog 11 = some 1 := by kernel_rfl
@[simp] theorem ty_agg11 : isAggT Try.prog 11 = false := by kernel_rfl
@[simp] theorem ty_bld11 : builderT Try.prog 11 = none := by kernel_rfl
@[simp] theorem ty_zero11 : zeroA Try.prog 11 = some [.ro (.str ⟨#[]⟩)] := by kernel_rfl
@[simp] theorem ty_size12 : sizeT Try.prog 12 = some 1 := by kernel_rfl
@[simp] theorem ty_agg12 : isAggT Try.prog 12 = false := by kernel_rfl
@[simp] theorem ty_bld12 : builderT Try.prog 12 = none := by kernel_rfl
@[simp] theorem ty_zero12 : zeroA Try.prog 12 = some [.ro (.int .u64 0)] := by kernel_rfl
@[simp] theorem ty_size13 : sizeT Try.prog 13 = some 2 := by kernel_rfl
@[simp] theorem ty_agg13 : isAggT Try.prog 13 = true := by kernel_rfl
@[simp] theorem ty_bld13 : builderT Try.prog 13 = none := by kernel_rfl
@[simp] theorem ty_f13_0 : fieldAt Try.prog 13 0 = some (0, 9) := by kernel_rfl
@[simp] theorem ty_f13_1 : fieldAt Try.prog 13 1 = some (1, 12) := by kernel_rfl
@[simp] theorem ty_pl13 : placesOk Try.prog 13 = true := by kernel_rfl
@[simp] theorem ty_zero13 : zeroA Try.prog 13 = some [.ro (.str ⟨#[]⟩), .ro (.int .u64 0)] := by kernel_rfl
@[simp] theorem ty_size14 : sizeT Try.prog 14 = some 2 := by kernel_rfl
@[simp] theorem ty_agg14 : isAggT Try.prog 14 = true := by kernel_rfl
@[simp] theorem ty_bld14 : builderT Try.prog 14 = none := by kernel_rfl
@[simp] theorem ty_f14_0 : fieldAt Try.prog 14 0 = some (0, 9) := by kernel_rfl
@[simp] theorem ty_f14_1 : fieldAt Try.prog 14 1 = some (1, 12) := by kernel_rfl
@[simp] theorem ty_pl14 : placesOk Try.prog 14 = true := by kernel_rfl
@[simp] theorem ty_zero14 : zeroA Try.prog 14 = some [.ro (.str ⟨#[]⟩), .ro (.int .u64 0)] := by kernel_rfl
@[simp] theorem ty_size15 : sizeT Try.prog 15 = some 1 := by kernel_rfl
@[simp] theorem ty_agg15 : isAggT Try.prog 15 = false := by kernel_rfl
@[simp] theorem ty_bld15 : builderT Try.prog 15 = none := by kernel_rfl
@[simp] theorem ty_zero15 : zeroA Try.prog 15 = some [.ro (.nilp)] := by kernel_rfl
@[simp] theorem ty_size16 : sizeT Try.prog 16 = some 1 := by kernel_rfl
@[simp] theorem ty_agg16 : isAggT Try.prog 16 = false := by kernel_rfl
@[simp] theorem ty_bld16 : builderT Try.prog 16 = none := by kernel_rfl
@[simp] theorem ty_zero16 : zeroA Try.prog 16 = some [.ro (.nilp)] := by kernel_rfl
@[simp] theorem ty_size17 : sizeT Try.prog 17 = some 1 := by kernel_rfl
@[simp] theorem ty_agg17 : isAggT Try.prog 17 = false := by kernel_rfl
@[simp] theorem ty_bld17 : builderT Try.prog 17 = none := by kernel_rfl
@[simp] theorem ty_zero17 : zeroA Try.prog 17 = some [.ro (.nilp)] := by kernel_rfl
@[simp] theorem ty_size18 : sizeT Try.prog 18 = some 1 := by kernel_rfl
@[simp] theorem ty_agg18 : isAggT Try.prog 18 = true := by kernel_rfl
@[simp] theorem ty_bld18 : builderT Try.prog 18 = none := by kernel_rfl
@[simp] theorem ty_f18_0 : fieldAt Try.prog 18 0 = some (0, 17) := by kernel_rfl
@[simp] theorem ty_pl18 : placesOk Try.prog 18 = true := by kernel_rfl
@[simp] theorem ty_zero18 : zeroA Try.prog 18 = some [.ro (.nilp)] := by kernel_rfl
@[simp] theorem ty_size19 : sizeT Try.prog 19 = some 1 := by kernel_rfl
@[simp] theorem ty_agg19 : isAggT Try.prog 19 = true := by kernel_rfl
@[simp] theorem ty_bld19 : builderT Try.prog 19 = none := by kernel_rfl
@[simp] theorem ty_f19_0 : fieldAt Try.prog 19 0 = some (0, 17) := by kernel_rfl
@[simp] theorem ty_pl19 : placesOk Try.prog 19 = true := by kernel_rfl
@[simp] theorem ty_zero19 : zeroA Try.prog 19 = some [.ro (.nilp)] := by kernel_rfl
@[simp] theorem ty_size20 : sizeT Try.prog 20 = some 1 := by kernel_rfl
@[simp] theorem ty_agg20 : isAggT Try.prog 20 = false := by kernel_rfl
@[simp] theorem ty_bld20 : builderT Try.prog 20 = none := by kernel_rfl
@[simp] theorem ty_zero20 : zeroA Try.prog 20 = some [.ro (.nili)] := by kernel_rfl
@[simp] theorem ty_size21 : sizeT Try.prog 21 = some 1 := by kernel_rfl
@[simp] theorem ty_agg21 : isAggT Try.prog 21 = false := by kernel_rfl
@[simp] theorem ty_bld21 : builderT Try.prog 21 = none := by kernel_rfl
@[simp] theorem ty_zero21 : zeroA Try.prog 21 = some [.ro (.int .i32 0)] := by kernel_rfl
@[simp] theorem ty_size22 : sizeT Try.prog 22 = some 1 := by kernel_rfl
@[simp] theorem ty_agg22 : isAggT Try.prog 22 = false := by kernel_rfl
@[simp] theorem ty_bld22 : builderT Try.prog 22 = none := by kernel_rfl
@[simp] theorem ty_byte22 : byteT Try.prog 22 = some 5 := by kernel_rfl
@[simp] theorem ty_z22 : zOf Try.prog 22 = some 1 := by kernel_rfl
@[simp] theorem ty_elem22 : elemT Try.prog 5 = some 1 := by kernel_rfl
@[simp] theorem ty_zd22 : zeroD Try.prog 5 = some (.int .u8 0) := by kernel_rfl
@[simp] theorem ty_zero22 : zeroA Try.prog 22 = some [.own (.sl 1 [])] := by kernel_rfl
@[simp] theorem ty_size23 : sizeT Try.prog 23 = some 1 := by kernel_rfl
@[simp] theorem ty_agg23 : isAggT Try.prog 23 = false := by kernel_rfl
@[simp] theorem ty_bld23 : builderT Try.prog 23 = none := by kernel_rfl
@[simp] theorem ty_byte23 : byteT Try.prog 23 = none := by kernel_rfl
@[simp] theorem ty_z23 : zOf Try.prog 23 = some 1 := by kernel_rfl
@[simp] theorem ty_elem23 : elemT Try.prog 9 = some 1 := by kernel_rfl
@[simp] theorem ty_zd23 : zeroD Try.prog 9 = some (.str ⟨#[]⟩) := by kernel_rfl
@[simp] theorem ty_zero23 : zeroA Try.prog 23 = some [.own (.sl 1 [])] := by kernel_rfl
@[simp] theorem ty_size26 : sizeT Try.prog 26 = some 1 := by kernel_rfl
@[simp] theorem ty_agg26 : isAggT Try.prog 26 = false := by kernel_rfl
@[simp] theorem ty_bld26 : builderT Try.prog 26 = none := by kernel_rfl
@[simp] theorem ty_byte26 : byteT Try.prog 26 = none := by kernel_rfl
@[simp] theorem ty_z26 : zOf Try.prog 26 = some 2 := by kernel_rfl
@[simp] theorem ty_elem26 : elemT Try.prog 39 = some 2 := by kernel_rfl
@[simp] theorem ty_zd26 : zeroD Try.prog 39 = some (.agg [.int .i64 0, .sl 1 []]) := by kernel_rfl
@[simp] theorem ty_zero26 : zeroA Try.prog 26 = some [.own (.sl 2 [])] := by kernel_rfl
@[simp] theorem ty_size29 : sizeT Try.prog 29 = some 1 := by kernel_rfl
@[simp] theorem ty_agg29 : isAggT Try.prog 29 = false := by kernel_rfl
@[simp] theorem ty_bld29 : builderT Try.prog 29 = none := by kernel_rfl
@[simp] theorem ty_byte29 : byteT Try.prog 29 = none := by kernel_rfl
@[simp] theorem ty_z29 : zOf Try.prog 29 = some 1 := by kernel_rfl
@[simp] theorem ty_elem29 : elemT Try.prog 3 = some 1 := by kernel_rfl
@[simp] theorem ty_zd29 : zeroD Try.prog 3 = some (.int .i64 0) := by kernel_rfl
@[simp] theorem ty_zero29 : zeroA Try.prog 29 = some [.own (.sl 1 [])] := by kernel_rfl
@[simp] theorem ty_size38 : sizeT Try.prog 38 = some 2 := by kernel_rfl
@[simp] theorem ty_agg38 : isAggT Try.prog 38 = true := by kernel_rfl
@[simp] theorem ty_bld38 : builderT Try.prog 38 = none := by kernel_rfl
@[simp] theorem ty_f38_0 : fieldAt Try.prog 38 0 = some (0, 3) := by kernel_rfl
@[simp] theorem ty_f38_1 : fieldAt Try.prog 38 1 = some (1, 23) := by kernel_rfl
@[simp] theorem ty_pl38 : placesOk Try.prog 38 = true := by kernel_rfl
@[simp] theorem ty_zero38 : zeroA Try.prog 38 = some [.ro (.int .i64 0), .own (.sl 1 [])] := by kernel_rfl
@[simp] theorem ty_size39 : sizeT Try.prog 39 = some 2 := by kernel_rfl
@[simp] theorem ty_agg39 : isAggT Try.prog 39 = true := by kernel_rfl
@[simp] theorem ty_bld39 : builderT Try.prog 39 = none := by kernel_rfl
@[simp] theorem ty_f39_0 : fieldAt Try.prog 39 0 = some (0, 3) := by kernel_rfl
@[simp] theorem ty_f39_1 : fieldAt Try.prog 39 1 = some (1, 23) := by kernel_rfl
@[simp] theorem ty_pl39 : placesOk Try.prog 39 = true := by kernel_rfl
@[simp] theorem ty_zero39 : zeroA Try.prog 39 = some [.ro (.int .i64 0), .own (.sl 1 [])] := by kernel_rfl
@[simp] theorem ty_size41 : sizeT Try.prog 41 = some 1 := by kernel_rfl
@[simp] theorem ty_agg41 : isAggT Try.prog 41 = false := by kernel_rfl
@[simp] theorem ty_bld41 : builderT Try.prog 41 = none := by kernel_rfl
@[simp] theorem ty_zero41 : zeroA Try.prog 41 = some [.ro (.nilp)] := by kernel_rfl
@[simp] theorem ty_size51 : sizeT Try.prog 51 = some 4 := by kernel_rfl
@[simp] theorem ty_agg51 : isAggT Try.prog 51 = true := by kernel_rfl
@[simp] theorem ty_bld51 : builderT Try.prog 51 = none := by kernel_rfl
@[simp] theorem ty_f51_0 : fieldAt Try.prog 51 0 = some (0, 23) := by kernel_rfl
@[simp] theorem ty_f51_1 : fieldAt Try.prog 51 1 = some (1, 3) := by kernel_rfl
@[simp] theorem ty_f51_2 : fieldAt Try.prog 51 2 = some (2, 3) := by kernel_rfl
@[simp] theorem ty_f51_3 : fieldAt Try.prog 51 3 = some (3, 29) := by kernel_rfl
@[simp] theorem ty_pl51 : placesOk Try.prog 51 = true := by kernel_rfl
@[simp] theorem ty_zero51 : zeroA Try.prog 51 = some [.own (.sl 1 []), .ro (.int .i64 0), .ro (.int .i64 0), .own (.sl 1 [])] := by kernel_rfl
@[simp] theorem ty_size52 : sizeT Try.prog 52 = some 4 := by kernel_rfl
@[simp] theorem ty_agg52 : isAggT Try.prog 52 = true := by kernel_rfl
@[simp] theorem ty_bld52 : builderT Try.prog 52 = none := by kernel_rfl
@[simp] theorem ty_f52_0 : fieldAt Try.prog 52 0 = some (0, 23) := by kernel_rfl
@[simp] theorem ty_f52_1 : fieldAt Try.prog 52 1 = some (1, 3) := by kernel_rfl
@[simp] theorem ty_f52_2 : fieldAt Try.prog 52 2 = some (2, 3) := by kernel_rfl
@[simp] theorem ty_f52_3 : fieldAt Try.prog 52 3 = some (3, 29) := by kernel_rfl
@[simp] theorem ty_pl52 : placesOk Try.prog 52 = true := by kernel_rfl
@[simp] theorem ty_zero52 : zeroA Try.prog 52 = some [.own (.sl 1 []), .ro (.int .i64 0), .ro (.int .i64 0), .own (.sl 1 [])] := by kernel_rfl
@[simp] theorem ty_size62 : sizeT Try.prog 62 = some 2 := by kernel_rfl
@[simp] theorem ty_agg62 : isAggT Try.prog 62 = true := by kernel_rfl
@[simp] theorem ty_bld62 : builderT Try.prog 62 = none := by kernel_rfl
@[simp] theorem ty_f62_0 : fieldAt Try.prog 62 0 = some (0, 22) := by kernel_rfl
@[simp] theorem ty_f62_1 : fieldAt Try.prog 62 1 = some (1, 3) := by kernel_rfl
@[simp] theorem ty_pl62 : placesOk Try.prog 62 = true := by kernel_rfl
@[simp] theorem ty_zero62 : zeroA Try.prog 62 = some [.own (.sl 1 []), .ro (.int .i64 0)] := by kernel_rfl
@[simp] theorem ty_size63 : sizeT Try.prog 63 = some 2 := by kernel_rfl
@[simp] theorem ty_agg63 : isAggT Try.prog 63 = true := by kernel_rfl
@[simp] theorem ty_bld63 : builderT Try.prog 63 = none := by kernel_rfl
@[simp] theorem ty_f63_0 : fieldAt Try.prog 63 0 = some (0, 22) := by kernel_rfl
@[simp] theorem ty_f63_1 : fieldAt Try.prog 63 1 = some (1, 3) := by kernel_rfl
@[simp] theorem ty_pl63 : placesOk Try.prog 63 = true := by kernel_rfl
@[simp] theorem ty_zero63 : zeroA Try.prog 63 = some [.own (.sl 1 []), .ro (.int .i64 0)] := by kernel_rfl
@[simp] theorem ty_size65 : sizeT Try.prog 65 = some 1 := by kernel_rfl
@[simp] theorem ty_agg65 : isAggT Try.prog 65 = false := by kernel_rfl
@[simp] theorem ty_bld65 : builderT Try.prog 65 = none := by kernel_rfl
@[simp] theorem ty_zero65 : zeroA Try.prog 65 = some [.ro (.nilp)] := by kernel_rfl
@[simp] theorem ty_size75 : sizeT Try.prog 75 = some 2 := by kernel_rfl
@[simp] theorem ty_agg75 : isAggT Try.prog 75 = true := by kernel_rfl
@[simp] theorem ty_bld75 : builderT Try.prog 75 = none := by kernel_rfl
@[simp] theorem ty_pl75 : placesOk Try.prog 75 = true := by kernel_rfl
@[simp] theorem ty_zero75 : zeroA Try.prog 75 = some [.ro (.int .i64 0), .ro (.int .i64 0)] := by kernel_rfl
@[simp] theorem ty_size80 : sizeT Try.prog 80 = some 1 := by kernel_rfl
@[simp] theorem ty_agg80 : isAggT Try.prog 80 = false := by kernel_rfl
@[simp] theorem ty_bld80 : builderT Try.prog 80 = none := by kernel_rfl
@[simp] theorem ty_zero80 : zeroA Try.prog 80 = some [.ro (.nilp)] := by kernel_rfl
@[simp] theorem ty_size83 : sizeT Try.prog 83 = some 4 := by kernel_rfl
@[simp] theorem ty_agg83 : isAggT Try.prog 83 = true := by kernel_rfl
@[simp] theorem ty_bld83 : builderT Try.prog 83 = none := by kernel_rfl
@[simp] theorem ty_f83_0 : fieldAt Try.prog 83 0 = some (0, 17) := by kernel_rfl
@[simp] theorem ty_f83_1 : fieldAt Try.prog 83 1 = some (1, 17) := by kernel_rfl
@[simp] theorem ty_f83_2 : fieldAt Try.prog 83 2 = some (2, 17) := by kernel_rfl
@[simp] theorem ty_f83_3 : fieldAt Try.prog 83 3 = some (3, 9) := by kernel_rfl
@[simp] theorem ty_pl83 : placesOk Try.prog 83 = true := by kernel_rfl
@[simp] theorem ty_zero83 : zeroA Try.prog 83 = some [.ro (.nilp), .ro (.nilp), .ro (.nilp), .ro (.str ⟨#[]⟩)] := by kernel_rfl
@[simp] theorem ty_size84 : sizeT Try.prog 84 = some 4 := by kernel_rfl
@[simp] theorem ty_agg84 : isAggT Try.prog 84 = true := by kernel_rfl
@[simp] theorem ty_bld84 : builderT Try.prog 84 = none := by kernel_rfl
@[simp] theorem ty_f84_0 : fieldAt Try.prog 84 0 = some (0, 17) := by kernel_rfl
@[simp] theorem ty_f84_1 : fieldAt Try.prog 84 1 = some (1, 17) := by kernel_rfl
@[simp] theorem ty_f84_2 : fieldAt Try.prog 84 2 = some (2, 17) := by kernel_rfl
@[simp] theorem ty_f84_3 : fieldAt Try.prog 84 3 = some (3, 9) := by kernel_rfl
@[simp] theorem ty_pl84 : placesOk Try.prog 84 = true := by kernel_rfl
@[simp] theorem ty_zero84 : zeroA Try.prog 84 = some [.ro (.nilp), .ro (.nilp), .ro (.nilp), .ro (.str ⟨#[]⟩)] := by kernel_rfl
@[simp] theorem ty_size85 : sizeT Try.prog 85 = some 0 := by kernel_rfl
@[simp] theorem ty_agg85 : isAggT Try.prog 85 = true := by kernel_rfl
@[simp] theorem ty_bld85 : builderT Try.prog 85 = none := by kernel_rfl
@[simp] theorem ty_pl85 : placesOk Try.prog 85 = true := by kernel_rfl
@[simp] theorem ty_zero85 : zeroA Try.prog 85 = some [] := by kernel_rfl
@[simp] theorem ty_size86 : sizeT Try.prog 86 = some 0 := by kernel_rfl
@[simp] theorem ty_agg86 : isAggT Try.prog 86 = true := by kernel_rfl
@[simp] theorem ty_bld86 : builderT Try.prog 86 = none := by kernel_rfl
@[simp] theorem ty_f86_0 : fieldAt Try.prog 86 0 = some (0, 85) := by kernel_rfl
@[simp] theorem ty_pl86 : placesOk Try.prog 86 = true := by kernel_rfl
@[simp] theorem ty_zero86 : zeroA Try.prog 86 = some [] := by kernel_rfl
@[simp] theorem ty_size87 : sizeT Try.prog 87 = some 0 := by kernel_rfl
@[simp] theorem ty_agg87 : isAggT Try.prog 87 = true := by kernel_rfl
@[simp] theorem ty_bld87 : builderT Try.prog 87 = none := by kernel_rfl
@[simp] theorem ty_f87_0 : fieldAt Try.prog 87 0 = some (0, 85) := by kernel_rfl
@[simp] theorem ty_pl87 : placesOk Try.prog 87 = true := by kernel_rfl
@[simp] theorem ty_zero87 : zeroA Try.prog 87 = some [] := by kernel_rfl
@[simp] theorem ty_size89 : sizeT Try.prog 89 = some 1 := by kernel_rfl
@[simp] theorem ty_agg89 : isAggT Try.prog 89 = false := by kernel_rfl
@[simp] theorem ty_bld89 : builderT Try.prog 89 = none := by kernel_rfl
@[simp] theorem ty_zero89 : zeroA Try.prog 89 = some [.ro (.int .u32 0)] := by kernel_rfl
@[simp] theorem ty_size90 : sizeT Try.prog 90 = some 1 := by kernel_rfl
@[simp] theorem ty_agg90 : isAggT Try.prog 90 = false := by kernel_rfl
@[simp] theorem ty_bld90 : builderT Try.prog 90 = none := by kernel_rfl
@[simp] theorem ty_zero90 : zeroA Try.prog 90 = some [.ro (.int .u8 0)] := by kernel_rfl
@[simp] theorem ty_size91 : sizeT Try.prog 91 = some 1 := by kernel_rfl
@[simp] theorem ty_agg91 : isAggT Try.prog 91 = false := by kernel_rfl
@[simp] theorem ty_bld91 : builderT Try.prog 91 = none := by kernel_rfl
@[simp] theorem ty_zero91 : zeroA Try.prog 91 = some [.ro (.int .u8 0)] := by kernel_rfl
@[simp] theorem ty_size93 : sizeT Try.prog 93 = some 1 := by kernel_rfl
@[simp] theorem ty_agg93 : isAggT Try.prog 93 = false := by kernel_rfl
@[simp] theorem ty_bld93 : builderT Try.prog 93 = none := by kernel_rfl
@[simp] theorem ty_zero93 : zeroA Try.prog 93 = some [.ro (.nilp)] := by kernel_rfl
@[simp] theorem ty_size94 : sizeT Try.prog 94 = some 1 := by kernel_rfl
@[simp] theorem ty_agg94 : isAggT Try.prog 94 = false := by kernel_rfl
@[simp] theorem ty_bld94 : builderT Try.prog 94 = none := by kernel_rfl
@[simp] theorem ty_zero94 : zeroA Try.prog 94 = some [.ro (.int .i32 0)] := by kernel_rfl
@[simp] theorem ty_size95 : sizeT Try.prog 95 = some 1 := by kernel_rfl
@[simp] theorem ty_agg95 : isAggT Try.prog 95 = false := by kernel_rfl
@[simp] theorem ty_bld95 : builderT Try.prog 95 = none := by kernel_rfl
@[simp] theorem ty_zero95 : zeroA Try.prog 95 = some [.ro (.int .i32 0)] := by kernel_rfl
@[simp] theorem ty_size96 : sizeT Try.prog 96 = some 11 := by kernel_rfl
@[simp] theorem ty_agg96 : isAggT Try.prog 96 = true := by kernel_rfl
@[simp] theorem ty_bld96 : builderT Try.prog 96 = none := by kernel_rfl
@[simp] theorem ty_f96_0 : fieldAt Try.prog 96 0 = some (0, 12) := by kernel_rfl
@[simp] theorem ty_f96_1 : fieldAt Try.prog 96 1 = some (1, 12) := by kernel_rfl
@[simp] theorem ty_f96_2 : fieldAt Try.prog 96 2 = some (2, 89) := by kernel_rfl
@[simp] theorem ty_f96_3 : fieldAt Try.prog 96 3 = some (3, 90) := by kernel_rfl
@[simp] theorem ty_f96_4 : fieldAt Try.prog 96 4 = some (4, 5) := by kernel_rfl
@[simp] theorem ty_f96_5 : fieldAt Try.prog 96 5 = some (5, 5) := by kernel_rfl
@[simp] theorem ty_f96_6 : fieldAt Try.prog 96 6 = some (6, 91) := by kernel_rfl
@[simp] theorem ty_f96_7 : fieldAt Try.prog 96 7 = some (7, 92) := by kernel_rfl
@[simp] theorem ty_f96_8 : fieldAt Try.prog 96 8 = some (8, 93) := by kernel_rfl
@[simp] theorem ty_f96_9 : fieldAt Try.prog 96 9 = some (9, 94) := by kernel_rfl
@[simp] theorem ty_f96_10 : fieldAt Try.prog 96 10 = some (10, 95) := by kernel_rfl
@[simp] theorem ty_pl96 : placesOk Try.prog 96 = true := by kernel_rfl
@[simp] theorem ty_zero96 : zeroA Try.prog 96 = some [.ro (.int .u64 0), .ro (.int .u64 0), .ro (.int .u32 0), .ro (.int .u8 0), .ro (.int .u8 0), .ro (.int .u8 0), .ro (.int .u8 0), .ro (.nilf), .ro (.nilp), .ro (.int .i32 0), .ro (.int .i32 0)] := by kernel_rfl
@[simp] theorem ty_size97 : sizeT Try.prog 97 = some 11 := by kernel_rfl
@[simp] theorem ty_agg97 : isAggT Try.prog 97 = true := by kernel_rfl
@[simp] theorem ty_bld97 : builderT Try.prog 97 = none := by kernel_rfl
@[simp] theorem ty_f97_0 : fieldAt Try.prog 97 0 = some (0, 12) := by kernel_rfl
@[simp] theorem ty_f97_1 : fieldAt Try.prog 97 1 = some (1, 12) := by kernel_rfl
@[simp] theorem ty_f97_2 : fieldAt Try.prog 97 2 = some (2, 89) := by kernel_rfl
@[simp] theorem ty_f97_3 : fieldAt Try.prog 97 3 = some (3, 90) := by kernel_rfl
@[simp] theorem ty_f97_4 : fieldAt Try.prog 97 4 = some (4, 5) := by kernel_rfl
@[simp] theorem ty_f97_5 : fieldAt Try.prog 97 5 = some (5, 5) := by kernel_rfl
@[simp] theorem ty_f97_6 : fieldAt Try.prog 97 6 = some (6, 91) := by kernel_rfl
@[simp] theorem ty_f97_7 : fieldAt Try.prog 97 7 = some (7, 92) := by kernel_rfl
@[simp] theorem ty_f97_8 : fieldAt Try.prog 97 8 = some (8, 93) := by kernel_rfl
@[simp] theorem ty_f97_9 : fieldAt Try.prog 97 9 = some (9, 94) := by kernel_rfl
@[simp] theorem ty_f97_10 : fieldAt Try.prog 97 10 = some (10, 95) := by kernel_rfl
@[simp] theorem ty_pl97 : placesOk Try.prog 97 = true := by kernel_rfl
@[simp] theorem ty_zero97 : zeroA Try.prog 97 = some [.ro (.int .u64 0), .ro (.int .u64 0), .ro (.int .u32 0), .ro (.int .u8 0), .ro (.int .u8 0), .ro (.int .u8 0), .ro (.int .u8 0), .ro (.nilf), .ro (.nilp), .ro (.int .i32 0), .ro (.int .i32 0)] := by kernel_rfl
@[simp] theorem ty_size98 : sizeT Try.prog 98 = some 1 := by kernel_rfl
@[simp] theorem ty_agg98 : isAggT Try.prog 98 = false := by kernel_rfl
@[simp] theorem ty_bld98 : builderT Try.prog 98 = none := by kernel_rfl
@[simp] theorem ty_zero98 : zeroA Try.prog 98 = some [.ro (.nilp)] := by kernel_rfl
attribute [simp] Try.underlying10
attribute [simp] Try.underlying11
attribute [simp] Try.underlying12
attribute [simp] Try.underlying13
attribute [simp] Try.underlying14
attribute [simp] Try.underlying15
attribute [simp] Try.underlying16
attribute [simp] Try.underlying17
attribute [simp] Try.underlying18
attribute [simp] Try.underlying19
attribute [simp] Try.underlying2
attribute [simp] Try.underlying20
attribute [simp] Try.underlying21
attribute [simp] Try.underlying22
attribute [simp] Try.underlying23
attribute [simp] Try.underlying26
attribute [simp] Try.underlying29
attribute [simp] Try.underlying3
attribute [simp] Try.underlying38
attribute [simp] Try.underlying39
attribute [simp] Try.underlying4
attribute [simp] Try.underlying41
attribute [simp] Try.underlying5
attribute [simp] Try.underlying51
attribute [simp] Try.underlying52
attribute [simp] Try.underlying6
attribute [simp] Try.underlying62
attribute [simp] Try.underlying63
attribute [simp] Try.underlying65
attribute [simp] Try.underlying7
attribute [simp] Try.underlying75
attribute [simp] Try.underlying8
attribute [simp] Try.underlying80
attribute [simp] Try.underlying83
attribute [simp] Try.underlying84
attribute [simp] Try.underlying85
attribute [simp] Try.underlying86
attribute [simp] Try.underlying87
attribute [simp] Try.underlying89
attribute [simp] Try.underlying9
attribute [simp] Try.underlying90
attribute [simp] Try.underlying91
attribute [simp] Try.underlying93
attribute [simp] Try.underlying94
attribute [simp] Try.underlying95
attribute [simp] Try.underlying96
attribute [simp] Try.underlying97
attribute [simp] Try.underlying98
end Go.Qz

/- The functions of the program in short (printed by a program of ours). -/
namespace Go.Qz
open Go.Proofs
theorem run_is {q r : QCode} (h : q = r) (c : Ctx) (e : Env) (ks : List Fr) : Run c q e ks = Run c r e ks := h ▸ rfl
/-! 3 w_FnDiffOf -/
abbrev fn_w_FnDiffOf : FuncId := 3
def q_w_FnDiffOf_c0 : QCode := .seq (.ops [⟨some 37, .move (.tmp 3), 23, none⟩, ⟨some 38, .move (.tmp 5), 26, none⟩, ⟨some 39, .call { callee := .value (.func 13), args := #[.tmp 37, .tmp 38, .const (.int .i64 0)], argTypes := #[23, 26, 3] }, 30, none⟩, ⟨some 36, .move (.tmp 39), 30, none⟩, ⟨some 40, .extract (.tmp 36) 0, 23, none⟩, ⟨some 41, .extract (.tmp 36) 1, 29, none⟩, ⟨some 42, .extract (.tmp 36) 2, 4, none⟩, ⟨some 6, .assign (.tmp 40), 23, none⟩, ⟨some 7, .assign (.tmp 41), 29, none⟩, ⟨some 8, .assign (.tmp 42), 4, none⟩]) (.seq (.ops [⟨some 43, .move (.tmp 5), 26, none⟩, ⟨some 44, .call { callee := .value (.func 14), args := #[.tmp 43], argTypes := #[26] }, 4, none⟩, ⟨some 45, .move (.tmp 44), 4, none⟩, ⟨some 46, .move (.tmp 8), 4, some (45, true)⟩, ⟨some 47, .pick (.tmp 45) (.tmp 46) (.const (.bool false)), 4, none⟩, ⟨some 48, .move (.tmp 47), 4, none⟩, ⟨some 49, .move (.tmp 6), 23, some (48, true)⟩, ⟨some 50, .move (.tmp 4), 23, some (48, true)⟩, ⟨some 51, .call { callee := .value (.func 15), args := #[.tmp 49, .tmp 50], argTypes := #[23, 23] }, 4, some (48, true)⟩, ⟨some 52, .pick (.tmp 48) (.tmp 51) (.const (.bool false)), 4, none⟩, ⟨some 53, .move (.tmp 52), 4, none⟩, ⟨some 54, .move (.tmp 7), 29, some (53, true)⟩, ⟨some 55, .buildSlice 29 1 #[(0, .const (.int .i64 0))], 29, some (53, true)⟩, ⟨some 56, .call { callee := .value (.func 16), args := #[.tmp 54, .tmp 55], argTypes := #[29, 29] }, 4, some (53, true)⟩, ⟨some 57, .pick (.tmp 53) (.tmp 56) (.const (.bool false)), 4, none⟩, ⟨some 58, .move (.tmp 57), 4, none⟩, ⟨some 59, .move (.tmp 3), 23, some (58, true)⟩, ⟨some 60, .move (.tmp 3), 23, some (58, true)⟩, ⟨some 61, .call { callee := .value (.func 10), args := #[.tmp 59, .tmp 60], argTypes := #[23, 23] }, 26, some (58, true)⟩, ⟨some 62, .call { callee := .builtin .len, args := #[.tmp 61], argTypes := #[26] }, 3, some (58, true)⟩, ⟨some 63, .binOp .eql 3 (.tmp 62) (.const (.int .i64 0)) 3, 4, some (58, true)⟩, ⟨some 64, .pick (.tmp 58) (.tmp 63) (.const (.bool false)), 4, none⟩, ⟨some 2, .assign (.tmp 64), 4, none⟩]) (.ret))
@[simp] theorem q_w_FnDiffOf_c0_run : type_of% (run_is q_w_FnDiffOf_c0.eq_1) := run_is q_w_FnDiffOf_c0.eq_1
def q_w_FnDiffOf_c1 : QCode := .seq (.ops [⟨some 13, .move (.tmp 0), 22, none⟩, ⟨some 14, .call { callee := .value (.func 9), args := #[.tmp 13], argTypes := #[22] }, 24, none⟩, ⟨some 12, .move (.tmp 14), 24, none⟩, ⟨some 15, .extract (.tmp 12) 0, 23, none⟩, ⟨some 16, .extract (.tmp 12) 1, 23, none⟩, ⟨some 3, .assign (.tmp 15), 23, none⟩, ⟨some 4, .assign (.tmp 16), 23, none⟩]) (.seq (.ops [⟨some 17, .move (.tmp 3), 23, none⟩, ⟨some 18, .move (.tmp 4), 23, none⟩, ⟨some 19, .call { callee := .value (.func 10), args := #[.tmp 17, .tmp 18], argTypes := #[23, 23] }, 26, none⟩, ⟨some 5, .assign (.tmp 19), 26, none⟩]) (.seq (.seq (.ops [⟨some 20, .move (.tmp 5), 26, none⟩, ⟨some 21, .move (.tmp 3), 23, none⟩, ⟨some 22, .move (.tmp 4), 23, none⟩, ⟨some 23, .call { callee := .value (.func 12), args := #[.tmp 21, .tmp 22], argTypes := #[23, 23] }, 26, none⟩, ⟨some 24, .call { callee := .value (.func 11), args := #[.tmp 20, .tmp 23], argTypes := #[26, 26] }, 4, none⟩, ⟨some 25, .unOp .not 4 (.tmp 24), 4, none⟩, ⟨some 26, .move (.tmp 25), 4, none⟩, ⟨some 27, .move (.tmp 5), 26, some (26, false)⟩, ⟨some 28, .call { callee := .builtin .len, args := #[.tmp 27], argTypes := #[26] }, 3, some (26, false)⟩, ⟨some 29, .binOp .eql 3 (.tmp 28) (.const (.int .i64 0)) 3, 4, some (26, false)⟩, ⟨some 30, .pick (.tmp 26) (.const (.bool true)) (.tmp 29), 4, none⟩]) (.cond (.tmp 30) (.seq (.ops [⟨some 31, .move (.tmp 5), 26, none⟩, ⟨some 32, .move (.tmp 3), 23, none⟩, ⟨some 33, .move (.tmp 4), 23, none⟩, ⟨some 34, .call { callee := .value (.func 12), args := #[.tmp 32, .tmp 33], argTypes := #[23, 23] }, 26, none⟩, ⟨some 35, .call { callee := .value (.func 11), args := #[.tmp 31, .tmp 34], argTypes := #[26, 26] }, 4, none⟩, ⟨some 2, .assign (.tmp 35), 4, none⟩]) (.ret)) (.skip))) (q_w_FnDiffOf_c0)))
@[simp] theorem q_w_FnDiffOf_c1_run : type_of% (run_is q_w_FnDiffOf_c1.eq_1) := run_is q_w_FnDiffOf_c1.eq_1
@[simp] def q_w_FnDiffOf : QFn := ⟨65, [(.tmp 2, 4)], .seq (.ops [⟨some 2, .assign (.const (.bool false)), 4, none⟩]) (.seq (.seq (.ops [⟨some 9, .move (.tmp 0), 22, none⟩, ⟨some 10, .call { callee := .builtin .len, args := #[.tmp 9], argTypes := #[22] }, 3, none⟩, ⟨some 11, .binOp .gtr 3 (.tmp 10) (.const (.int .i64 1048576)) 3, 4, none⟩]) (.cond (.tmp 11) (.seq (.ops [⟨some 2, .assign (.const (.bool true)), 4, none⟩]) (.ret)) (.skip))) (q_w_FnDiffOf_c1))⟩
theorem conv_w_FnDiffOf : convF Try.f3 = some q_w_FnDiffOf := by kernel_rfl
/-! 9 s_DrawDiffOf -/
abbrev fn_s_DrawDiffOf : FuncId := 9
def q_s_DrawDiffOf_c0 : QCode := .block 2 (.ops [⟨some 27, .move (.tmp 5), 23, none⟩, ⟨some 28, .buildSlice 23 1 #[(0, .const (.string { data := #[109] }))], 23, none⟩, ⟨some 29, .call { callee := .builtin .append, args := #[.tmp 27, .tmp 28], argTypes := #[23, 23] }, 23, none⟩, ⟨some 5, .assign (.tmp 29), 23, none⟩])
@[simp] theorem q_s_DrawDiffOf_c0_run : type_of% (run_is q_s_DrawDiffOf_c0.eq_1) := run_is q_s_DrawDiffOf_c0.eq_1
def q_s_DrawDiffOf_l0 : QCode := .seq (.seq (.ops [⟨some 21, .move (.tmp 5), 23, none⟩, ⟨some 22, .call { callee := .builtin .len, args := #[.tmp 21], argTypes := #[23] }, 3, none⟩, ⟨some 23, .move (.tmp 4), 41, none⟩, ⟨some 24, .call { callee := .value (.func 21), args := #[.tmp 23, .const (.int .i64 2)], argTypes := #[41, 3] }, 3, none⟩, ⟨some 25, .binOp .add 3 (.const (.int .i64 30)) (.tmp 24) 3, 3, none⟩, ⟨some 26, .binOp .lss 3 (.tmp 22) (.tmp 25) 3, 4, none⟩]) (.cond (.tmp 26) (.skip) (.exit 1))) (q_s_DrawDiffOf_c0)
@[simp] theorem q_s_DrawDiffOf_l0_run : type_of% (run_is q_s_DrawDiffOf_l0.eq_1) := run_is q_s_DrawDiffOf_l0.eq_1
def q_s_DrawDiffOf_c1 : QCode := .seq (.ops [⟨some 30, .move (.tmp 5), 23, none⟩, ⟨some 31, .move (.tmp 4), 41, none⟩, ⟨some 32, .move (.tmp 5), 23, none⟩, ⟨some 33, .call { callee := .value (.func 22), args := #[.tmp 31, .tmp 32], argTypes := #[41, 23] }, 23, none⟩, ⟨some 2, .assign (.tmp 30), 23, none⟩, ⟨some 3, .assign (.tmp 33), 23, none⟩]) (.ret)
@[simp] theorem q_s_DrawDiffOf_c1_run : type_of% (run_is q_s_DrawDiffOf_c1.eq_1) := run_is q_s_DrawDiffOf_c1.eq_1
@[simp] def q_s_DrawDiffOf : QFn := ⟨34, [(.tmp 2, 23), (.tmp 3, 23)], .seq (.ops [⟨some 2, .assign (.const (.slice none 0 0)), 23, none⟩, ⟨some 3, .assign (.const (.slice none 0 0)), 23, none⟩]) (.seq (.ops [⟨some 6, .move (.tmp 0), 22, none⟩, ⟨some 7, .call { callee := .value (.func 19), args := #[.tmp 6], argTypes := #[22] }, 41, none⟩, ⟨some 4, .assign (.tmp 7), 41, none⟩]) (.seq (.ops [⟨some 8, .move (.tmp 4), 41, none⟩, ⟨some 9, .call { callee := .value (.func 20), args := #[.tmp 8], argTypes := #[41] }, 23, none⟩, ⟨some 5, .assign (.tmp 9), 23, none⟩]) (.seq (.seq (.ops [⟨some 10, .move (.tmp 4), 41, none⟩, ⟨some 11, .call { callee := .value (.func 21), args := #[.tmp 10, .const (.int .i64 14)], argTypes := #[41, 3] }, 3, none⟩]) (.block 0 (.seq (.ops [⟨some 13, .binOp .eql 3 (.tmp 11) (.const (.int .i64 0)) 3, 4, none⟩, ⟨some 12, .assign (.tmp 13), 4, none⟩]) (.cond (.tmp 12) (.seq (.ops [⟨some 14, .move (.tmp 5), 23, none⟩, ⟨some 15, .move (.tmp 4), 41, none⟩, ⟨some 16, .call { callee := .value (.func 20), args := #[.tmp 15], argTypes := #[41] }, 23, none⟩, ⟨some 17, .buildSlice 23 1 #[(0, .const (.string { data := #[1] }))], 23, none⟩, ⟨some 18, .call { callee := .builtin .append, args := #[.tmp 16, .tmp 17], argTypes := #[23, 23] }, 23, none⟩, ⟨some 2, .assign (.tmp 14), 23, none⟩, ⟨some 3, .assign (.tmp 18), 23, none⟩]) (.ret)) (.seq (.ops [⟨some 20, .binOp .eql 3 (.tmp 11) (.const (.int .i64 1)) 3, 4, none⟩, ⟨some 19, .assign (.tmp 20), 4, none⟩]) (.cond (.tmp 19) (.block 1 (.loop q_s_DrawDiffOf_l0)) (.skip))))))) (q_s_DrawDiffOf_c1))))⟩
theorem conv_s_DrawDiffOf : convF Try.f9 = some q_s_DrawDiffOf := by kernel_rfl
/-! 10 i_DiffOf -/
abbrev fn_i_DiffOf : FuncId := 10
def q_i_DiffOf_c0 : QCode := .block 1 (.ops [⟨some 44, .move (.tmp 6), 3, none⟩, ⟨some 45, .binOp .add 3 (.tmp 44) (.const (.int .i64 1)) 3, 3, none⟩, ⟨some 6, .assign (.tmp 45), 3, none⟩])
@[simp] theorem q_i_DiffOf_c0_run : type_of% (run_is q_i_DiffOf_c0.eq_1) := run_is q_i_DiffOf_c0.eq_1
def q_i_DiffOf_l0 : QCode := .seq (.seq (.draw [⟨some 30, .move (.tmp 6), 3, none⟩, ⟨some 31, .move (.tmp 5), 3, none⟩, ⟨some 32, .binOp .lss 3 (.tmp 30) (.tmp 31) 3, 4, none⟩, ⟨some 33, .move (.tmp 32), 4, none⟩, ⟨some 34, .move (.tmp 0), 23, some (33, true)⟩, ⟨some 35, .move (.tmp 6), 3, some (33, true)⟩, ⟨some 36, .indexAddr 23 (.tmp 34) (.tmp 35), 0, some (33, true)⟩, ⟨some 37, .load 9 (.tmp 36), 9, some (33, true)⟩, ⟨some 38, .move (.tmp 1), 23, some (33, true)⟩, ⟨some 39, .move (.tmp 6), 3, some (33, true)⟩, ⟨some 40, .indexAddr 23 (.tmp 38) (.tmp 39), 0, some (33, true)⟩, ⟨some 41, .load 9 (.tmp 40), 9, some (33, true)⟩] [⟨some 42, .binOp .eql 9 (.tmp 37) (.tmp 41) 9, 4, some (33, true)⟩, ⟨some 43, .pick (.tmp 33) (.tmp 42) (.const (.bool false)), 4, none⟩]) (.cond (.tmp 43) (.skip) (.exit 0))) (q_i_DiffOf_c0)
@[simp] theorem q_i_DiffOf_l0_run : type_of% (run_is q_i_DiffOf_l0.eq_1) := run_is q_i_DiffOf_l0.eq_1
def q_i_DiffOf_c1 : QCode := .block 3 (.ops [⟨some 70, .move (.tmp 7), 3, none⟩, ⟨some 71, .binOp .add 3 (.tmp 70) (.const (.int .i64 1)) 3, 3, none⟩, ⟨some 7, .assign (.tmp 71), 3, none⟩])
@[simp] theorem q_i_DiffOf_c1_run : type_of% (run_is q_i_DiffOf_c1.eq_1) := run_is q_i_DiffOf_c1.eq_1
def q_i_DiffOf_l1 : QCode := .seq (.seq (.draw [⟨some 46, .move (.tmp 7), 3, none⟩, ⟨some 47, .move (.tmp 5), 3, none⟩, ⟨some 48, .move (.tmp 6), 3, none⟩, ⟨some 49, .binOp .sub 3 (.tmp 47) (.tmp 48) 3, 3, none⟩, ⟨some 50, .binOp .lss 3 (.tmp 46) (.tmp 49) 3, 4, none⟩, ⟨some 51, .move (.tmp 50), 4, none⟩, ⟨some 52, .move (.tmp 0), 23, some (51, true)⟩, ⟨some 53, .move (.tmp 0), 23, some (51, true)⟩, ⟨some 54, .call { callee := .builtin .len, args := #[.tmp 53], argTypes := #[23] }, 3, some (51, true)⟩, ⟨some 55, .binOp .sub 3 (.tmp 54) (.const (.int .i64 1)) 3, 3, some (51, true)⟩, ⟨some 56, .move (.tmp 7), 3, some (51, true)⟩, ⟨some 57, .binOp .sub 3 (.tmp 55) (.tmp 56) 3, 3, some (51, true)⟩, ⟨some 58, .indexAddr 23 (.tmp 52) (.tmp 57), 0, some (51, true)⟩, ⟨some 59, .load 9 (.tmp 58), 9, some (51, true)⟩, ⟨some 60, .move (.tmp 1), 23, some (51, true)⟩, ⟨some 61, .move (.tmp 1), 23, some (51, true)⟩, ⟨some 62, .call { callee := .builtin .len, args := #[.tmp 61], argTypes := #[23] }, 3, some (51, true)⟩, ⟨some 63, .binOp .sub 3 (.tmp 62) (.const (.int .i64 1)) 3, 3, some (51, true)⟩, ⟨some 64, .move (.tmp 7), 3, some (51, true)⟩, ⟨some 65, .binOp .sub 3 (.tmp 63) (.tmp 64) 3, 3, some (51, true)⟩, ⟨some 66, .indexAddr 23 (.tmp 60) (.tmp 65), 0, some (51, true)⟩, ⟨some 67, .load 9 (.tmp 66), 9, some (51, true)⟩] [⟨some 68, .binOp .eql 9 (.tmp 59) (.tmp 67) 9, 4, some (51, true)⟩, ⟨some 69, .pick (.tmp 51) (.tmp 68) (.const (.bool false)), 4, none⟩]) (.cond (.tmp 69) (.skip) (.exit 2))) (q_i_DiffOf_c1)
@[simp] theorem q_i_DiffOf_l1_run : type_of% (run_is q_i_DiffOf_l1.eq_1) := run_is q_i_DiffOf_l1.eq_1
def q_i_DiffOf_c2 : QCode := .seq (.ops [⟨some 120, .move (.tmp 11), 26, none⟩, ⟨some 4, .assign (.tmp 120), 26, none⟩]) (.ret)
@[simp] theorem q_i_DiffOf_c2_run : type_of% (run_is q_i_DiffOf_c2.eq_1) := run_is q_i_DiffOf_c2.eq_1
def q_i_DiffOf_c3 : QCode := .seq (.ops [⟨some 72, .move (.tmp 6), 3, none⟩, ⟨some 73, .binOp .sub 3 (.tmp 72) (.const (.int .i64 2)) 3, 3, none⟩, ⟨some 74, .call { callee := .builtin .max, args := #[.tmp 73, .const (.int .i64 0)], argTypes := #[3, 3] }, 3, none⟩, ⟨some 8, .assign (.tmp 74), 3, none⟩]) (.seq (.ops [⟨some 75, .move (.tmp 0), 23, none⟩, ⟨some 76, .call { callee := .builtin .len, args := #[.tmp 75], argTypes := #[23] }, 3, none⟩, ⟨some 77, .move (.tmp 7), 3, none⟩, ⟨some 78, .binOp .sub 3 (.tmp 76) (.tmp 77) 3, 3, none⟩, ⟨some 9, .assign (.tmp 78), 3, none⟩]) (.seq (.ops [⟨some 79, .move (.tmp 0), 23, none⟩, ⟨some 80, .move (.tmp 8), 3, none⟩, ⟨some 81, .move (.tmp 6), 3, none⟩, ⟨some 82, .slice 23 (.tmp 79) (some (.tmp 80)) (some (.tmp 81)) none, 23, none⟩, ⟨some 83, .call { callee := .value (.func 25), args := #[.const (.string { data := #[32] }), .tmp 82], argTypes := #[9, 23] }, 23, none⟩, ⟨some 10, .assign (.tmp 83), 23, none⟩]) (.seq (.ops [⟨some 84, .move (.tmp 10), 23, none⟩, ⟨some 85, .move (.tmp 0), 23, none⟩, ⟨some 86, .move (.tmp 6), 3, none⟩, ⟨some 87, .move (.tmp 9), 3, none⟩, ⟨some 88, .slice 23 (.tmp 85) (some (.tmp 86)) (some (.tmp 87)) none, 23, none⟩, ⟨some 89, .call { callee := .value (.func 25), args := #[.const (.string { data := #[45] }), .tmp 88], argTypes := #[9, 23] }, 23, none⟩, ⟨some 90, .call { callee := .builtin .append, args := #[.tmp 84, .tmp 89], argTypes := #[23, 23] }, 23, none⟩, ⟨some 10, .assign (.tmp 90), 23, none⟩]) (.seq (.ops [⟨some 91, .move (.tmp 10), 23, none⟩, ⟨some 92, .move (.tmp 1), 23, none⟩, ⟨some 93, .move (.tmp 6), 3, none⟩, ⟨some 94, .move (.tmp 1), 23, none⟩, ⟨some 95, .call { callee := .builtin .len, args := #[.tmp 94], argTypes := #[23] }, 3, none⟩, ⟨some 96, .move (.tmp 7), 3, none⟩, ⟨some 97, .binOp .sub 3 (.tmp 95) (.tmp 96) 3, 3, none⟩, ⟨some 98, .slice 23 (.tmp 92) (some (.tmp 93)) (some (.tmp 97)) none, 23, none⟩, ⟨some 99, .call { callee := .value (.func 25), args := #[.const (.string { data := #[43] }), .tmp 98], argTypes := #[9, 23] }, 23, none⟩, ⟨some 100, .call { callee := .builtin .append, args := #[.tmp 91, .tmp 99], argTypes := #[23, 23] }, 23, none⟩, ⟨some 10, .assign (.tmp 100), 23, none⟩]) (.seq (.ops [⟨some 101, .move (.tmp 10), 23, none⟩, ⟨some 102, .move (.tmp 0), 23, none⟩, ⟨some 103, .move (.tmp 9), 3, none⟩, ⟨some 104, .move (.tmp 9), 3, none⟩, ⟨some 105, .binOp .add 3 (.tmp 104) (.const (.int .i64 2)) 3, 3, none⟩, ⟨some 106, .move (.tmp 0), 23, none⟩, ⟨some 107, .call { callee := .builtin .len, args := #[.tmp 106], argTypes := #[23] }, 3, none⟩, ⟨some 108, .call { callee := .builtin .min, args := #[.tmp 105, .tmp 107], argTypes := #[3, 3] }, 3, none⟩, ⟨some 109, .slice 23 (.tmp 102) (some (.tmp 103)) (some (.tmp 108)) none, 23, none⟩, ⟨some 110, .call { callee := .value (.func 25), args := #[.const (.string { data := #[32] }), .tmp 109], argTypes := #[9, 23] }, 23, none⟩, ⟨some 111, .call { callee := .builtin .append, args := #[.tmp 101, .tmp 110], argTypes := #[23, 23] }, 23, none⟩, ⟨some 10, .assign (.tmp 111), 23, none⟩]) (.seq (.ops [⟨some 112, .move (.tmp 8), 3, none⟩, ⟨some 113, .binOp .add 3 (.tmp 112) (.const (.int .i64 1)) 3, 3, none⟩, ⟨some 114, .move (.tmp 10), 23, none⟩, ⟨some 115, .build 39 #[(0, .tmp 113), (1, .tmp 114)], 39, none⟩, ⟨some 116, .buildSlice 26 1 #[(0, .tmp 115)], 26, none⟩, ⟨some 11, .assign (.tmp 116), 26, none⟩]) (.seq (.seq (.ops [⟨some 117, .move (.tmp 11), 26, none⟩, ⟨some 118, .call { callee := .value (.func 14), args := #[.tmp 117], argTypes := #[26] }, 4, none⟩, ⟨some 119, .unOp .not 4 (.tmp 118), 4, none⟩]) (.cond (.tmp 119) (.seq (.ops [⟨some 4, .assign (.const (.slice none 0 0)), 26, none⟩]) (.ret)) (.skip))) (q_i_DiffOf_c2))))))))
@[simp] theorem q_i_DiffOf_c3_run : type_of% (run_is q_i_DiffOf_c3.eq_1) := run_is q_i_DiffOf_c3.eq_1
def q_i_DiffOf_c4 : QCode := .seq (.ops [⟨some 7, .assign (.const (.int .i64 0)), 3, none⟩]) (.seq (.block 2 (.loop q_i_DiffOf_l1)) (q_i_DiffOf_c3))
@[simp] theorem q_i_DiffOf_c4_run : type_of% (run_is q_i_DiffOf_c4.eq_1) := run_is q_i_DiffOf_c4.eq_1
def q_i_DiffOf_c5 : QCode := .seq (.ops [⟨some 25, .move (.tmp 0), 23, none⟩, ⟨some 26, .call { callee := .builtin .len, args := #[.tmp 25], argTypes := #[23] }, 3, none⟩, ⟨some 27, .move (.tmp 1), 23, none⟩, ⟨some 28, .call { callee := .builtin .len, args := #[.tmp 27], argTypes := #[23] }, 3, none⟩, ⟨some 29, .call { callee := .builtin .min, args := #[.tmp 26, .tmp 28], argTypes := #[3, 3] }, 3, none⟩, ⟨some 5, .assign (.tmp 29), 3, none⟩]) (.seq (.ops [⟨some 6, .assign (.const (.int .i64 0)), 3, none⟩]) (.seq (.block 0 (.loop q_i_DiffOf_l0)) (q_i_DiffOf_c4)))
@[simp] theorem q_i_DiffOf_c5_run : type_of% (run_is q_i_DiffOf_c5.eq_1) := run_is q_i_DiffOf_c5.eq_1
@[simp] def q_i_DiffOf : QFn := ⟨121, [(.tmp 4, 26)], .seq (.ops [⟨some 4, .assign (.const (.slice none 0 0)), 26, none⟩]) (.seq (.seq (.ops [⟨some 12, .move (.tmp 0), 23, none⟩, ⟨some 13, .call { callee := .value (.func 23), args := #[.tmp 12], argTypes := #[23] }, 4, none⟩, ⟨some 14, .unOp .not 4 (.tmp 13), 4, none⟩, ⟨some 15, .move (.tmp 14), 4, none⟩, ⟨some 16, .move (.tmp 1), 23, some (15, false)⟩, ⟨some 17, .call { callee := .value (.func 23), args := #[.tmp 16], argTypes := #[23] }, 4, some (15, false)⟩, ⟨some 18, .unOp .not 4 (.tmp 17), 4, some (15, false)⟩, ⟨some 19, .pick (.tmp 15) (.const (.bool true)) (.tmp 18), 4, none⟩, ⟨some 20, .move (.tmp 19), 4, none⟩, ⟨some 21, .move (.tmp 0), 23, some (20, false)⟩, ⟨some 22, .move (.tmp 1), 23, some (20, false)⟩, ⟨some 23, .call { callee := .value (.func 24), args := #[.tmp 21, .tmp 22], argTypes := #[23, 23] }, 4, some (20, false)⟩, ⟨some 24, .pick (.tmp 20) (.const (.bool true)) (.tmp 23), 4, none⟩]) (.cond (.tmp 24) (.seq (.ops [⟨some 4, .assign (.const (.slice none 0 0)), 26, none⟩]) (.ret)) (.skip))) (q_i_DiffOf_c5))⟩
theorem conv_i_DiffOf : convF Try.f10 = some q_i_DiffOf := by kernel_rfl
/-! 11 w_jsHunks -/
abbrev fn_w_jsHunks : FuncId := 11
def q_w_jsHunks_c0 : QCode := .ops [⟨some 15, .move (.tmp 5), 3, none⟩, ⟨some 16, .binOp .add 3 (.tmp 15) (.const (.int .i64 1)) 3, 3, none⟩, ⟨some 5, .assign (.tmp 16), 3, none⟩]
@[simp] theorem q_w_jsHunks_c0_run : type_of% (run_is q_w_jsHunks_c0.eq_1) := run_is q_w_jsHunks_c0.eq_1
def q_w_jsHunks_c1 : QCode := .seq (.block 1 (.seq (.draw [⟨some 17, .move (.tmp 0), 26, none⟩, ⟨some 18, .move (.tmp 5), 3, none⟩, ⟨some 19, .indexAddr 26 (.tmp 17) (.tmp 18), 0, none⟩, ⟨some 20, .fieldAddr 39 (.tmp 19) 0, 0, none⟩, ⟨some 21, .load 3 (.tmp 20), 3, none⟩, ⟨some 22, .move (.tmp 1), 26, none⟩, ⟨some 23, .move (.tmp 5), 3, none⟩, ⟨some 24, .indexAddr 26 (.tmp 22) (.tmp 23), 0, none⟩, ⟨some 25, .fieldAddr 39 (.tmp 24) 0, 0, none⟩, ⟨some 26, .load 3 (.tmp 25), 3, none⟩, ⟨some 27, .binOp .neq 3 (.tmp 21) (.tmp 26) 3, 4, none⟩, ⟨some 28, .move (.tmp 27), 4, none⟩, ⟨some 29, .move (.tmp 0), 26, some (28, false)⟩, ⟨some 30, .move (.tmp 5), 3, some (28, false)⟩, ⟨some 31, .indexAddr 26 (.tmp 29) (.tmp 30), 0, some (28, false)⟩, ⟨some 32, .fieldAddr 39 (.tmp 31) 1, 0, some (28, false)⟩, ⟨some 33, .load 23 (.tmp 32), 23, some (28, false)⟩, ⟨some 34, .move (.tmp 1), 26, some (28, false)⟩, ⟨some 35, .move (.tmp 5), 3, some (28, false)⟩, ⟨some 36, .indexAddr 26 (.tmp 34) (.tmp 35), 0, some (28, false)⟩, ⟨some 37, .fieldAddr 39 (.tmp 36) 1, 0, some (28, false)⟩, ⟨some 38, .load 23 (.tmp 37), 23, some (28, false)⟩] [⟨some 39, .call { callee := .value (.func 15), args := #[.tmp 33, .tmp 38], argTypes := #[23, 23] }, 4, some (28, false)⟩, ⟨some 40, .unOp .not 4 (.tmp 39), 4, some (28, false)⟩, ⟨some 41, .pick (.tmp 28) (.const (.bool true)) (.tmp 40), 4, none⟩]) (.cond (.tmp 41) (.seq (.ops [⟨some 4, .assign (.const (.bool false)), 4, none⟩]) (.ret)) (.skip)))) (q_w_jsHunks_c0)
@[simp] theorem q_w_jsHunks_c1_run : type_of% (run_is q_w_jsHunks_c1.eq_1) := run_is q_w_jsHunks_c1.eq_1
def q_w_jsHunks_l0 : QCode := .seq (.seq (.ops [⟨some 11, .move (.tmp 5), 3, none⟩, ⟨some 12, .move (.tmp 0), 26, none⟩, ⟨some 13, .call { callee := .builtin .len, args := #[.tmp 12], argTypes := #[26] }, 3, none⟩, ⟨some 14, .binOp .lss 3 (.tmp 11) (.tmp 13) 3, 4, none⟩]) (.cond (.tmp 14) (.skip) (.exit 0))) (q_w_jsHunks_c1)
@[simp] theorem q_w_jsHunks_l0_run : type_of% (run_is q_w_jsHunks_l0.eq_1) := run_is q_w_jsHunks_l0.eq_1
def q_w_jsHunks_c2 : QCode := .seq (.ops [⟨some 4, .assign (.const (.bool true)), 4, none⟩]) (.ret)
@[simp] theorem q_w_jsHunks_c2_run : type_of% (run_is q_w_jsHunks_c2.eq_1) := run_is q_w_jsHunks_c2.eq_1
def q_w_jsHunks_c3 : QCode := .seq (.seq (.ops [⟨some 5, .assign (.const (.int .i64 0)), 3, none⟩]) (.block 0 (.loop q_w_jsHunks_l0))) (q_w_jsHunks_c2)
@[simp] theorem q_w_jsHunks_c3_run : type_of% (run_is q_w_jsHunks_c3.eq_1) := run_is q_w_jsHunks_c3.eq_1
@[simp] def q_w_jsHunks : QFn := ⟨42, [(.tmp 4, 4)], .seq (.ops [⟨some 4, .assign (.const (.bool false)), 4, none⟩]) (.seq (.seq (.ops [⟨some 6, .move (.tmp 0), 26, none⟩, ⟨some 7, .call { callee := .builtin .len, args := #[.tmp 6], argTypes := #[26] }, 3, none⟩, ⟨some 8, .move (.tmp 1), 26, none⟩, ⟨some 9, .call { callee := .builtin .len, args := #[.tmp 8], argTypes := #[26] }, 3, none⟩, ⟨some 10, .binOp .neq 3 (.tmp 7) (.tmp 9) 3, 4, none⟩]) (.cond (.tmp 10) (.seq (.ops [⟨some 4, .assign (.const (.bool false)), 4, none⟩]) (.ret)) (.skip))) (q_w_jsHunks_c3))⟩
theorem conv_w_jsHunks : convF Try.f11 = some q_w_jsHunks := by kernel_rfl
/-! 12 s_DiffOf -/
abbrev fn_s_DiffOf : FuncId := 12
def q_s_DiffOf_c0 : QCode := .block 1 (.ops [⟨some 55, .move (.tmp 5), 3, none⟩, ⟨some 56, .binOp .add 3 (.tmp 55) (.const (.int .i64 1)) 3, 3, none⟩, ⟨some 5, .assign (.tmp 56), 3, none⟩])
@[simp] theorem q_s_DiffOf_c0_run : type_of% (run_is q_s_DiffOf_c0.eq_1) := run_is q_s_DiffOf_c0.eq_1
def q_s_DiffOf_l0 : QCode := .seq (.seq (.draw [⟨some 34, .move (.tmp 5), 3, none⟩, ⟨some 35, .move (.tmp 0), 23, none⟩, ⟨some 36, .call { callee := .builtin .len, args := #[.tmp 35], argTypes := #[23] }, 3, none⟩, ⟨some 37, .binOp .lss 3 (.tmp 34) (.tmp 36) 3, 4, none⟩, ⟨some 38, .move (.tmp 37), 4, none⟩, ⟨some 39, .move (.tmp 5), 3, some (38, true)⟩, ⟨some 40, .move (.tmp 1), 23, some (38, true)⟩, ⟨some 41, .call { callee := .builtin .len, args := #[.tmp 40], argTypes := #[23] }, 3, some (38, true)⟩, ⟨some 42, .binOp .lss 3 (.tmp 39) (.tmp 41) 3, 4, some (38, true)⟩, ⟨some 43, .pick (.tmp 38) (.tmp 42) (.const (.bool false)), 4, none⟩, ⟨some 44, .move (.tmp 43), 4, none⟩, ⟨some 45, .move (.tmp 0), 23, some (44, true)⟩, ⟨some 46, .move (.tmp 5), 3, some (44, true)⟩, ⟨some 47, .indexAddr 23 (.tmp 45) (.tmp 46), 0, some (44, true)⟩, ⟨some 48, .load 9 (.tmp 47), 9, some (44, true)⟩, ⟨some 49, .move (.tmp 1), 23, some (44, true)⟩, ⟨some 50, .move (.tmp 5), 3, some (44, true)⟩, ⟨some 51, .indexAddr 23 (.tmp 49) (.tmp 50), 0, some (44, true)⟩, ⟨some 52, .load 9 (.tmp 51), 9, some (44, true)⟩] [⟨some 53, .binOp .eql 9 (.tmp 48) (.tmp 52) 9, 4, some (44, true)⟩, ⟨some 54, .pick (.tmp 44) (.tmp 53) (.const (.bool false)), 4, none⟩]) (.cond (.tmp 54) (.skip) (.exit 0))) (q_s_DiffOf_c0)
@[simp] theorem q_s_DiffOf_l0_run : type_of% (run_is q_s_DiffOf_l0.eq_1) := run_is q_s_DiffOf_l0.eq_1
def q_s_DiffOf_c1 : QCode := .block 3 (.ops [⟨some 90, .move (.tmp 6), 3, none⟩, ⟨some 91, .binOp .add 3 (.tmp 90) (.const (.int .i64 1)) 3, 3, none⟩, ⟨some 6, .assign (.tmp 91), 3, none⟩])
@[simp] theorem q_s_DiffOf_c1_run : type_of% (run_is q_s_DiffOf_c1.eq_1) := run_is q_s_DiffOf_c1.eq_1
def q_s_DiffOf_l1 : QCode := .seq (.seq (.draw [⟨some 57, .move (.tmp 6), 3, none⟩, ⟨some 58, .move (.tmp 0), 23, none⟩, ⟨some 59, .call { callee := .builtin .len, args := #[.tmp 58], argTypes := #[23] }, 3, none⟩, ⟨some 60, .move (.tmp 5), 3, none⟩, ⟨some 61, .binOp .sub 3 (.tmp 59) (.tmp 60) 3, 3, none⟩, ⟨some 62, .binOp .lss 3 (.tmp 57) (.tmp 61) 3, 4, none⟩, ⟨some 63, .move (.tmp 62), 4, none⟩, ⟨some 64, .move (.tmp 6), 3, some (63, true)⟩, ⟨some 65, .move (.tmp 1), 23, some (63, true)⟩, ⟨some 66, .call { callee := .builtin .len, args := #[.tmp 65], argTypes := #[23] }, 3, some (63, true)⟩, ⟨some 67, .move (.tmp 5), 3, some (63, true)⟩, ⟨some 68, .binOp .sub 3 (.tmp 66) (.tmp 67) 3, 3, some (63, true)⟩, ⟨some 69, .binOp .lss 3 (.tmp 64) (.tmp 68) 3, 4, some (63, true)⟩, ⟨some 70, .pick (.tmp 63) (.tmp 69) (.const (.bool false)), 4, none⟩, ⟨some 71, .move (.tmp 70), 4, none⟩, ⟨some 72, .move (.tmp 0), 23, some (71, true)⟩, ⟨some 73, .move (.tmp 0), 23, some (71, true)⟩, ⟨some 74, .call { callee := .builtin .len, args := #[.tmp 73], argTypes := #[23] }, 3, some (71, true)⟩, ⟨some 75, .binOp .sub 3 (.tmp 74) (.const (.int .i64 1)) 3, 3, some (71, true)⟩, ⟨some 76, .move (.tmp 6), 3, some (71, true)⟩, ⟨some 77, .binOp .sub 3 (.tmp 75) (.tmp 76) 3, 3, some (71, true)⟩, ⟨some 78, .indexAddr 23 (.tmp 72) (.tmp 77), 0, some (71, true)⟩, ⟨some 79, .load 9 (.tmp 78), 9, some (71, true)⟩, ⟨some 80, .move (.tmp 1), 23, some (71, true)⟩, ⟨some 81, .move (.tmp 1), 23, some (71, true)⟩, ⟨some 82, .call { callee := .builtin .len, args := #[.tmp 81], argTypes := #[23] }, 3, some (71, true)⟩, ⟨some 83, .binOp .sub 3 (.tmp 82) (.const (.int .i64 1)) 3, 3, some (71, true)⟩, ⟨some 84, .move (.tmp 6), 3, some (71, true)⟩, ⟨some 85, .binOp .sub 3 (.tmp 83) (.tmp 84) 3, 3, some (71, true)⟩, ⟨some 86, .indexAddr 23 (.tmp 80) (.tmp 85), 0, some (71, true)⟩, ⟨some 87, .load 9 (.tmp 86), 9, some (71, true)⟩] [⟨some 88, .binOp .eql 9 (.tmp 79) (.tmp 87) 9, 4, some (71, true)⟩, ⟨some 89, .pick (.tmp 71) (.tmp 88) (.const (.bool false)), 4, none⟩]) (.cond (.tmp 89) (.skip) (.exit 2))) (q_s_DiffOf_c1)
@[simp] theorem q_s_DiffOf_l1_run : type_of% (run_is q_s_DiffOf_l1.eq_1) := run_is q_s_DiffOf_l1.eq_1
def q_s_DiffOf_c2 : QCode := .ops [⟨some 103, .move (.tmp 9), 3, none⟩, ⟨some 104, .binOp .add 3 (.tmp 103) (.const (.int .i64 1)) 3, 3, none⟩, ⟨some 9, .assign (.tmp 104), 3, none⟩]
@[simp] theorem q_s_DiffOf_c2_run : type_of% (run_is q_s_DiffOf_c2.eq_1) := run_is q_s_DiffOf_c2.eq_1
def q_s_DiffOf_c3 : QCode := .seq (.block 5 (.draw [⟨some 105, .fieldAddr 39 (.tmp 8) 1, 0, none⟩, ⟨some 106, .load 23 (.tmp 105), 23, none⟩, ⟨some 107, .move (.tmp 0), 23, none⟩, ⟨some 108, .move (.tmp 9), 3, none⟩, ⟨some 109, .indexAddr 23 (.tmp 107) (.tmp 108), 0, none⟩, ⟨some 110, .load 9 (.tmp 109), 9, none⟩, ⟨some 111, .binOp .add 9 (.const (.string { data := #[32] })) (.tmp 110) 9, 9, none⟩, ⟨some 112, .buildSlice 23 1 #[(0, .tmp 111)], 23, none⟩] [⟨some 113, .call { callee := .builtin .append, args := #[.tmp 106, .tmp 112], argTypes := #[23, 23] }, 23, none⟩, ⟨some 114, .fieldAddr 39 (.tmp 8) 1, 0, none⟩, ⟨none, .store 23 (.tmp 114) (.tmp 113), 0, none⟩])) (q_s_DiffOf_c2)
@[simp] theorem q_s_DiffOf_c3_run : type_of% (run_is q_s_DiffOf_c3.eq_1) := run_is q_s_DiffOf_c3.eq_1
def q_s_DiffOf_l2 : QCode := .seq (.seq (.ops [⟨some 100, .move (.tmp 9), 3, none⟩, ⟨some 101, .move (.tmp 5), 3, none⟩, ⟨some 102, .binOp .lss 3 (.tmp 100) (.tmp 101) 3, 4, none⟩]) (.cond (.tmp 102) (.skip) (.exit 4))) (q_s_DiffOf_c3)
@[simp] theorem q_s_DiffOf_l2_run : type_of% (run_is q_s_DiffOf_l2.eq_1) := run_is q_s_DiffOf_l2.eq_1
def q_s_DiffOf_c4 : QCode := .ops [⟨some 122, .move (.tmp 10), 3, none⟩, ⟨some 123, .binOp .add 3 (.tmp 122) (.const (.int .i64 1)) 3, 3, none⟩, ⟨some 10, .assign (.tmp 123), 3, none⟩]
@[simp] theorem q_s_DiffOf_c4_run : type_of% (run_is q_s_DiffOf_c4.eq_1) := run_is q_s_DiffOf_c4.eq_1
def q_s_DiffOf_c5 : QCode := .seq (.block 7 (.draw [⟨some 124, .fieldAddr 39 (.tmp 8) 1, 0, none⟩, ⟨some 125, .load 23 (.tmp 124), 23, none⟩, ⟨some 126, .move (.tmp 0), 23, none⟩, ⟨some 127, .move (.tmp 10), 3, none⟩, ⟨some 128, .indexAddr 23 (.tmp 126) (.tmp 127), 0, none⟩, ⟨some 129, .load 9 (.tmp 128), 9, none⟩, ⟨some 130, .binOp .add 9 (.const (.string { data := #[45] })) (.tmp 129) 9, 9, none⟩, ⟨some 131, .buildSlice 23 1 #[(0, .tmp 130)], 23, none⟩] [⟨some 132, .call { callee := .builtin .append, args := #[.tmp 125, .tmp 131], argTypes := #[23, 23] }, 23, none⟩, ⟨some 133, .fieldAddr 39 (.tmp 8) 1, 0, none⟩, ⟨none, .store 23 (.tmp 133) (.tmp 132), 0, none⟩])) (q_s_DiffOf_c4)
@[simp] theorem q_s_DiffOf_c5_run : type_of% (run_is q_s_DiffOf_c5.eq_1) := run_is q_s_DiffOf_c5.eq_1
def q_s_DiffOf_l3 : QCode := .seq (.seq (.ops [⟨some 116, .move (.tmp 10), 3, none⟩, ⟨some 117, .move (.tmp 0), 23, none⟩, ⟨some 118, .call { callee := .builtin .len, args := #[.tmp 117], argTypes := #[23] }, 3, none⟩, ⟨some 119, .move (.tmp 6), 3, none⟩, ⟨some 120, .binOp .sub 3 (.tmp 118) (.tmp 119) 3, 3, none⟩, ⟨some 121, .binOp .lss 3 (.tmp 116) (.tmp 120) 3, 4, none⟩]) (.cond (.tmp 121) (.skip) (.exit 6))) (q_s_DiffOf_c5)
@[simp] theorem q_s_DiffOf_l3_run : type_of% (run_is q_s_DiffOf_l3.eq_1) := run_is q_s_DiffOf_l3.eq_1
def q_s_DiffOf_c6 : QCode := .ops [⟨some 141, .move (.tmp 11), 3, none⟩, ⟨some 142, .binOp .add 3 (.tmp 141) (.const (.int .i64 1)) 3, 3, none⟩, ⟨some 11, .assign (.tmp 142), 3, none⟩]
@[simp] theorem q_s_DiffOf_c6_run : type_of% (run_is q_s_DiffOf_c6.eq_1) := run_is q_s_DiffOf_c6.eq_1
def q_s_DiffOf_c7 : QCode := .seq (.block 9 (.draw [⟨some 143, .fieldAddr 39 (.tmp 8) 1, 0, none⟩, ⟨some 144, .load 23 (.tmp 143), 23, none⟩, ⟨some 145, .move (.tmp 1), 23, none⟩, ⟨some 146, .move (.tmp 11), 3, none⟩, ⟨some 147, .indexAddr 23 (.tmp 145) (.tmp 146), 0, none⟩, ⟨some 148, .load 9 (.tmp 147), 9, none⟩, ⟨some 149, .binOp .add 9 (.const (.string { data := #[43] })) (.tmp 148) 9, 9, none⟩, ⟨some 150, .buildSlice 23 1 #[(0, .tmp 149)], 23, none⟩] [⟨some 151, .call { callee := .builtin .append, args := #[.tmp 144, .tmp 150], argTypes := #[23, 23] }, 23, none⟩, ⟨some 152, .fieldAddr 39 (.tmp 8) 1, 0, none⟩, ⟨none, .store 23 (.tmp 152) (.tmp 151), 0, none⟩])) (q_s_DiffOf_c6)
@[simp] theorem q_s_DiffOf_c7_run : type_of% (run_is q_s_DiffOf_c7.eq_1) := run_is q_s_DiffOf_c7.eq_1
def q_s_DiffOf_l4 : QCode := .seq (.seq (.ops [⟨some 135, .move (.tmp 11), 3, none⟩, ⟨some 136, .move (.tmp 1), 23, none⟩, ⟨some 137, .call { callee := .builtin .len, args := #[.tmp 136], argTypes := #[23] }, 3, none⟩, ⟨some 138, .move (.tmp 6), 3, none⟩, ⟨some 139, .binOp .sub 3 (.tmp 137) (.tmp 138) 3, 3, none⟩, ⟨some 140, .binOp .lss 3 (.tmp 135) (.tmp 139) 3, 4, none⟩]) (.cond (.tmp 140) (.skip) (.exit 8))) (q_s_DiffOf_c7)
@[simp] theorem q_s_DiffOf_l4_run : type_of% (run_is q_s_DiffOf_l4.eq_1) := run_is q_s_DiffOf_l4.eq_1
def q_s_DiffOf_c8 : QCode := .ops [⟨some 170, .move (.tmp 12), 3, none⟩, ⟨some 171, .binOp .add 3 (.tmp 170) (.const (.int .i64 1)) 3, 3, none⟩, ⟨some 12, .assign (.tmp 171), 3, none⟩]
@[simp] theorem q_s_DiffOf_c8_run : type_of% (run_is q_s_DiffOf_c8.eq_1) := run_is q_s_DiffOf_c8.eq_1
def q_s_DiffOf_c9 : QCode := .seq (.block 11 (.draw [⟨some 172, .fieldAddr 39 (.tmp 8) 1, 0, none⟩, ⟨some 173, .load 23 (.tmp 172), 23, none⟩, ⟨some 174, .move (.tmp 0), 23, none⟩, ⟨some 175, .move (.tmp 12), 3, none⟩, ⟨some 176, .indexAddr 23 (.tmp 174) (.tmp 175), 0, none⟩, ⟨some 177, .load 9 (.tmp 176), 9, none⟩, ⟨some 178, .binOp .add 9 (.const (.string { data := #[32] })) (.tmp 177) 9, 9, none⟩, ⟨some 179, .buildSlice 23 1 #[(0, .tmp 178)], 23, none⟩] [⟨some 180, .call { callee := .builtin .append, args := #[.tmp 173, .tmp 179], argTypes := #[23, 23] }, 23, none⟩, ⟨some 181, .fieldAddr 39 (.tmp 8) 1, 0, none⟩, ⟨none, .store 23 (.tmp 181) (.tmp 180), 0, none⟩])) (q_s_DiffOf_c8)
@[simp] theorem q_s_DiffOf_c9_run : type_of% (run_is q_s_DiffOf_c9.eq_1) := run_is q_s_DiffOf_c9.eq_1
def q_s_DiffOf_l5 : QCode := .seq (.seq (.ops [⟨some 157, .move (.tmp 12), 3, none⟩, ⟨some 158, .move (.tmp 0), 23, none⟩, ⟨some 159, .call { callee := .builtin .len, args := #[.tmp 158], argTypes := #[23] }, 3, none⟩, ⟨some 160, .binOp .lss 3 (.tmp 157) (.tmp 159) 3, 4, none⟩, ⟨some 161, .move (.tmp 160), 4, none⟩, ⟨some 162, .move (.tmp 12), 3, some (161, true)⟩, ⟨some 163, .move (.tmp 0), 23, some (161, true)⟩, ⟨some 164, .call { callee := .builtin .len, args := #[.tmp 163], argTypes := #[23] }, 3, some (161, true)⟩, ⟨some 165, .move (.tmp 6), 3, some (161, true)⟩, ⟨some 166, .binOp .sub 3 (.tmp 164) (.tmp 165) 3, 3, some (161, true)⟩, ⟨some 167, .binOp .add 3 (.tmp 166) (.const (.int .i64 2)) 3, 3, some (161, true)⟩, ⟨some 168, .binOp .lss 3 (.tmp 162) (.tmp 167) 3, 4, some (161, true)⟩, ⟨some 169, .pick (.tmp 161) (.tmp 168) (.const (.bool false)), 4, none⟩]) (.cond (.tmp 169) (.skip) (.exit 10))) (q_s_DiffOf_c9)
@[simp] theorem q_s_DiffOf_l5_run : type_of% (run_is q_s_DiffOf_l5.eq_1) := run_is q_s_DiffOf_l5.eq_1
def q_s_DiffOf_c10 : QCode := .seq (.ops [⟨some 186, .load 39 (.tmp 8), 39, none⟩, ⟨some 187, .buildSlice 26 1 #[(0, .tmp 186)], 26, none⟩, ⟨some 4, .assign (.tmp 187), 26, none⟩]) (.ret)
@[simp] theorem q_s_DiffOf_c10_run : type_of% (run_is q_s_DiffOf_c10.eq_1) := run_is q_s_DiffOf_c10.eq_1
def q_s_DiffOf_c11 : QCode := .seq (.seq (.ops [⟨some 182, .load 39 (.tmp 8), 39, none⟩, ⟨some 183, .call { callee := .value (.func 28), args := #[.tmp 182], argTypes := #[39] }, 4, none⟩, ⟨some 184, .unOp .not 4 (.tmp 183), 4, none⟩]) (.cond (.tmp 184) (.seq (.ops [⟨some 185, .buildSlice 26 0 #[], 26, none⟩, ⟨some 4, .assign (.tmp 185), 26, none⟩]) (.ret)) (.skip))) (q_s_DiffOf_c10)
@[simp] theorem q_s_DiffOf_c11_run : type_of% (run_is q_s_DiffOf_c11.eq_1) := run_is q_s_DiffOf_c11.eq_1
def q_s_DiffOf_c12 : QCode := .seq (.seq (.ops [⟨some 153, .move (.tmp 0), 23, none⟩, ⟨some 154, .call { callee := .builtin .len, args := #[.tmp 153], argTypes := #[23] }, 3, none⟩, ⟨some 155, .move (.tmp 6), 3, none⟩, ⟨some 156, .binOp .sub 3 (.tmp 154) (.tmp 155) 3, 3, none⟩, ⟨some 12, .assign (.tmp 156), 3, none⟩]) (.block 10 (.loop q_s_DiffOf_l5))) (q_s_DiffOf_c11)
@[simp] theorem q_s_DiffOf_c12_run : type_of% (run_is q_s_DiffOf_c12.eq_1) := run_is q_s_DiffOf_c12.eq_1
def q_s_DiffOf_c13 : QCode := .seq (.seq (.ops [⟨some 134, .move (.tmp 5), 3, none⟩, ⟨some 11, .assign (.tmp 134), 3, none⟩]) (.block 8 (.loop q_s_DiffOf_l4))) (q_s_DiffOf_c12)
@[simp] theorem q_s_DiffOf_c13_run : type_of% (run_is q_s_DiffOf_c13.eq_1) := run_is q_s_DiffOf_c13.eq_1
def q_s_DiffOf_c14 : QCode := .seq (.seq (.ops [⟨some 115, .move (.tmp 5), 3, none⟩, ⟨some 10, .assign (.tmp 115), 3, none⟩]) (.block 6 (.loop q_s_DiffOf_l3))) (q_s_DiffOf_c13)
@[simp] theorem q_s_DiffOf_c14_run : type_of% (run_is q_s_DiffOf_c14.eq_1) := run_is q_s_DiffOf_c14.eq_1
def q_s_DiffOf_c15 : QCode := .seq (.ops [⟨some 96, .move (.tmp 7), 3, none⟩, ⟨some 97, .binOp .add 3 (.tmp 96) (.const (.int .i64 1)) 3, 3, none⟩, ⟨some 98, .build 39 #[(0, .tmp 97)], 39, none⟩, ⟨some 8, .alloc 39, 0, none⟩, ⟨none, .store 39 (.tmp 8) (.tmp 98), 0, none⟩]) (.seq (.seq (.ops [⟨some 99, .move (.tmp 7), 3, none⟩, ⟨some 9, .assign (.tmp 99), 3, none⟩]) (.block 4 (.loop q_s_DiffOf_l2))) (q_s_DiffOf_c14))
@[simp] theorem q_s_DiffOf_c15_run : type_of% (run_is q_s_DiffOf_c15.eq_1) := run_is q_s_DiffOf_c15.eq_1
def q_s_DiffOf_c16 : QCode := .seq (.ops [⟨some 92, .move (.tmp 5), 3, none⟩, ⟨some 93, .binOp .sub 3 (.tmp 92) (.const (.int .i64 2)) 3, 3, none⟩, ⟨some 7, .assign (.tmp 93), 3, none⟩]) (.seq (.seq (.ops [⟨some 94, .move (.tmp 7), 3, none⟩, ⟨some 95, .binOp .lss 3 (.tmp 94) (.const (.int .i64 0)) 3, 4, none⟩]) (.cond (.tmp 95) (.ops [⟨some 7, .assign (.const (.int .i64 0)), 3, none⟩]) (.skip))) (q_s_DiffOf_c15))
@[simp] theorem q_s_DiffOf_c16_run : type_of% (run_is q_s_DiffOf_c16.eq_1) := run_is q_s_DiffOf_c16.eq_1
def q_s_DiffOf_c17 : QCode := .seq (.ops [⟨some 6, .assign (.const (.int .i64 0)), 3, none⟩]) (.seq (.block 2 (.loop q_s_DiffOf_l1)) (q_s_DiffOf_c16))
@[simp] theorem q_s_DiffOf_c17_run : type_of% (run_is q_s_DiffOf_c17.eq_1) := run_is q_s_DiffOf_c17.eq_1
def q_s_DiffOf_c18 : QCode := .seq (.ops [⟨some 5, .assign (.const (.int .i64 0)), 3, none⟩]) (.seq (.block 0 (.loop q_s_DiffOf_l0)) (q_s_DiffOf_c17))
@[simp] theorem q_s_DiffOf_c18_run : type_of% (run_is q_s_DiffOf_c18.eq_1) := run_is q_s_DiffOf_c18.eq_1
@[simp] def q_s_DiffOf : QFn := ⟨188, [(.tmp 4, 26)], .seq (.ops [⟨some 4, .assign (.const (.slice none 0 0)), 26, none⟩]) (.seq (.seq (.ops [⟨some 13, .move (.tmp 0), 23, none⟩, ⟨some 14, .call { callee := .value (.func 26), args := #[.tmp 13], argTypes := #[23] }, 4, none⟩, ⟨some 15, .unOp .not 4 (.tmp 14), 4, none⟩, ⟨some 16, .move (.tmp 15), 4, none⟩, ⟨some 17, .move (.tmp 1), 23, some (16, false)⟩, ⟨some 18, .call { callee := .value (.func 26), args := #[.tmp 17], argTypes := #[23] }, 4, some (16, false)⟩, ⟨some 19, .unOp .not 4 (.tmp 18), 4, some (16, false)⟩, ⟨some 20, .pick (.tmp 16) (.const (.bool true)) (.tmp 19), 4, none⟩, ⟨some 21, .move (.tmp 20), 4, none⟩, ⟨some 22, .move (.tmp 0), 23, some (21, false)⟩, ⟨some 23, .call { callee := .builtin .len, args := #[.tmp 22], argTypes := #[23] }, 3, some (21, false)⟩, ⟨some 24, .move (.tmp 1), 23, some (21, false)⟩, ⟨some 25, .call { callee := .builtin .len, args := #[.tmp 24], argTypes := #[23] }, 3, some (21, false)⟩, ⟨some 26, .binOp .eql 3 (.tmp 23) (.tmp 25) 3, 4, some (21, false)⟩, ⟨some 27, .move (.tmp 26), 4, some (21, false)⟩, ⟨some 28, .move (.tmp 0), 23, some (27, true)⟩, ⟨some 29, .move (.tmp 1), 23, some (27, true)⟩, ⟨some 30, .call { callee := .value (.func 27), args := #[.tmp 28, .const (.int .i64 0), .tmp 29], argTypes := #[23, 3, 23] }, 4, some (27, true)⟩, ⟨some 31, .pick (.tmp 27) (.tmp 30) (.const (.bool false)), 4, some (21, false)⟩, ⟨some 32, .pick (.tmp 21) (.const (.bool true)) (.tmp 31), 4, none⟩]) (.cond (.tmp 32) (.seq (.ops [⟨some 33, .buildSlice 26 0 #[], 26, none⟩, ⟨some 4, .assign (.tmp 33), 26, none⟩]) (.ret)) (.skip))) (q_s_DiffOf_c18))⟩
theorem conv_s_DiffOf : convF Try.f12 = some q_s_DiffOf := by kernel_rfl
/-! 13 i_Patch -/
abbrev fn_i_Patch : FuncId := 13
def q_i_Patch_c0 : QCode := .ops [⟨some 43, .binOp .add 3 (.tmp 33) (.const (.int .i64 1)) 3, 3, none⟩, ⟨some 33, .move (.tmp 43), 3, none⟩]
@[simp] theorem q_i_Patch_c0_run : type_of% (run_is q_i_Patch_c0.eq_1) := run_is q_i_Patch_c0.eq_1
def q_i_Patch_c1 : QCode := .seq (.block 1 (.seq (.ops [⟨some 35, .indexAddr 26 (.tmp 31) (.tmp 33), 0, none⟩, ⟨some 36, .load 39 (.tmp 35), 39, none⟩, ⟨some 11, .alloc 39, 0, none⟩, ⟨none, .store 39 (.tmp 11) (.tmp 36), 0, none⟩]) (.seq (.ops [⟨some 37, .load 39 (.tmp 11), 39, none⟩, ⟨some 38, .move (.tmp 2), 3, none⟩, ⟨some 39, .call { callee := .value (.func 30), args := #[.tmp 9, .tmp 37, .tmp 38], argTypes := #[52, 39, 3] }, 4, none⟩, ⟨some 40, .unOp .not 4 (.tmp 39), 4, none⟩]) (.cond (.tmp 40) (.seq (.ops [⟨some 41, .move (.tmp 0), 23, none⟩, ⟨some 42, .call { callee := .value (.func 29), args := #[.tmp 41], argTypes := #[23] }, 23, none⟩, ⟨some 6, .assign (.tmp 42), 23, none⟩, ⟨some 7, .assign (.const (.slice none 0 0)), 29, none⟩, ⟨some 8, .assign (.const (.bool false)), 4, none⟩]) (.ret)) (.skip))))) (q_i_Patch_c0)
@[simp] theorem q_i_Patch_c1_run : type_of% (run_is q_i_Patch_c1.eq_1) := run_is q_i_Patch_c1.eq_1
def q_i_Patch_l0 : QCode := .seq (.ops [⟨some 34, .binOp .lss 3 (.tmp 33) (.tmp 32) 3, 0, none⟩]) (.seq (.cond (.tmp 34) (.skip) (.exit 0)) (q_i_Patch_c1))
@[simp] theorem q_i_Patch_l0_run : type_of% (run_is q_i_Patch_l0.eq_1) := run_is q_i_Patch_l0.eq_1
def q_i_Patch_c2 : QCode := .seq (.draw [⟨some 50, .fieldAddr 52 (.tmp 9) 0, 0, none⟩, ⟨some 51, .load 23 (.tmp 50), 23, none⟩, ⟨some 52, .fieldAddr 52 (.tmp 9) 3, 0, none⟩, ⟨some 53, .load 29 (.tmp 52), 29, none⟩, ⟨some 6, .assign (.tmp 51), 23, none⟩] [⟨some 7, .assign (.tmp 53), 29, none⟩, ⟨some 8, .assign (.const (.bool true)), 4, none⟩]) (.ret)
@[simp] theorem q_i_Patch_c2_run : type_of% (run_is q_i_Patch_c2.eq_1) := run_is q_i_Patch_c2.eq_1
def q_i_Patch_c3 : QCode := .seq (.seq (.ops [⟨some 44, .fieldAddr 52 (.tmp 9) 0, 0, none⟩, ⟨some 45, .load 23 (.tmp 44), 23, none⟩, ⟨some 46, .call { callee := .value (.func 23), args := #[.tmp 45], argTypes := #[23] }, 4, none⟩, ⟨some 47, .unOp .not 4 (.tmp 46), 4, none⟩]) (.cond (.tmp 47) (.seq (.ops [⟨some 48, .move (.tmp 0), 23, none⟩, ⟨some 49, .call { callee := .value (.func 29), args := #[.tmp 48], argTypes := #[23] }, 23, none⟩, ⟨some 6, .assign (.tmp 49), 23, none⟩, ⟨some 7, .assign (.const (.slice none 0 0)), 29, none⟩, ⟨some 8, .assign (.const (.bool false)), 4, none⟩]) (.ret)) (.skip))) (q_i_Patch_c2)
@[simp] theorem q_i_Patch_c3_run : type_of% (run_is q_i_Patch_c3.eq_1) := run_is q_i_Patch_c3.eq_1
def q_i_Patch_c4 : QCode := .seq (.ops [⟨some 28, .move (.tmp 0), 23, none⟩, ⟨some 29, .call { callee := .value (.func 29), args := #[.tmp 28], argTypes := #[23] }, 23, none⟩, ⟨some 30, .build 52 #[(0, .tmp 29)], 52, none⟩, ⟨some 9, .alloc 52, 0, none⟩, ⟨none, .store 52 (.tmp 9) (.tmp 30), 0, none⟩]) (.seq (.seq (.ops [⟨some 31, .move (.tmp 1), 26, none⟩, ⟨some 32, .call { callee := .builtin .len, args := #[.tmp 31], argTypes := #[26] }, 3, none⟩, ⟨some 33, .move (.const (.int .i64 0)), 3, none⟩]) (.block 0 (.loop q_i_Patch_l0))) (q_i_Patch_c3))
@[simp] theorem q_i_Patch_c4_run : type_of% (run_is q_i_Patch_c4.eq_1) := run_is q_i_Patch_c4.eq_1
@[simp] def q_i_Patch : QFn := ⟨54, [(.tmp 6, 23), (.tmp 7, 29), (.tmp 8, 4)], .seq (.ops [⟨some 6, .assign (.const (.slice none 0 0)), 23, none⟩, ⟨some 7, .assign (.const (.slice none 0 0)), 29, none⟩, ⟨some 8, .assign (.const (.bool false)), 4, none⟩]) (.seq (.seq (.ops [⟨some 12, .move (.tmp 0), 23, none⟩, ⟨some 13, .call { callee := .value (.func 23), args := #[.tmp 12], argTypes := #[23] }, 4, none⟩, ⟨some 14, .unOp .not 4 (.tmp 13), 4, none⟩, ⟨some 15, .move (.tmp 14), 4, none⟩, ⟨some 16, .move (.tmp 1), 26, some (15, false)⟩, ⟨some 17, .call { callee := .value (.func 14), args := #[.tmp 16], argTypes := #[26] }, 4, some (15, false)⟩, ⟨some 18, .unOp .not 4 (.tmp 17), 4, some (15, false)⟩, ⟨some 19, .pick (.tmp 15) (.const (.bool true)) (.tmp 18), 4, none⟩, ⟨some 20, .move (.tmp 19), 4, none⟩, ⟨some 21, .move (.tmp 2), 3, some (20, false)⟩, ⟨some 22, .binOp .lss 3 (.tmp 21) (.const (.int .i64 0)) 3, 4, some (20, false)⟩, ⟨some 23, .pick (.tmp 20) (.const (.bool true)) (.tmp 22), 4, none⟩, ⟨some 24, .move (.tmp 23), 4, none⟩, ⟨some 25, .move (.tmp 2), 3, some (24, false)⟩, ⟨some 26, .binOp .gtr 3 (.tmp 25) (.const (.int .i64 2)) 3, 4, some (24, false)⟩, ⟨some 27, .pick (.tmp 24) (.const (.bool true)) (.tmp 26), 4, none⟩]) (.cond (.tmp 27) (.seq (.ops [⟨some 6, .assign (.const (.slice none 0 0)), 23, none⟩, ⟨some 7, .assign (.const (.slice none 0 0)), 29, none⟩, ⟨some 8, .assign (.const (.bool false)), 4, none⟩]) (.ret)) (.skip))) (q_i_Patch_c4))⟩
theorem conv_i_Patch : convF Try.f13 = some q_i_Patch := by kernel_rfl
/-! 14 i_HunksOk -/
abbrev fn_i_HunksOk : FuncId := 14
def q_i_HunksOk_c0 : QCode := .seq (.ops [⟨some 43, .fieldAddr 39 (.tmp 5) 1, 0, none⟩, ⟨some 44, .load 23 (.tmp 43), 23, none⟩, ⟨some 45, .call { callee := .value (.func 33), args := #[.tmp 44], argTypes := #[23] }, 24, none⟩, ⟨some 42, .move (.tmp 45), 24, none⟩, ⟨some 46, .extract (.tmp 42) 0, 23, none⟩, ⟨some 47, .extract (.tmp 42) 1, 23, none⟩, ⟨some 6, .assign (.tmp 46), 23, none⟩, ⟨some 7, .assign (.tmp 47), 23, none⟩]) (.ops [⟨some 48, .fieldAddr 39 (.tmp 5) 0, 0, none⟩, ⟨some 49, .load 3 (.tmp 48), 3, none⟩, ⟨some 50, .move (.tmp 6), 23, none⟩, ⟨some 51, .call { callee := .builtin .len, args := #[.tmp 50], argTypes := #[23] }, 3, none⟩, ⟨some 52, .binOp .add 3 (.tmp 49) (.tmp 51) 3, 3, none⟩, ⟨some 3, .assign (.tmp 52), 3, none⟩])
@[simp] theorem q_i_HunksOk_c0_run : type_of% (run_is q_i_HunksOk_c0.eq_1) := run_is q_i_HunksOk_c0.eq_1
def q_i_HunksOk_c1 : QCode := .seq (.seq (.ops [⟨some 38, .fieldAddr 39 (.tmp 5) 1, 0, none⟩, ⟨some 39, .load 23 (.tmp 38), 23, none⟩, ⟨some 40, .call { callee := .value (.func 31), args := #[.tmp 39, .func 32], argTypes := #[23, 55] }, 4, none⟩, ⟨some 41, .unOp .not 4 (.tmp 40), 4, none⟩]) (.cond (.tmp 41) (.seq (.ops [⟨some 2, .assign (.const (.bool false)), 4, none⟩]) (.ret)) (.skip))) (q_i_HunksOk_c0)
@[simp] theorem q_i_HunksOk_c1_run : type_of% (run_is q_i_HunksOk_c1.eq_1) := run_is q_i_HunksOk_c1.eq_1
def q_i_HunksOk_c2 : QCode := .ops [⟨some 53, .binOp .add 3 (.tmp 13) (.const (.int .i64 1)) 3, 3, none⟩, ⟨some 13, .move (.tmp 53), 3, none⟩]
@[simp] theorem q_i_HunksOk_c2_run : type_of% (run_is q_i_HunksOk_c2.eq_1) := run_is q_i_HunksOk_c2.eq_1
def q_i_HunksOk_c3 : QCode := .seq (.block 1 (.seq (.ops [⟨some 15, .indexAddr 26 (.tmp 11) (.tmp 13), 0, none⟩, ⟨some 16, .load 39 (.tmp 15), 39, none⟩, ⟨some 5, .alloc 39, 0, none⟩, ⟨none, .store 39 (.tmp 5) (.tmp 16), 0, none⟩]) (.seq (.seq (.ops [⟨some 17, .fieldAddr 39 (.tmp 5) 0, 0, none⟩, ⟨some 18, .load 3 (.tmp 17), 3, none⟩, ⟨some 19, .move (.tmp 3), 3, none⟩, ⟨some 20, .binOp .lss 3 (.tmp 18) (.tmp 19) 3, 4, none⟩, ⟨some 21, .move (.tmp 20), 4, none⟩, ⟨some 22, .fieldAddr 39 (.tmp 5) 0, 0, some (21, false)⟩, ⟨some 23, .load 3 (.tmp 22), 3, some (21, false)⟩, ⟨some 24, .binOp .gtr 3 (.tmp 23) (.const (.int .i64 999)) 3, 4, some (21, false)⟩, ⟨some 25, .pick (.tmp 21) (.const (.bool true)) (.tmp 24), 4, none⟩, ⟨some 26, .move (.tmp 25), 4, none⟩, ⟨some 27, .fieldAddr 39 (.tmp 5) 1, 0, some (26, false)⟩, ⟨some 28, .load 23 (.tmp 27), 23, some (26, false)⟩, ⟨some 29, .call { callee := .builtin .len, args := #[.tmp 28], argTypes := #[23] }, 3, some (26, false)⟩, ⟨some 30, .binOp .lss 3 (.tmp 29) (.const (.int .i64 1)) 3, 4, some (26, false)⟩, ⟨some 31, .pick (.tmp 26) (.const (.bool true)) (.tmp 30), 4, none⟩, ⟨some 32, .move (.tmp 31), 4, none⟩, ⟨some 33, .fieldAddr 39 (.tmp 5) 1, 0, some (32, false)⟩, ⟨some 34, .load 23 (.tmp 33), 23, some (32, false)⟩, ⟨some 35, .call { callee := .builtin .len, args := #[.tmp 34], argTypes := #[23] }, 3, some (32, false)⟩, ⟨some 36, .binOp .gtr 3 (.tmp 35) (.const (.int .i64 30)) 3, 4, some (32, false)⟩, ⟨some 37, .pick (.tmp 32) (.const (.bool true)) (.tmp 36), 4, none⟩]) (.cond (.tmp 37) (.seq (.ops [⟨some 2, .assign (.const (.bool false)), 4, none⟩]) (.ret)) (.skip))) (q_i_HunksOk_c1)))) (q_i_HunksOk_c2)
@[simp] theorem q_i_HunksOk_c3_run : type_of% (run_is q_i_HunksOk_c3.eq_1) := run_is q_i_HunksOk_c3.eq_1
def q_i_HunksOk_l0 : QCode := .seq (.ops [⟨some 14, .binOp .lss 3 (.tmp 13) (.tmp 12) 3, 0, none⟩]) (.seq (.cond (.tmp 14) (.skip) (.exit 0)) (q_i_HunksOk_c3))
@[simp] theorem q_i_HunksOk_l0_run : type_of% (run_is q_i_HunksOk_l0.eq_1) := run_is q_i_HunksOk_l0.eq_1
def q_i_HunksOk_c4 : QCode := .seq (.ops [⟨some 2, .assign (.const (.bool true)), 4, none⟩]) (.ret)
@[simp] theorem q_i_HunksOk_c4_run : type_of% (run_is q_i_HunksOk_c4.eq_1) := run_is q_i_HunksOk_c4.eq_1
def q_i_HunksOk_c5 : QCode := .seq (.ops [⟨some 3, .assign (.const (.int .i64 1)), 3, none⟩]) (.seq (.seq (.ops [⟨some 11, .move (.tmp 0), 26, none⟩, ⟨some 12, .call { callee := .builtin .len, args := #[.tmp 11], argTypes := #[26] }, 3, none⟩, ⟨some 13, .move (.const (.int .i64 0)), 3, none⟩]) (.block 0 (.loop q_i_HunksOk_l0))) (q_i_HunksOk_c4))
@[simp] theorem q_i_HunksOk_c5_run : type_of% (run_is q_i_HunksOk_c5.eq_1) := run_is q_i_HunksOk_c5.eq_1
@[simp] def q_i_HunksOk : QFn := ⟨54, [(.tmp 2, 4)], .seq (.ops [⟨some 2, .assign (.const (.bool false)), 4, none⟩]) (.seq (.seq (.ops [⟨some 8, .move (.tmp 0), 26, none⟩, ⟨some 9, .call { callee := .builtin .len, args := #[.tmp 8], argTypes := #[26] }, 3, none⟩, ⟨some 10, .binOp .gtr 3 (.tmp 9) (.const (.int .i64 4)) 3, 4, none⟩]) (.cond (.tmp 10) (.seq (.ops [⟨some 2, .assign (.const (.bool false)), 4, none⟩]) (.ret)) (.skip))) (q_i_HunksOk_c5))⟩
theorem conv_i_HunksOk : convF Try.f14 = some q_i_HunksOk := by kernel_rfl
/-! 15 w_jsTexts -/
abbrev fn_w_jsTexts : FuncId := 15
def q_w_jsTexts_c0 : QCode := .ops [⟨some 15, .move (.tmp 5), 3, none⟩, ⟨some 16, .binOp .add 3 (.tmp 15) (.const (.int .i64 1)) 3, 3, none⟩, ⟨some 5, .assign (.tmp 16), 3, none⟩]
@[simp] theorem q_w_jsTexts_c0_run : type_of% (run_is q_w_jsTexts_c0.eq_1) := run_is q_w_jsTexts_c0.eq_1
def q_w_jsTexts_c1 : QCode := .seq (.block 1 (.seq (.draw [⟨some 17, .move (.tmp 0), 23, none⟩, ⟨some 18, .move (.tmp 5), 3, none⟩, ⟨some 19, .indexAddr 23 (.tmp 17) (.tmp 18), 0, none⟩, ⟨some 20, .load 9 (.tmp 19), 9, none⟩, ⟨some 21, .move (.tmp 1), 23, none⟩, ⟨some 22, .move (.tmp 5), 3, none⟩, ⟨some 23, .indexAddr 23 (.tmp 21) (.tmp 22), 0, none⟩, ⟨some 24, .load 9 (.tmp 23), 9, none⟩] [⟨some 25, .binOp .neq 9 (.tmp 20) (.tmp 24) 9, 4, none⟩]) (.cond (.tmp 25) (.seq (.ops [⟨some 4, .assign (.const (.bool false)), 4, none⟩]) (.ret)) (.skip)))) (q_w_jsTexts_c0)
@[simp] theorem q_w_jsTexts_c1_run : type_of% (run_is q_w_jsTexts_c1.eq_1) := run_is q_w_jsTexts_c1.eq_1
def q_w_jsTexts_l0 : QCode := .seq (.seq (.ops [⟨some 11, .move (.tmp 5), 3, none⟩, ⟨some 12, .move (.tmp 0), 23, none⟩, ⟨some 13, .call { callee := .builtin .len, args := #[.tmp 12], argTypes := #[23] }, 3, none⟩, ⟨some 14, .binOp .lss 3 (.tmp 11) (.tmp 13) 3, 4, none⟩]) (.cond (.tmp 14) (.skip) (.exit 0))) (q_w_jsTexts_c1)
@[simp] theorem q_w_jsTexts_l0_run : type_of% (run_is q_w_jsTexts_l0.eq_1) := run_is q_w_jsTexts_l0.eq_1
def q_w_jsTexts_c2 : QCode := .seq (.ops [⟨some 4, .assign (.const (.bool true)), 4, none⟩]) (.ret)
@[simp] theorem q_w_jsTexts_c2_run : type_of% (run_is q_w_jsTexts_c2.eq_1) := run_is q_w_jsTexts_c2.eq_1
def q_w_jsTexts_c3 : QCode := .seq (.seq (.ops [⟨some 5, .assign (.const (.int .i64 0)), 3, none⟩]) (.block 0 (.loop q_w_jsTexts_l0))) (q_w_jsTexts_c2)
@[simp] theorem q_w_jsTexts_c3_run : type_of% (run_is q_w_jsTexts_c3.eq_1) := run_is q_w_jsTexts_c3.eq_1
@[simp] def q_w_jsTexts : QFn := ⟨26, [(.tmp 4, 4)], .seq (.ops [⟨some 4, .assign (.const (.bool false)), 4, none⟩]) (.seq (.seq (.ops [⟨some 6, .move (.tmp 0), 23, none⟩, ⟨some 7, .call { callee := .builtin .len, args := #[.tmp 6], argTypes := #[23] }, 3, none⟩, ⟨some 8, .move (.tmp 1), 23, none⟩, ⟨some 9, .call { callee := .builtin .len, args := #[.tmp 8], argTypes := #[23] }, 3, none⟩, ⟨some 10, .binOp .neq 3 (.tmp 7) (.tmp 9) 3, 4, none⟩]) (.cond (.tmp 10) (.seq (.ops [⟨some 4, .assign (.const (.bool false)), 4, none⟩]) (.ret)) (.skip))) (q_w_jsTexts_c3))⟩
theorem conv_w_jsTexts : convF Try.f15 = some q_w_jsTexts := by kernel_rfl
/-! 16 w_jsInts -/
abbrev fn_w_jsInts : FuncId := 16
def q_w_jsInts_c0 : QCode := .ops [⟨some 15, .move (.tmp 5), 3, none⟩, ⟨some 16, .binOp .add 3 (.tmp 15) (.const (.int .i64 1)) 3, 3, none⟩, ⟨some 5, .assign (.tmp 16), 3, none⟩]
@[simp] theorem q_w_jsInts_c0_run : type_of% (run_is q_w_jsInts_c0.eq_1) := run_is q_w_jsInts_c0.eq_1
def q_w_jsInts_c1 : QCode := .seq (.block 1 (.seq (.draw [⟨some 17, .move (.tmp 0), 29, none⟩, ⟨some 18, .move (.tmp 5), 3, none⟩, ⟨some 19, .indexAddr 29 (.tmp 17) (.tmp 18), 0, none⟩, ⟨some 20, .load 3 (.tmp 19), 3, none⟩, ⟨some 21, .move (.tmp 1), 29, none⟩, ⟨some 22, .move (.tmp 5), 3, none⟩, ⟨some 23, .indexAddr 29 (.tmp 21) (.tmp 22), 0, none⟩, ⟨some 24, .load 3 (.tmp 23), 3, none⟩] [⟨some 25, .binOp .neq 3 (.tmp 20) (.tmp 24) 3, 4, none⟩]) (.cond (.tmp 25) (.seq (.ops [⟨some 4, .assign (.const (.bool false)), 4, none⟩]) (.ret)) (.skip)))) (q_w_jsInts_c0)
@[simp] theorem q_w_jsInts_c1_run : type_of% (run_is q_w_jsInts_c1.eq_1) := run_is q_w_jsInts_c1.eq_1
def q_w_jsInts_l0 : QCode := .seq (.seq (.ops [⟨some 11, .move (.tmp 5), 3, none⟩, ⟨some 12, .move (.tmp 0), 29, none⟩, ⟨some 13, .call { callee := .builtin .len, args := #[.tmp 12], argTypes := #[29] }, 3, none⟩, ⟨some 14, .binOp .lss 3 (.tmp 11) (.tmp 13) 3, 4, none⟩]) (.cond (.tmp 14) (.skip) (.exit 0))) (q_w_jsInts_c1)
@[simp] theorem q_w_jsInts_l0_run : type_of% (run_is q_w_jsInts_l0.eq_1) := run_is q_w_jsInts_l0.eq_1
def q_w_jsInts_c2 : QCode := .seq (.ops [⟨some 4, .assign (.const (.bool true)), 4, none⟩]) (.ret)
@[simp] theorem q_w_jsInts_c2_run : type_of% (run_is q_w_jsInts_c2.eq_1) := run_is q_w_jsInts_c2.eq_1
def q_w_jsInts_c3 : QCode := .seq (.seq (.ops [⟨some 5, .assign (.const (.int .i64 0)), 3, none⟩]) (.block 0 (.loop q_w_jsInts_l0))) (q_w_jsInts_c2)
@[simp] theorem q_w_jsInts_c3_run : type_of% (run_is q_w_jsInts_c3.eq_1) := run_is q_w_jsInts_c3.eq_1
@[simp] def q_w_jsInts : QFn := ⟨26, [(.tmp 4, 4)], .seq (.ops [⟨some 4, .assign (.const (.bool false)), 4, none⟩]) (.seq (.seq (.ops [⟨some 6, .move (.tmp 0), 29, none⟩, ⟨some 7, .call { callee := .builtin .len, args := #[.tmp 6], argTypes := #[29] }, 3, none⟩, ⟨some 8, .move (.tmp 1), 29, none⟩, ⟨some 9, .call { callee := .builtin .len, args := #[.tmp 8], argTypes := #[29] }, 3, none⟩, ⟨some 10, .binOp .neq 3 (.tmp 7) (.tmp 9) 3, 4, none⟩]) (.cond (.tmp 10) (.seq (.ops [⟨some 4, .assign (.const (.bool false)), 4, none⟩]) (.ret)) (.skip))) (q_w_jsInts_c3))⟩
theorem conv_w_jsInts : convF Try.f16 = some q_w_jsInts := by kernel_rfl
/-! 18 s_Patch -/
abbrev fn_s_Patch : FuncId := 18
def q_s_Patch_c0 : QCode := .seq (.ops [⟨some 63, .move (.tmp 14), 23, none⟩, ⟨some 9, .assign (.tmp 63), 23, none⟩]) (.seq (.ops [⟨some 64, .move (.tmp 15), 3, none⟩, ⟨some 11, .assign (.tmp 64), 3, none⟩]) (.seq (.draw [⟨some 65, .move (.tmp 12), 3, none⟩, ⟨some 66, .move (.tmp 16), 3, none⟩, ⟨some 67, .binOp .add 3 (.tmp 65) (.tmp 66) 3, 3, none⟩, ⟨some 68, .move (.tmp 1), 26, none⟩, ⟨some 69, .move (.tmp 13), 3, none⟩, ⟨some 70, .indexAddr 26 (.tmp 68) (.tmp 69), 0, none⟩, ⟨some 71, .load 39 (.tmp 70), 39, none⟩, ⟨some 72, .call { callee := .value (.func 38), args := #[.tmp 71], argTypes := #[39] }, 23, none⟩, ⟨some 73, .call { callee := .builtin .len, args := #[.tmp 72], argTypes := #[23] }, 3, none⟩, ⟨some 74, .binOp .add 3 (.tmp 67) (.tmp 73) 3, 3, none⟩, ⟨some 75, .move (.tmp 1), 26, none⟩, ⟨some 76, .move (.tmp 13), 3, none⟩, ⟨some 77, .indexAddr 26 (.tmp 75) (.tmp 76), 0, none⟩, ⟨some 78, .load 39 (.tmp 77), 39, none⟩, ⟨some 79, .call { callee := .value (.func 39), args := #[.tmp 78], argTypes := #[39] }, 23, none⟩, ⟨some 80, .call { callee := .builtin .len, args := #[.tmp 79], argTypes := #[23] }, 3, none⟩] [⟨some 81, .binOp .sub 3 (.tmp 74) (.tmp 80) 3, 3, none⟩, ⟨some 12, .assign (.tmp 81), 3, none⟩]) (.ops [⟨some 82, .move (.tmp 10), 29, none⟩, ⟨some 83, .move (.tmp 16), 3, none⟩, ⟨some 84, .buildSlice 29 1 #[(0, .tmp 83)], 29, none⟩, ⟨some 85, .call { callee := .builtin .append, args := #[.tmp 82, .tmp 84], argTypes := #[29, 29] }, 29, none⟩, ⟨some 10, .assign (.tmp 85), 29, none⟩])))
@[simp] theorem q_s_Patch_c0_run : type_of% (run_is q_s_Patch_c0.eq_1) := run_is q_s_Patch_c0.eq_1
def q_s_Patch_c1 : QCode := .ops [⟨some 41, .move (.tmp 13), 3, none⟩, ⟨some 42, .binOp .add 3 (.tmp 41) (.const (.int .i64 1)) 3, 3, none⟩, ⟨some 13, .assign (.tmp 42), 3, none⟩]
@[simp] theorem q_s_Patch_c1_run : type_of% (run_is q_s_Patch_c1.eq_1) := run_is q_s_Patch_c1.eq_1
def q_s_Patch_c2 : QCode := .seq (.block 1 (.seq (.ops [⟨some 44, .move (.tmp 9), 23, none⟩, ⟨some 45, .move (.tmp 1), 26, none⟩, ⟨some 46, .move (.tmp 13), 3, none⟩, ⟨some 47, .indexAddr 26 (.tmp 45) (.tmp 46), 0, none⟩, ⟨some 48, .load 39 (.tmp 47), 39, none⟩, ⟨some 49, .move (.tmp 11), 3, none⟩, ⟨some 50, .move (.tmp 12), 3, none⟩, ⟨some 51, .move (.tmp 2), 3, none⟩, ⟨some 52, .call { callee := .value (.func 37), args := #[.tmp 44, .tmp 48, .tmp 49, .tmp 50, .tmp 51], argTypes := #[23, 39, 3, 3, 3] }, 59, none⟩, ⟨some 43, .move (.tmp 52), 59, none⟩, ⟨some 53, .extract (.tmp 43) 0, 23, none⟩, ⟨some 54, .extract (.tmp 43) 1, 3, none⟩, ⟨some 55, .extract (.tmp 43) 2, 3, none⟩, ⟨some 56, .extract (.tmp 43) 3, 4, none⟩, ⟨some 14, .assign (.tmp 53), 23, none⟩, ⟨some 15, .assign (.tmp 54), 3, none⟩, ⟨some 16, .assign (.tmp 55), 3, none⟩, ⟨some 17, .assign (.tmp 56), 4, none⟩]) (.seq (.seq (.ops [⟨some 57, .move (.tmp 17), 4, none⟩, ⟨some 58, .unOp .not 4 (.tmp 57), 4, none⟩]) (.cond (.tmp 58) (.seq (.ops [⟨some 59, .buildSlice 23 0 #[], 23, none⟩, ⟨some 60, .move (.tmp 0), 23, none⟩, ⟨some 61, .call { callee := .builtin .append, args := #[.tmp 59, .tmp 60], argTypes := #[23, 23] }, 23, none⟩, ⟨some 62, .buildSlice 29 0 #[], 29, none⟩, ⟨some 6, .assign (.tmp 61), 23, none⟩, ⟨some 7, .assign (.tmp 62), 29, none⟩, ⟨some 8, .assign (.const (.bool false)), 4, none⟩]) (.ret)) (.skip))) (q_s_Patch_c0)))) (q_s_Patch_c1)
@[simp] theorem q_s_Patch_c2_run : type_of% (run_is q_s_Patch_c2.eq_1) := run_is q_s_Patch_c2.eq_1
def q_s_Patch_l0 : QCode := .seq (.seq (.ops [⟨some 37, .move (.tmp 13), 3, none⟩, ⟨some 38, .move (.tmp 1), 26, none⟩, ⟨some 39, .call { callee := .builtin .len, args := #[.tmp 38], argTypes := #[26] }, 3, none⟩, ⟨some 40, .binOp .lss 3 (.tmp 37) (.tmp 39) 3, 4, none⟩]) (.cond (.tmp 40) (.skip) (.exit 0))) (q_s_Patch_c2)
@[simp] theorem q_s_Patch_l0_run : type_of% (run_is q_s_Patch_l0.eq_1) := run_is q_s_Patch_l0.eq_1
def q_s_Patch_c3 : QCode := .seq (.ops [⟨some 93, .move (.tmp 9), 23, none⟩, ⟨some 94, .move (.tmp 10), 29, none⟩, ⟨some 6, .assign (.tmp 93), 23, none⟩, ⟨some 7, .assign (.tmp 94), 29, none⟩, ⟨some 8, .assign (.const (.bool true)), 4, none⟩]) (.ret)
@[simp] theorem q_s_Patch_c3_run : type_of% (run_is q_s_Patch_c3.eq_1) := run_is q_s_Patch_c3.eq_1
def q_s_Patch_c4 : QCode := .seq (.seq (.ops [⟨some 86, .move (.tmp 9), 23, none⟩, ⟨some 87, .call { callee := .value (.func 26), args := #[.tmp 86], argTypes := #[23] }, 4, none⟩, ⟨some 88, .unOp .not 4 (.tmp 87), 4, none⟩]) (.cond (.tmp 88) (.seq (.ops [⟨some 89, .buildSlice 23 0 #[], 23, none⟩, ⟨some 90, .move (.tmp 0), 23, none⟩, ⟨some 91, .call { callee := .builtin .append, args := #[.tmp 89, .tmp 90], argTypes := #[23, 23] }, 23, none⟩, ⟨some 92, .buildSlice 29 0 #[], 29, none⟩, ⟨some 6, .assign (.tmp 91), 23, none⟩, ⟨some 7, .assign (.tmp 92), 29, none⟩, ⟨some 8, .assign (.const (.bool false)), 4, none⟩]) (.ret)) (.skip))) (q_s_Patch_c3)
@[simp] theorem q_s_Patch_c4_run : type_of% (run_is q_s_Patch_c4.eq_1) := run_is q_s_Patch_c4.eq_1
def q_s_Patch_c5 : QCode := .seq (.ops [⟨some 33, .buildSlice 23 0 #[], 23, none⟩, ⟨some 34, .move (.tmp 0), 23, none⟩, ⟨some 35, .call { callee := .builtin .append, args := #[.tmp 33, .tmp 34], argTypes := #[23, 23] }, 23, none⟩, ⟨some 9, .assign (.tmp 35), 23, none⟩]) (.seq (.ops [⟨some 36, .buildSlice 29 0 #[], 29, none⟩, ⟨some 10, .assign (.tmp 36), 29, none⟩]) (.seq (.ops [⟨some 11, .assign (.const (.int .i64 0)), 3, none⟩]) (.seq (.ops [⟨some 12, .assign (.const (.int .i64 0)), 3, none⟩]) (.seq (.seq (.ops [⟨some 13, .assign (.const (.int .i64 0)), 3, none⟩]) (.block 0 (.loop q_s_Patch_l0))) (q_s_Patch_c4)))))
@[simp] theorem q_s_Patch_c5_run : type_of% (run_is q_s_Patch_c5.eq_1) := run_is q_s_Patch_c5.eq_1
@[simp] def q_s_Patch : QFn := ⟨95, [(.tmp 6, 23), (.tmp 7, 29), (.tmp 8, 4)], .seq (.ops [⟨some 6, .assign (.const (.slice none 0 0)), 23, none⟩, ⟨some 7, .assign (.const (.slice none 0 0)), 29, none⟩, ⟨some 8, .assign (.const (.bool false)), 4, none⟩]) (.seq (.seq (.ops [⟨some 18, .move (.tmp 0), 23, none⟩, ⟨some 19, .call { callee := .value (.func 26), args := #[.tmp 18], argTypes := #[23] }, 4, none⟩, ⟨some 20, .unOp .not 4 (.tmp 19), 4, none⟩, ⟨some 21, .move (.tmp 20), 4, none⟩, ⟨some 22, .move (.tmp 1), 26, some (21, false)⟩, ⟨some 23, .call { callee := .value (.func 35), args := #[.tmp 22], argTypes := #[26] }, 4, some (21, false)⟩, ⟨some 24, .unOp .not 4 (.tmp 23), 4, some (21, false)⟩, ⟨some 25, .pick (.tmp 21) (.const (.bool true)) (.tmp 24), 4, none⟩, ⟨some 26, .move (.tmp 25), 4, none⟩, ⟨some 27, .move (.tmp 2), 3, some (26, false)⟩, ⟨some 28, .call { callee := .value (.func 36), args := #[.tmp 27, .const (.int .i64 0), .const (.int .i64 2)], argTypes := #[3, 3, 3] }, 4, some (26, false)⟩, ⟨some 29, .unOp .not 4 (.tmp 28), 4, some (26, false)⟩, ⟨some 30, .pick (.tmp 26) (.const (.bool true)) (.tmp 29), 4, none⟩]) (.cond (.tmp 30) (.seq (.ops [⟨some 31, .buildSlice 23 0 #[], 23, none⟩, ⟨some 32, .buildSlice 29 0 #[], 29, none⟩, ⟨some 6, .assign (.tmp 31), 23, none⟩, ⟨some 7, .assign (.tmp 32), 29, none⟩, ⟨some 8, .assign (.const (.bool false)), 4, none⟩]) (.ret)) (.skip))) (q_s_Patch_c5))⟩
theorem conv_s_Patch : convF Try.f18 = some q_s_Patch := by kernel_rfl
abbrev fn_s_l1Open : FuncId := 19
/-! 20 s_l11Lines -/
abbrev fn_s_l11Lines : FuncId := 20
def q_s_l11Lines_c0 : QCode := .ops [⟨some 10, .move (.tmp 4), 3, none⟩, ⟨some 11, .binOp .sub 3 (.tmp 10) (.const (.int .i64 1)) 3, 3, none⟩, ⟨some 4, .assign (.tmp 11), 3, none⟩]
@[simp] theorem q_s_l11Lines_c0_run : type_of% (run_is q_s_l11Lines_c0.eq_1) := run_is q_s_l11Lines_c0.eq_1
def q_s_l11Lines_c1 : QCode := .seq (.block 1 (.ops [⟨some 12, .move (.tmp 3), 23, none⟩, ⟨some 13, .move (.tmp 0), 41, none⟩, ⟨some 14, .buildSlice 23 7 #[(0, .const (.string { data := #[97] })), (1, .const (.string { data := #[98] })), (2, .const (.string { data := #[99] })), (3, .const (.string { data := #[100] })), (4, .const (.string { data := #[] })), (5, .const (.string { data := #[115, 97, 109, 101] })), (6, .const (.string { data := #[115, 97, 109, 101] }))], 23, none⟩, ⟨some 15, .call { callee := .value (.func 40), args := #[.tmp 13, .tmp 14], argTypes := #[41, 23] }, 9, none⟩, ⟨some 16, .buildSlice 23 1 #[(0, .tmp 15)], 23, none⟩, ⟨some 17, .call { callee := .builtin .append, args := #[.tmp 12, .tmp 16], argTypes := #[23, 23] }, 23, none⟩, ⟨some 3, .assign (.tmp 17), 23, none⟩])) (q_s_l11Lines_c0)
@[simp] theorem q_s_l11Lines_c1_run : type_of% (run_is q_s_l11Lines_c1.eq_1) := run_is q_s_l11Lines_c1.eq_1
def q_s_l11Lines_l0 : QCode := .seq (.seq (.ops [⟨some 8, .move (.tmp 4), 3, none⟩, ⟨some 9, .binOp .gtr 3 (.tmp 8) (.const (.int .i64 0)) 3, 4, none⟩]) (.cond (.tmp 9) (.skip) (.exit 0))) (q_s_l11Lines_c1)
@[simp] theorem q_s_l11Lines_l0_run : type_of% (run_is q_s_l11Lines_l0.eq_1) := run_is q_s_l11Lines_l0.eq_1
def q_s_l11Lines_c2 : QCode := .seq (.ops [⟨some 18, .move (.tmp 3), 23, none⟩, ⟨some 2, .assign (.tmp 18), 23, none⟩]) (.ret)
@[simp] theorem q_s_l11Lines_c2_run : type_of% (run_is q_s_l11Lines_c2.eq_1) := run_is q_s_l11Lines_c2.eq_1
@[simp] def q_s_l11Lines : QFn := ⟨19, [(.tmp 2, 23)], .seq (.ops [⟨some 2, .assign (.const (.slice none 0 0)), 23, none⟩]) (.seq (.ops [⟨some 5, .buildSlice 23 0 #[], 23, none⟩, ⟨some 3, .assign (.tmp 5), 23, none⟩]) (.seq (.seq (.ops [⟨some 6, .move (.tmp 0), 41, none⟩, ⟨some 7, .call { callee := .value (.func 21), args := #[.tmp 6, .const (.int .i64 9)], argTypes := #[41, 3] }, 3, none⟩, ⟨some 4, .assign (.tmp 7), 3, none⟩]) (.block 0 (.loop q_s_l11Lines_l0))) (q_s_l11Lines_c2)))⟩
theorem conv_s_l11Lines : convF Try.f20 = some q_s_l11Lines := by kernel_rfl
/-! 21 s_l1Rd_pick -/
abbrev fn_s_l1Rd_pick : FuncId := 21
def q_s_l1Rd_pick_c0 : QCode := .seq (.draw [⟨some 47, .move (.tmp 0), 41, none⟩, ⟨some 48, .nilCheck (.tmp 47), 0, none⟩, ⟨some 49, .fieldAddr 63 (.tmp 48) 0, 0, none⟩, ⟨some 50, .load 22 (.tmp 49), 22, none⟩, ⟨some 51, .move (.tmp 5), 3, none⟩, ⟨some 52, .move (.tmp 0), 41, none⟩, ⟨some 53, .nilCheck (.tmp 52), 0, none⟩, ⟨some 54, .fieldAddr 63 (.tmp 53) 0, 0, none⟩, ⟨some 55, .load 22 (.tmp 54), 22, none⟩, ⟨some 56, .call { callee := .builtin .len, args := #[.tmp 55], argTypes := #[22] }, 3, none⟩, ⟨some 57, .binOp .rem 3 (.tmp 51) (.tmp 56) 3, 3, none⟩, ⟨some 58, .indexAddr 22 (.tmp 50) (.tmp 57), 0, none⟩, ⟨some 59, .load 5 (.tmp 58), 5, none⟩, ⟨some 60, .convert 5 3 (.tmp 59), 3, none⟩, ⟨some 61, .binOp .mul 3 (.tmp 60) (.const (.int .i64 131)) 3, 3, none⟩, ⟨some 62, .move (.tmp 0), 41, none⟩, ⟨some 63, .nilCheck (.tmp 62), 0, none⟩, ⟨some 64, .fieldAddr 63 (.tmp 63) 0, 0, none⟩, ⟨some 65, .load 22 (.tmp 64), 22, none⟩, ⟨some 66, .move (.tmp 5), 3, none⟩, ⟨some 67, .binOp .mul 3 (.tmp 66) (.const (.int .i64 7)) 3, 3, none⟩, ⟨some 68, .binOp .add 3 (.tmp 67) (.const (.int .i64 3)) 3, 3, none⟩, ⟨some 69, .move (.tmp 0), 41, none⟩, ⟨some 70, .nilCheck (.tmp 69), 0, none⟩, ⟨some 71, .fieldAddr 63 (.tmp 70) 0, 0, none⟩, ⟨some 72, .load 22 (.tmp 71), 22, none⟩, ⟨some 73, .call { callee := .builtin .len, args := #[.tmp 72], argTypes := #[22] }, 3, none⟩, ⟨some 74, .binOp .rem 3 (.tmp 68) (.tmp 73) 3, 3, none⟩, ⟨some 75, .indexAddr 22 (.tmp 65) (.tmp 74), 0, none⟩, ⟨some 76, .load 5 (.tmp 75), 5, none⟩, ⟨some 77, .convert 5 3 (.tmp 76), 3, none⟩, ⟨some 78, .binOp .mul 3 (.tmp 77) (.const (.int .i64 1117)) 3, 3, none⟩, ⟨some 79, .binOp .add 3 (.tmp 61) (.tmp 78) 3, 3, none⟩, ⟨some 80, .move (.tmp 5), 3, none⟩, ⟨some 81, .binOp .mul 3 (.tmp 80) (.const (.int .i64 29)) 3, 3, none⟩, ⟨some 82, .binOp .add 3 (.tmp 79) (.tmp 81) 3, 3, none⟩, ⟨some 83, .move (.tmp 5), 3, none⟩, ⟨some 84, .move (.tmp 0), 41, none⟩, ⟨some 85, .nilCheck (.tmp 84), 0, none⟩, ⟨some 86, .fieldAddr 63 (.tmp 85) 0, 0, none⟩, ⟨some 87, .load 22 (.tmp 86), 22, none⟩, ⟨some 88, .call { callee := .builtin .len, args := #[.tmp 87], argTypes := #[22] }, 3, none⟩, ⟨some 89, .binOp .quo 3 (.tmp 83) (.tmp 88) 3, 3, none⟩, ⟨some 90, .binOp .mul 3 (.tmp 89) (.const (.int .i64 53)) 3, 3, none⟩] [⟨some 91, .binOp .add 3 (.tmp 82) (.tmp 90) 3, 3, none⟩, ⟨some 6, .assign (.tmp 91), 3, none⟩]) (.seq (.ops [⟨some 92, .move (.tmp 6), 3, none⟩, ⟨some 93, .move (.tmp 6), 3, none⟩, ⟨some 94, .binOp .quo 3 (.tmp 93) (.const (.int .i64 64)) 3, 3, none⟩, ⟨some 95, .binOp .xor 3 (.tmp 92) (.tmp 94) 3, 3, none⟩, ⟨some 6, .assign (.tmp 95), 3, none⟩]) (.seq (.ops [⟨some 96, .move (.tmp 6), 3, none⟩, ⟨some 97, .move (.tmp 1), 3, none⟩, ⟨some 98, .binOp .rem 3 (.tmp 96) (.tmp 97) 3, 3, none⟩, ⟨some 4, .assign (.tmp 98), 3, none⟩]) (.ret)))
@[simp] theorem q_s_l1Rd_pick_c0_run : type_of% (run_is q_s_l1Rd_pick_c0.eq_1) := run_is q_s_l1Rd_pick_c0.eq_1
def q_s_l1Rd_pick_c1 : QCode := .seq (.ops [⟨some 25, .move (.tmp 0), 41, none⟩, ⟨some 26, .nilCheck (.tmp 25), 0, none⟩, ⟨some 27, .fieldAddr 63 (.tmp 26) 1, 0, none⟩, ⟨some 28, .load 3 (.tmp 27), 3, none⟩, ⟨some 29, .binOp .sub 3 (.tmp 28) (.const (.int .i64 1)) 3, 3, none⟩, ⟨some 5, .assign (.tmp 29), 3, none⟩]) (.seq (.seq (.ops [⟨some 30, .move (.tmp 5), 3, none⟩, ⟨some 31, .move (.tmp 0), 41, none⟩, ⟨some 32, .nilCheck (.tmp 31), 0, none⟩, ⟨some 33, .fieldAddr 63 (.tmp 32) 0, 0, none⟩, ⟨some 34, .load 22 (.tmp 33), 22, none⟩, ⟨some 35, .call { callee := .builtin .len, args := #[.tmp 34], argTypes := #[22] }, 3, none⟩, ⟨some 36, .binOp .lss 3 (.tmp 30) (.tmp 35) 3, 4, none⟩]) (.cond (.tmp 36) (.seq (.ops [⟨some 37, .move (.tmp 0), 41, none⟩, ⟨some 38, .nilCheck (.tmp 37), 0, none⟩, ⟨some 39, .fieldAddr 63 (.tmp 38) 0, 0, none⟩, ⟨some 40, .load 22 (.tmp 39), 22, none⟩, ⟨some 41, .move (.tmp 5), 3, none⟩, ⟨some 42, .indexAddr 22 (.tmp 40) (.tmp 41), 0, none⟩, ⟨some 43, .load 5 (.tmp 42), 5, none⟩, ⟨some 44, .convert 5 3 (.tmp 43), 3, none⟩, ⟨some 45, .move (.tmp 1), 3, none⟩, ⟨some 46, .binOp .rem 3 (.tmp 44) (.tmp 45) 3, 3, none⟩, ⟨some 4, .assign (.tmp 46), 3, none⟩]) (.ret)) (.skip))) (q_s_l1Rd_pick_c0))
@[simp] theorem q_s_l1Rd_pick_c1_run : type_of% (run_is q_s_l1Rd_pick_c1.eq_1) := run_is q_s_l1Rd_pick_c1.eq_1
@[simp] def q_s_l1Rd_pick : QFn := ⟨99, [(.tmp 4, 3)], .seq (.ops [⟨some 4, .assign (.const (.int .i64 0)), 3, none⟩]) (.seq (.ops [⟨some 7, .move (.tmp 0), 41, none⟩, ⟨some 8, .move (.tmp 0), 41, none⟩, ⟨some 9, .nilCheck (.tmp 8), 0, none⟩, ⟨some 10, .fieldAddr 63 (.tmp 9) 1, 0, none⟩, ⟨some 11, .load 3 (.tmp 10), 3, none⟩, ⟨some 12, .binOp .add 3 (.tmp 11) (.const (.int .i64 1)) 3, 3, none⟩, ⟨some 13, .nilCheck (.tmp 7), 0, none⟩, ⟨some 14, .fieldAddr 63 (.tmp 13) 1, 0, none⟩, ⟨none, .store 3 (.tmp 14) (.tmp 12), 0, none⟩]) (.seq (.seq (.ops [⟨some 15, .move (.tmp 1), 3, none⟩, ⟨some 16, .binOp .lss 3 (.tmp 15) (.const (.int .i64 1)) 3, 4, none⟩, ⟨some 17, .move (.tmp 16), 4, none⟩, ⟨some 18, .move (.tmp 0), 41, some (17, false)⟩, ⟨some 19, .nilCheck (.tmp 18), 0, some (17, false)⟩, ⟨some 20, .fieldAddr 63 (.tmp 19) 0, 0, some (17, false)⟩, ⟨some 21, .load 22 (.tmp 20), 22, some (17, false)⟩, ⟨some 22, .call { callee := .builtin .len, args := #[.tmp 21], argTypes := #[22] }, 3, some (17, false)⟩, ⟨some 23, .binOp .eql 3 (.tmp 22) (.const (.int .i64 0)) 3, 4, some (17, false)⟩, ⟨some 24, .pick (.tmp 17) (.const (.bool true)) (.tmp 23), 4, none⟩]) (.cond (.tmp 24) (.seq (.ops [⟨some 4, .assign (.const (.int .i64 0)), 3, none⟩]) (.ret)) (.skip))) (q_s_l1Rd_pick_c1)))⟩
theorem conv_s_l1Rd_pick : convF Try.f21 = some q_s_l1Rd_pick := by kernel_rfl
/-! 22 s_l11Near -/
abbrev fn_s_l11Near : FuncId := 22
def q_s_l11Near_c0 : QCode := .ops [⟨some 15, .move (.tmp 6), 3, none⟩, ⟨some 16, .binOp .sub 3 (.tmp 15) (.const (.int .i64 1)) 3, 3, none⟩, ⟨some 6, .assign (.tmp 16), 3, none⟩]
@[simp] theorem q_s_l11Near_c0_run : type_of% (run_is q_s_l11Near_c0.eq_1) := run_is q_s_l11Near_c0.eq_1
def q_s_l11Near_c1 : QCode := .seq (.block 1 (.seq (.ops [⟨some 17, .move (.tmp 0), 41, none⟩, ⟨some 18, .move (.tmp 5), 23, none⟩, ⟨some 19, .call { callee := .builtin .len, args := #[.tmp 18], argTypes := #[23] }, 3, none⟩, ⟨some 20, .binOp .add 3 (.tmp 19) (.const (.int .i64 1)) 3, 3, none⟩, ⟨some 21, .call { callee := .value (.func 21), args := #[.tmp 17, .tmp 20], argTypes := #[41, 3] }, 3, none⟩, ⟨some 7, .assign (.tmp 21), 3, none⟩]) (.seq (.ops [⟨some 22, .move (.tmp 0), 41, none⟩, ⟨some 23, .call { callee := .value (.func 21), args := #[.tmp 22, .const (.int .i64 3)], argTypes := #[41, 3] }, 3, none⟩]) (.block 2 (.seq (.ops [⟨some 25, .binOp .eql 3 (.tmp 23) (.const (.int .i64 0)) 3, 4, none⟩, ⟨some 24, .assign (.tmp 25), 4, none⟩]) (.cond (.tmp 24) (.seq (.ice [5]) (.draw [⟨some 27, .move (.tmp 5), 23, none⟩, ⟨some 28, .move (.tmp 7), 3, none⟩, ⟨some 29, .slice 23 (.tmp 27) none (some (.tmp 28)) none, 23, none⟩, ⟨some 31, .move (.tmp 0), 41, none⟩, ⟨some 36, .move (.tmp 5), 23, none⟩, ⟨some 37, .move (.tmp 7), 3, none⟩, ⟨some 38, .slice 23 (.tmp 36) (some (.tmp 37)) none none, 23, none⟩, ⟨some 26, .buildSlice 23 0 #[], 23, none⟩, ⟨some 30, .call { callee := .builtin .append, args := #[.tmp 26, .tmp 29], argTypes := #[23, 23] }, 23, none⟩, ⟨some 32, .buildSlice 23 2 #[(0, .const (.string { data := #[110, 101, 119] })), (1, .const (.string { data := #[97] }))], 23, none⟩] [⟨some 33, .call { callee := .value (.func 40), args := #[.tmp 31, .tmp 32], argTypes := #[41, 23] }, 9, none⟩, ⟨some 34, .buildSlice 23 1 #[(0, .tmp 33)], 23, none⟩, ⟨some 35, .call { callee := .builtin .append, args := #[.tmp 30, .tmp 34], argTypes := #[23, 23] }, 23, none⟩, ⟨some 39, .call { callee := .builtin .append, args := #[.tmp 35, .tmp 38], argTypes := #[23, 23] }, 23, none⟩, ⟨some 5, .assign (.tmp 39), 23, none⟩])) (.seq (.ops [⟨some 41, .binOp .eql 3 (.tmp 23) (.const (.int .i64 1)) 3, 4, none⟩, ⟨some 40, .assign (.tmp 41), 4, none⟩]) (.cond (.tmp 40) (.seq (.ops [⟨some 42, .move (.tmp 7), 3, none⟩, ⟨some 43, .move (.tmp 5), 23, none⟩, ⟨some 44, .call { callee := .builtin .len, args := #[.tmp 43], argTypes := #[23] }, 3, none⟩, ⟨some 45, .binOp .lss 3 (.tmp 42) (.tmp 44) 3, 4, none⟩]) (.cond (.tmp 45) (.seq (.ice [5]) (.draw [⟨some 47, .move (.tmp 5), 23, none⟩, ⟨some 48, .move (.tmp 7), 3, none⟩, ⟨some 49, .slice 23 (.tmp 47) none (some (.tmp 48)) none, 23, none⟩, ⟨some 51, .move (.tmp 5), 23, none⟩, ⟨some 52, .move (.tmp 7), 3, none⟩, ⟨some 46, .buildSlice 23 0 #[], 23, none⟩, ⟨some 50, .call { callee := .builtin .append, args := #[.tmp 46, .tmp 49], argTypes := #[23, 23] }, 23, none⟩, ⟨some 53, .binOp .add 3 (.tmp 52) (.const (.int .i64 1)) 3, 3, none⟩, ⟨some 54, .slice 23 (.tmp 51) (some (.tmp 53)) none none, 23, none⟩] [⟨some 55, .call { callee := .builtin .append, args := #[.tmp 50, .tmp 54], argTypes := #[23, 23] }, 23, none⟩, ⟨some 5, .assign (.tmp 55), 23, none⟩])) (.skip))) (.seq (.ops [⟨some 57, .binOp .eql 3 (.tmp 23) (.const (.int .i64 2)) 3, 4, none⟩, ⟨some 56, .assign (.tmp 57), 4, none⟩]) (.cond (.tmp 56) (.seq (.ops [⟨some 58, .move (.tmp 7), 3, none⟩, ⟨some 59, .move (.tmp 5), 23, none⟩, ⟨some 60, .call { callee := .builtin .len, args := #[.tmp 59], argTypes := #[23] }, 3, none⟩, ⟨some 61, .binOp .lss 3 (.tmp 58) (.tmp 60) 3, 4, none⟩]) (.cond (.tmp 61) (.ops [⟨some 62, .move (.tmp 5), 23, none⟩, ⟨some 63, .move (.tmp 7), 3, none⟩, ⟨some 64, .indexAddr 23 (.tmp 62) (.tmp 63), 0, none⟩, ⟨none, .store 9 (.tmp 64) (.const (.string { data := #[116, 117, 114, 110, 101, 100] })), 0, none⟩]) (.skip))) (.skip))))))))))) (q_s_l11Near_c0)
@[simp] theorem q_s_l11Near_c1_run : type_of% (run_is q_s_l11Near_c1.eq_1) := run_is q_s_l11Near_c1.eq_1
def q_s_l11Near_l0 : QCode := .seq (.seq (.ops [⟨some 13, .move (.tmp 6), 3, none⟩, ⟨some 14, .binOp .gtr 3 (.tmp 13) (.const (.int .i64 0)) 3, 4, none⟩]) (.cond (.tmp 14) (.skip) (.exit 0))) (q_s_l11Near_c1)
@[simp] theorem q_s_l11Near_l0_run : type_of% (run_is q_s_l11Near_l0.eq_1) := run_is q_s_l11Near_l0.eq_1
def q_s_l11Near_c2 : QCode := .seq (.ops [⟨some 65, .move (.tmp 5), 23, none⟩, ⟨some 4, .assign (.tmp 65), 23, none⟩]) (.ret)
@[simp] theorem q_s_l11Near_c2_run : type_of% (run_is q_s_l11Near_c2.eq_1) := run_is q_s_l11Near_c2.eq_1
@[simp] def q_s_l11Near : QFn := ⟨66, [(.tmp 4, 23)], .seq (.ops [⟨some 4, .assign (.const (.slice none 0 0)), 23, none⟩]) (.seq (.ops [⟨some 8, .buildSlice 23 0 #[], 23, none⟩, ⟨some 9, .move (.tmp 1), 23, none⟩, ⟨some 10, .call { callee := .builtin .append, args := #[.tmp 8, .tmp 9], argTypes := #[23, 23] }, 23, none⟩, ⟨some 5, .assign (.tmp 10), 23, none⟩]) (.seq (.seq (.ops [⟨some 11, .move (.tmp 0), 41, none⟩, ⟨some 12, .call { callee := .value (.func 21), args := #[.tmp 11, .const (.int .i64 3)], argTypes := #[41, 3] }, 3, none⟩, ⟨some 6, .assign (.tmp 12), 3, none⟩]) (.block 0 (.loop q_s_l11Near_l0))) (q_s_l11Near_c2)))⟩
theorem conv_s_l11Near : convF Try.f22 = some q_s_l11Near := by kernel_rfl
/-! 23 i_linesOk -/
abbrev fn_i_linesOk : FuncId := 23
@[simp] def q_i_linesOk : QFn := ⟨10, [(.tmp 2, 4)], .seq (.ops [⟨some 2, .assign (.const (.bool false)), 4, none⟩]) (.seq (.ops [⟨some 3, .move (.tmp 0), 23, none⟩, ⟨some 4, .call { callee := .builtin .len, args := #[.tmp 3], argTypes := #[23] }, 3, none⟩, ⟨some 5, .binOp .leq 3 (.tmp 4) (.const (.int .i64 30)) 3, 4, none⟩, ⟨some 6, .move (.tmp 5), 4, none⟩, ⟨some 7, .move (.tmp 0), 23, some (6, true)⟩, ⟨some 8, .call { callee := .value (.func 31), args := #[.tmp 7, .func 41], argTypes := #[23, 55] }, 4, some (6, true)⟩, ⟨some 9, .pick (.tmp 6) (.tmp 8) (.const (.bool false)), 4, none⟩, ⟨some 2, .assign (.tmp 9), 4, none⟩]) (.ret))⟩
theorem conv_i_linesOk : convF Try.f23 = some q_i_linesOk := by kernel_rfl
/-! 24 slices_Equal_L_string_string -/
abbrev fn_slices_Equal_L_string_string : FuncId := 24
def q_slices_Equal_L_string_string_c0 : QCode := .ops [⟨some 25, .binOp .add 3 (.tmp 13) (.const (.int .i64 1)) 3, 3, none⟩, ⟨some 13, .move (.tmp 25), 3, none⟩]
@[simp] theorem q_slices_Equal_L_string_string_c0_run : type_of% (run_is q_slices_Equal_L_string_string_c0.eq_1) := run_is q_slices_Equal_L_string_string_c0.eq_1
def q_slices_Equal_L_string_string_c1 : QCode := .seq (.block 1 (.seq (.ops [⟨some 15, .move (.tmp 13), 3, none⟩, ⟨some 5, .assign (.tmp 15), 3, none⟩]) (.seq (.draw [⟨some 16, .move (.tmp 0), 23, none⟩, ⟨some 17, .move (.tmp 5), 3, none⟩, ⟨some 18, .indexAddr 23 (.tmp 16) (.tmp 17), 0, none⟩, ⟨some 19, .load 9 (.tmp 18), 9, none⟩, ⟨some 20, .move (.tmp 1), 23, none⟩, ⟨some 21, .move (.tmp 5), 3, none⟩, ⟨some 22, .indexAddr 23 (.tmp 20) (.tmp 21), 0, none⟩, ⟨some 23, .load 9 (.tmp 22), 9, none⟩] [⟨some 24, .binOp .neq 9 (.tmp 19) (.tmp 23) 9, 4, none⟩]) (.cond (.tmp 24) (.seq (.ops [⟨some 4, .assign (.const (.bool false)), 4, none⟩]) (.ret)) (.skip))))) (q_slices_Equal_L_string_string_c0)
@[simp] theorem q_slices_Equal_L_string_string_c1_run : type_of% (run_is q_slices_Equal_L_string_string_c1.eq_1) := run_is q_slices_Equal_L_string_string_c1.eq_1
def q_slices_Equal_L_string_string_l0 : QCode := .seq (.ops [⟨some 14, .binOp .lss 3 (.tmp 13) (.tmp 12) 3, 0, none⟩]) (.seq (.cond (.tmp 14) (.skip) (.exit 0)) (q_slices_Equal_L_string_string_c1))
@[simp] theorem q_slices_Equal_L_string_string_l0_run : type_of% (run_is q_slices_Equal_L_string_string_l0.eq_1) := run_is q_slices_Equal_L_string_string_l0.eq_1
def q_slices_Equal_L_string_string_c2 : QCode := .seq (.ops [⟨some 4, .assign (.const (.bool true)), 4, none⟩]) (.ret)
@[simp] theorem q_slices_Equal_L_string_string_c2_run : type_of% (run_is q_slices_Equal_L_string_string_c2.eq_1) := run_is q_slices_Equal_L_string_string_c2.eq_1
def q_slices_Equal_L_string_string_c3 : QCode := .seq (.seq (.ops [⟨some 11, .move (.tmp 0), 23, none⟩, ⟨some 12, .call { callee := .builtin .len, args := #[.tmp 11], argTypes := #[23] }, 3, none⟩, ⟨some 13, .move (.const (.int .i64 0)), 3, none⟩]) (.block 0 (.loop q_slices_Equal_L_string_string_l0))) (q_slices_Equal_L_string_string_c2)
@[simp] theorem q_slices_Equal_L_string_string_c3_run : type_of% (run_is q_slices_Equal_L_string_string_c3.eq_1) := run_is q_slices_Equal_L_string_string_c3.eq_1
@[simp] def q_slices_Equal_L_string_string : QFn := ⟨26, [(.tmp 4, 4)], .seq (.ops [⟨some 4, .assign (.const (.bool false)), 4, none⟩]) (.seq (.seq (.ops [⟨some 6, .move (.tmp 0), 23, none⟩, ⟨some 7, .call { callee := .builtin .len, args := #[.tmp 6], argTypes := #[23] }, 3, none⟩, ⟨some 8, .move (.tmp 1), 23, none⟩, ⟨some 9, .call { callee := .builtin .len, args := #[.tmp 8], argTypes := #[23] }, 3, none⟩, ⟨some 10, .binOp .neq 3 (.tmp 7) (.tmp 9) 3, 4, none⟩]) (.cond (.tmp 10) (.seq (.ops [⟨some 4, .assign (.const (.bool false)), 4, none⟩]) (.ret)) (.skip))) (q_slices_Equal_L_string_string_c3))⟩
theorem conv_slices_Equal_L_string_string : convF Try.f24 = some q_slices_Equal_L_string_string := by kernel_rfl
/-! 25 i_signed -/
abbrev fn_i_signed : FuncId := 25
def q_i_signed_c0 : QCode := .ops [⟨some 20, .binOp .add 3 (.tmp 10) (.const (.int .i64 1)) 3, 3, none⟩, ⟨some 10, .move (.tmp 20), 3, none⟩]
@[simp] theorem q_i_signed_c0_run : type_of% (run_is q_i_signed_c0.eq_1) := run_is q_i_signed_c0.eq_1
def q_i_signed_c1 : QCode := .seq (.block 1 (.seq (.ops [⟨some 12, .indexAddr 23 (.tmp 8) (.tmp 10), 0, none⟩, ⟨some 13, .load 9 (.tmp 12), 9, none⟩, ⟨some 7, .assign (.tmp 13), 9, none⟩]) (.ops [⟨some 14, .move (.tmp 5), 23, none⟩, ⟨some 15, .move (.tmp 0), 9, none⟩, ⟨some 16, .move (.tmp 7), 9, none⟩, ⟨some 17, .binOp .add 9 (.tmp 15) (.tmp 16) 9, 9, none⟩, ⟨some 18, .buildSlice 23 1 #[(0, .tmp 17)], 23, none⟩, ⟨some 19, .call { callee := .builtin .append, args := #[.tmp 14, .tmp 18], argTypes := #[23, 23] }, 23, none⟩, ⟨some 5, .assign (.tmp 19), 23, none⟩]))) (q_i_signed_c0)
@[simp] theorem q_i_signed_c1_run : type_of% (run_is q_i_signed_c1.eq_1) := run_is q_i_signed_c1.eq_1
def q_i_signed_l0 : QCode := .seq (.ops [⟨some 11, .binOp .lss 3 (.tmp 10) (.tmp 9) 3, 0, none⟩]) (.seq (.cond (.tmp 11) (.skip) (.exit 0)) (q_i_signed_c1))
@[simp] theorem q_i_signed_l0_run : type_of% (run_is q_i_signed_l0.eq_1) := run_is q_i_signed_l0.eq_1
def q_i_signed_c2 : QCode := .seq (.ops [⟨some 21, .move (.tmp 5), 23, none⟩, ⟨some 4, .assign (.tmp 21), 23, none⟩]) (.ret)
@[simp] theorem q_i_signed_c2_run : type_of% (run_is q_i_signed_c2.eq_1) := run_is q_i_signed_c2.eq_1
@[simp] def q_i_signed : QFn := ⟨22, [(.tmp 4, 23)], .seq (.ops [⟨some 4, .assign (.const (.slice none 0 0)), 23, none⟩]) (.seq (.ops [⟨some 5, .assign (.const (.slice none 0 0)), 23, none⟩]) (.seq (.seq (.ops [⟨some 8, .move (.tmp 1), 23, none⟩, ⟨some 9, .call { callee := .builtin .len, args := #[.tmp 8], argTypes := #[23] }, 3, none⟩, ⟨some 10, .move (.const (.int .i64 0)), 3, none⟩]) (.block 0 (.loop q_i_signed_l0))) (q_i_signed_c2)))⟩
theorem conv_i_signed : convF Try.f25 = some q_i_signed := by kernel_rfl
/-! 26 s_l5Lines -/
abbrev fn_s_l5Lines : FuncId := 26
def q_s_l5Lines_c0 : QCode := .ops [⟨some 8, .move (.tmp 3), 3, none⟩, ⟨some 9, .binOp .add 3 (.tmp 8) (.const (.int .i64 1)) 3, 3, none⟩, ⟨some 3, .assign (.tmp 9), 3, none⟩]
@[simp] theorem q_s_l5Lines_c0_run : type_of% (run_is q_s_l5Lines_c0.eq_1) := run_is q_s_l5Lines_c0.eq_1
def q_s_l5Lines_c1 : QCode := .seq (.block 1 (.seq (.ops [⟨some 10, .move (.tmp 0), 23, none⟩, ⟨some 11, .move (.tmp 3), 3, none⟩, ⟨some 12, .indexAddr 23 (.tmp 10) (.tmp 11), 0, none⟩, ⟨some 13, .load 9 (.tmp 12), 9, none⟩, ⟨some 14, .call { callee := .value (.func 42), args := #[.tmp 13], argTypes := #[9] }, 4, none⟩, ⟨some 15, .unOp .not 4 (.tmp 14), 4, none⟩]) (.cond (.tmp 15) (.seq (.ops [⟨some 2, .assign (.const (.bool false)), 4, none⟩]) (.ret)) (.skip)))) (q_s_l5Lines_c0)
@[simp] theorem q_s_l5Lines_c1_run : type_of% (run_is q_s_l5Lines_c1.eq_1) := run_is q_s_l5Lines_c1.eq_1
def q_s_l5Lines_l0 : QCode := .seq (.seq (.ops [⟨some 4, .move (.tmp 3), 3, none⟩, ⟨some 5, .move (.tmp 0), 23, none⟩, ⟨some 6, .call { callee := .builtin .len, args := #[.tmp 5], argTypes := #[23] }, 3, none⟩, ⟨some 7, .binOp .lss 3 (.tmp 4) (.tmp 6) 3, 4, none⟩]) (.cond (.tmp 7) (.skip) (.exit 0))) (q_s_l5Lines_c1)
@[simp] theorem q_s_l5Lines_l0_run : type_of% (run_is q_s_l5Lines_l0.eq_1) := run_is q_s_l5Lines_l0.eq_1
def q_s_l5Lines_c2 : QCode := .seq (.ops [⟨some 16, .move (.tmp 0), 23, none⟩, ⟨some 17, .call { callee := .builtin .len, args := #[.tmp 16], argTypes := #[23] }, 3, none⟩, ⟨some 18, .binOp .leq 3 (.tmp 17) (.const (.int .i64 30)) 3, 4, none⟩, ⟨some 2, .assign (.tmp 18), 4, none⟩]) (.ret)
@[simp] theorem q_s_l5Lines_c2_run : type_of% (run_is q_s_l5Lines_c2.eq_1) := run_is q_s_l5Lines_c2.eq_1
@[simp] def q_s_l5Lines : QFn := ⟨19, [(.tmp 2, 4)], .seq (.ops [⟨some 2, .assign (.const (.bool false)), 4, none⟩]) (.seq (.seq (.ops [⟨some 3, .assign (.const (.int .i64 0)), 3, none⟩]) (.block 0 (.loop q_s_l5Lines_l0))) (q_s_l5Lines_c2))⟩
theorem conv_s_l5Lines : convF Try.f26 = some q_s_l5Lines := by kernel_rfl
/-! 27 s_l5Same -/
abbrev fn_s_l5Same : FuncId := 27
def q_s_l5Same_c0 : QCode := .ops [⟨some 23, .move (.tmp 7), 3, none⟩, ⟨some 24, .binOp .add 3 (.tmp 23) (.const (.int .i64 1)) 3, 3, none⟩, ⟨some 7, .assign (.tmp 24), 3, none⟩]
@[simp] theorem q_s_l5Same_c0_run : type_of% (run_is q_s_l5Same_c0.eq_1) := run_is q_s_l5Same_c0.eq_1
def q_s_l5Same_c1 : QCode := .seq (.block 1 (.seq (.draw [⟨some 25, .move (.tmp 0), 23, none⟩, ⟨some 26, .move (.tmp 1), 3, none⟩, ⟨some 27, .move (.tmp 7), 3, none⟩, ⟨some 28, .binOp .add 3 (.tmp 26) (.tmp 27) 3, 3, none⟩, ⟨some 29, .indexAddr 23 (.tmp 25) (.tmp 28), 0, none⟩, ⟨some 30, .load 9 (.tmp 29), 9, none⟩, ⟨some 31, .move (.tmp 2), 23, none⟩, ⟨some 32, .move (.tmp 7), 3, none⟩, ⟨some 33, .indexAddr 23 (.tmp 31) (.tmp 32), 0, none⟩, ⟨some 34, .load 9 (.tmp 33), 9, none⟩] [⟨some 35, .binOp .neq 9 (.tmp 30) (.tmp 34) 9, 4, none⟩]) (.cond (.tmp 35) (.seq (.ops [⟨some 6, .assign (.const (.bool false)), 4, none⟩]) (.ret)) (.skip)))) (q_s_l5Same_c0)
@[simp] theorem q_s_l5Same_c1_run : type_of% (run_is q_s_l5Same_c1.eq_1) := run_is q_s_l5Same_c1.eq_1
def q_s_l5Same_l0 : QCode := .seq (.seq (.ops [⟨some 19, .move (.tmp 7), 3, none⟩, ⟨some 20, .move (.tmp 2), 23, none⟩, ⟨some 21, .call { callee := .builtin .len, args := #[.tmp 20], argTypes := #[23] }, 3, none⟩, ⟨some 22, .binOp .lss 3 (.tmp 19) (.tmp 21) 3, 4, none⟩]) (.cond (.tmp 22) (.skip) (.exit 0))) (q_s_l5Same_c1)
@[simp] theorem q_s_l5Same_l0_run : type_of% (run_is q_s_l5Same_l0.eq_1) := run_is q_s_l5Same_l0.eq_1
def q_s_l5Same_c2 : QCode := .seq (.ops [⟨some 6, .assign (.const (.bool true)), 4, none⟩]) (.ret)
@[simp] theorem q_s_l5Same_c2_run : type_of% (run_is q_s_l5Same_c2.eq_1) := run_is q_s_l5Same_c2.eq_1
def q_s_l5Same_c3 : QCode := .seq (.seq (.ops [⟨some 7, .assign (.const (.int .i64 0)), 3, none⟩]) (.block 0 (.loop q_s_l5Same_l0))) (q_s_l5Same_c2)
@[simp] theorem q_s_l5Same_c3_run : type_of% (run_is q_s_l5Same_c3.eq_1) := run_is q_s_l5Same_c3.eq_1
@[simp] def q_s_l5Same : QFn := ⟨36, [(.tmp 6, 4)], .seq (.ops [⟨some 6, .assign (.const (.bool false)), 4, none⟩]) (.seq (.seq (.ops [⟨some 8, .move (.tmp 1), 3, none⟩, ⟨some 9, .binOp .lss 3 (.tmp 8) (.const (.int .i64 0)) 3, 4, none⟩, ⟨some 10, .move (.tmp 9), 4, none⟩, ⟨some 11, .move (.tmp 1), 3, some (10, false)⟩, ⟨some 12, .move (.tmp 2), 23, some (10, false)⟩, ⟨some 13, .call { callee := .builtin .len, args := #[.tmp 12], argTypes := #[23] }, 3, some (10, false)⟩, ⟨some 14, .binOp .add 3 (.tmp 11) (.tmp 13) 3, 3, some (10, false)⟩, ⟨some 15, .move (.tmp 0), 23, some (10, false)⟩, ⟨some 16, .call { callee := .builtin .len, args := #[.tmp 15], argTypes := #[23] }, 3, some (10, false)⟩, ⟨some 17, .binOp .gtr 3 (.tmp 14) (.tmp 16) 3, 4, some (10, false)⟩, ⟨some 18, .pick (.tmp 10) (.const (.bool true)) (.tmp 17), 4, none⟩]) (.cond (.tmp 18) (.seq (.ops [⟨some 6, .assign (.const (.bool false)), 4, none⟩]) (.ret)) (.skip))) (q_s_l5Same_c3))⟩
theorem conv_s_l5Same : convF Try.f27 = some q_s_l5Same := by kernel_rfl
/-! 28 s_l5Hunk -/
abbrev fn_s_l5Hunk : FuncId := 28
def q_s_l5Hunk_c0 : QCode := .ops [⟨some 10, .move (.tmp 3), 3, none⟩, ⟨some 11, .binOp .add 3 (.tmp 10) (.const (.int .i64 1)) 3, 3, none⟩, ⟨some 3, .assign (.tmp 11), 3, none⟩]
@[simp] theorem q_s_l5Hunk_c0_run : type_of% (run_is q_s_l5Hunk_c0.eq_1) := run_is q_s_l5Hunk_c0.eq_1
def q_s_l5Hunk_c1 : QCode := .seq (.block 1 (.seq (.ops [⟨some 12, .fieldAddr 39 (.tmp 1) 1, 0, none⟩, ⟨some 13, .load 23 (.tmp 12), 23, none⟩, ⟨some 14, .move (.tmp 3), 3, none⟩, ⟨some 15, .indexAddr 23 (.tmp 13) (.tmp 14), 0, none⟩, ⟨some 16, .load 9 (.tmp 15), 9, none⟩, ⟨some 4, .assign (.tmp 16), 9, none⟩]) (.seq (.ops [⟨some 17, .move (.tmp 4), 9, none⟩, ⟨some 18, .binOp .eql 9 (.tmp 17) (.const (.string { data := #[] })) 9, 4, none⟩, ⟨some 19, .move (.tmp 18), 4, none⟩, ⟨some 20, .move (.tmp 4), 9, some (19, false)⟩, ⟨some 21, .index 9 (.tmp 20) (.const (.int .i64 0)), 5, some (19, false)⟩, ⟨some 22, .binOp .neq 5 (.tmp 21) (.const (.int .u8 32)) 5, 4, some (19, false)⟩, ⟨some 23, .move (.tmp 22), 4, some (19, false)⟩, ⟨some 24, .move (.tmp 4), 9, some (23, true)⟩, ⟨some 25, .index 9 (.tmp 24) (.const (.int .i64 0)), 5, some (23, true)⟩, ⟨some 26, .binOp .neq 5 (.tmp 25) (.const (.int .u8 45)) 5, 4, some (23, true)⟩, ⟨some 27, .pick (.tmp 23) (.tmp 26) (.const (.bool false)), 4, some (19, false)⟩, ⟨some 28, .move (.tmp 27), 4, some (19, false)⟩, ⟨some 29, .move (.tmp 4), 9, some (28, true)⟩, ⟨some 30, .index 9 (.tmp 29) (.const (.int .i64 0)), 5, some (28, true)⟩, ⟨some 31, .binOp .neq 5 (.tmp 30) (.const (.int .u8 43)) 5, 4, some (28, true)⟩, ⟨some 32, .pick (.tmp 28) (.tmp 31) (.const (.bool false)), 4, some (19, false)⟩, ⟨some 33, .pick (.tmp 19) (.const (.bool true)) (.tmp 32), 4, none⟩, ⟨some 34, .move (.tmp 33), 4, none⟩, ⟨some 35, .move (.tmp 4), 9, some (34, false)⟩, ⟨some 36, .slice 9 (.tmp 35) (some (.const (.int .i64 1))) none none, 9, some (34, false)⟩, ⟨some 37, .call { callee := .value (.func 42), args := #[.tmp 36], argTypes := #[9] }, 4, some (34, false)⟩, ⟨some 38, .unOp .not 4 (.tmp 37), 4, some (34, false)⟩, ⟨some 39, .pick (.tmp 34) (.const (.bool true)) (.tmp 38), 4, none⟩]) (.cond (.tmp 39) (.seq (.ops [⟨some 2, .assign (.const (.bool false)), 4, none⟩]) (.ret)) (.skip))))) (q_s_l5Hunk_c0)
@[simp] theorem q_s_l5Hunk_c1_run : type_of% (run_is q_s_l5Hunk_c1.eq_1) := run_is q_s_l5Hunk_c1.eq_1
def q_s_l5Hunk_l0 : QCode := .seq (.seq (.ops [⟨some 5, .move (.tmp 3), 3, none⟩, ⟨some 6, .fieldAddr 39 (.tmp 1) 1, 0, none⟩, ⟨some 7, .load 23 (.tmp 6), 23, none⟩, ⟨some 8, .call { callee := .builtin .len, args := #[.tmp 7], argTypes := #[23] }, 3, none⟩, ⟨some 9, .binOp .lss 3 (.tmp 5) (.tmp 8) 3, 4, none⟩]) (.cond (.tmp 9) (.skip) (.exit 0))) (q_s_l5Hunk_c1)
@[simp] theorem q_s_l5Hunk_l0_run : type_of% (run_is q_s_l5Hunk_l0.eq_1) := run_is q_s_l5Hunk_l0.eq_1
def q_s_l5Hunk_c2 : QCode := .seq (.ops [⟨some 40, .fieldAddr 39 (.tmp 1) 1, 0, none⟩, ⟨some 41, .load 23 (.tmp 40), 23, none⟩, ⟨some 42, .call { callee := .builtin .len, args := #[.tmp 41], argTypes := #[23] }, 3, none⟩, ⟨some 43, .call { callee := .value (.func 36), args := #[.tmp 42, .const (.int .i64 1), .const (.int .i64 30)], argTypes := #[3, 3, 3] }, 4, none⟩, ⟨some 44, .move (.tmp 43), 4, none⟩, ⟨some 45, .fieldAddr 39 (.tmp 1) 0, 0, some (44, true)⟩, ⟨some 46, .load 3 (.tmp 45), 3, some (44, true)⟩, ⟨some 47, .call { callee := .value (.func 36), args := #[.tmp 46, .const (.int .i64 1), .const (.int .i64 999)], argTypes := #[3, 3, 3] }, 4, some (44, true)⟩, ⟨some 48, .pick (.tmp 44) (.tmp 47) (.const (.bool false)), 4, none⟩, ⟨some 2, .assign (.tmp 48), 4, none⟩]) (.ret)
@[simp] theorem q_s_l5Hunk_c2_run : type_of% (run_is q_s_l5Hunk_c2.eq_1) := run_is q_s_l5Hunk_c2.eq_1
@[simp] def q_s_l5Hunk : QFn := ⟨49, [(.tmp 2, 4)], .seq (.ops [⟨some 1, .box 39 (.tmp 0), 0, none⟩, ⟨some 2, .assign (.const (.bool false)), 4, none⟩]) (.seq (.seq (.ops [⟨some 3, .assign (.const (.int .i64 0)), 3, none⟩]) (.block 0 (.loop q_s_l5Hunk_l0))) (q_s_l5Hunk_c2))⟩
theorem conv_s_l5Hunk : convF Try.f28 = some q_s_l5Hunk := by kernel_rfl
/-! 29 slices_Clone_L_string_string -/
abbrev fn_slices_Clone_L_string_string : FuncId := 29
def q_slices_Clone_L_string_string_c0 : QCode := .seq (.ops [⟨some 5, .buildSlice 23 0 #[], 23, none⟩, ⟨some 6, .move (.tmp 0), 23, none⟩, ⟨some 7, .call { callee := .builtin .append, args := #[.tmp 5, .tmp 6], argTypes := #[23, 23] }, 23, none⟩, ⟨some 2, .assign (.tmp 7), 23, none⟩]) (.ret)
@[simp] theorem q_slices_Clone_L_string_string_c0_run : type_of% (run_is q_slices_Clone_L_string_string_c0.eq_1) := run_is q_slices_Clone_L_string_string_c0.eq_1
@[simp] def q_slices_Clone_L_string_string : QFn := ⟨8, [(.tmp 2, 23)], .seq (.ops [⟨some 2, .assign (.const (.slice none 0 0)), 23, none⟩]) (.seq (.seq (.ops [⟨some 3, .move (.tmp 0), 23, none⟩, ⟨some 4, .binOp .eql 23 (.tmp 3) (.const (.slice none 0 0)) 23, 4, none⟩]) (.cond (.tmp 4) (.seq (.ops [⟨some 2, .assign (.const (.slice none 0 0)), 23, none⟩]) (.ret)) (.skip))) (q_slices_Clone_L_string_string_c0))⟩
theorem conv_slices_Clone_L_string_string : convF Try.f29 = some q_slices_Clone_L_string_string := by kernel_rfl
/-! 30 i_patcher_apply -/
abbrev fn_i_patcher_apply : FuncId := 30
def q_i_patcher_apply_c0 : QCode := .ops [⟨some 17, .binOp .add 3 (.tmp 10) (.const (.int .i64 1)) 3, 3, none⟩, ⟨some 10, .move (.tmp 17), 3, none⟩]
@[simp] theorem q_i_patcher_apply_c0_run : type_of% (run_is q_i_patcher_apply_c0.eq_1) := run_is q_i_patcher_apply_c0.eq_1
def q_i_patcher_apply_c1 : QCode := .seq (.block 1 (.seq (.ops [⟨some 12, .move (.tmp 10), 3, none⟩, ⟨some 7, .assign (.tmp 12), 3, none⟩]) (.seq (.ops [⟨some 13, .move (.tmp 0), 65, none⟩, ⟨some 14, .load 39 (.tmp 4), 39, none⟩, ⟨some 15, .move (.tmp 7), 3, none⟩, ⟨some 16, .call { callee := .value (.func 43), args := #[.tmp 13, .tmp 14, .tmp 15], argTypes := #[65, 39, 3] }, 4, none⟩]) (.cond (.tmp 16) (.seq (.ops [⟨some 6, .assign (.const (.bool true)), 4, none⟩]) (.ret)) (.skip))))) (q_i_patcher_apply_c0)
@[simp] theorem q_i_patcher_apply_c1_run : type_of% (run_is q_i_patcher_apply_c1.eq_1) := run_is q_i_patcher_apply_c1.eq_1
def q_i_patcher_apply_l0 : QCode := .seq (.ops [⟨some 11, .binOp .lss 3 (.tmp 10) (.tmp 9) 3, 4, none⟩]) (.seq (.cond (.tmp 11) (.skip) (.exit 0)) (q_i_patcher_apply_c1))
@[simp] theorem q_i_patcher_apply_l0_run : type_of% (run_is q_i_patcher_apply_l0.eq_1) := run_is q_i_patcher_apply_l0.eq_1
def q_i_patcher_apply_c2 : QCode := .seq (.ops [⟨some 6, .assign (.const (.bool false)), 4, none⟩]) (.ret)
@[simp] theorem q_i_patcher_apply_c2_run : type_of% (run_is q_i_patcher_apply_c2.eq_1) := run_is q_i_patcher_apply_c2.eq_1
@[simp] def q_i_patcher_apply : QFn := ⟨18, [(.tmp 6, 4)], .seq (.ops [⟨some 4, .box 39 (.tmp 1), 0, none⟩, ⟨some 6, .assign (.const (.bool false)), 4, none⟩]) (.seq (.seq (.ops [⟨some 8, .move (.tmp 2), 3, none⟩, ⟨some 9, .binOp .add 3 (.tmp 8) (.const (.int .i64 1)) 3, 3, none⟩, ⟨some 10, .move (.const (.int .i64 0)), 3, none⟩]) (.block 0 (.loop q_i_patcher_apply_l0))) (q_i_patcher_apply_c2))⟩
theorem conv_i_patcher_apply : convF Try.f30 = some q_i_patcher_apply := by kernel_rfl
/-! 31 i_all_string -/
abbrev fn_i_all_string : FuncId := 31
def q_i_all_string_c0 : QCode := .ops [⟨some 17, .binOp .add 3 (.tmp 9) (.const (.int .i64 1)) 3, 3, none⟩, ⟨some 9, .move (.tmp 17), 3, none⟩]
@[simp] theorem q_i_all_string_c0_run : type_of% (run_is q_i_all_string_c0.eq_1) := run_is q_i_all_string_c0.eq_1
def q_i_all_string_c1 : QCode := .seq (.block 1 (.seq (.ops [⟨some 11, .indexAddr 23 (.tmp 7) (.tmp 9), 0, none⟩, ⟨some 12, .load 9 (.tmp 11), 9, none⟩, ⟨some 6, .assign (.tmp 12), 9, none⟩]) (.seq (.ops [⟨some 13, .move (.tmp 1), 55, none⟩, ⟨some 14, .move (.tmp 6), 9, none⟩, ⟨some 15, .call { callee := .value (.tmp 13), args := #[.tmp 14], argTypes := #[9] }, 4, none⟩, ⟨some 16, .unOp .not 4 (.tmp 15), 4, none⟩]) (.cond (.tmp 16) (.seq (.ops [⟨some 4, .assign (.const (.bool false)), 4, none⟩]) (.ret)) (.skip))))) (q_i_all_string_c0)
@[simp] theorem q_i_all_string_c1_run : type_of% (run_is q_i_all_string_c1.eq_1) := run_is q_i_all_string_c1.eq_1
def q_i_all_string_l0 : QCode := .seq (.ops [⟨some 10, .binOp .lss 3 (.tmp 9) (.tmp 8) 3, 0, none⟩]) (.seq (.cond (.tmp 10) (.skip) (.exit 0)) (q_i_all_string_c1))
@[simp] theorem q_i_all_string_l0_run : type_of% (run_is q_i_all_string_l0.eq_1) := run_is q_i_all_string_l0.eq_1
def q_i_all_string_c2 : QCode := .seq (.ops [⟨some 4, .assign (.const (.bool true)), 4, none⟩]) (.ret)
@[simp] theorem q_i_all_string_c2_run : type_of% (run_is q_i_all_string_c2.eq_1) := run_is q_i_all_string_c2.eq_1
@[simp] def q_i_all_string : QFn := ⟨18, [(.tmp 4, 4)], .seq (.ops [⟨some 4, .assign (.const (.bool false)), 4, none⟩]) (.seq (.seq (.ops [⟨some 7, .move (.tmp 0), 23, none⟩, ⟨some 8, .call { callee := .builtin .len, args := #[.tmp 7], argTypes := #[23] }, 3, none⟩, ⟨some 9, .move (.const (.int .i64 0)), 3, none⟩]) (.block 0 (.loop q_i_all_string_l0))) (q_i_all_string_c2))⟩
theorem conv_i_all_string : convF Try.f31 = some q_i_all_string := by kernel_rfl
/-! 32 i_hunkLineOk -/
abbrev fn_i_hunkLineOk : FuncId := 32
@[simp] def q_i_hunkLineOk : QFn := ⟨25, [(.tmp 2, 4)], .seq (.ops [⟨some 2, .assign (.const (.bool false)), 4, none⟩]) (.seq (.ops [⟨some 3, .move (.tmp 0), 9, none⟩, ⟨some 4, .binOp .neq 9 (.tmp 3) (.const (.string { data := #[] })) 9, 4, none⟩, ⟨some 5, .move (.tmp 4), 4, none⟩, ⟨some 6, .move (.tmp 0), 9, some (5, true)⟩, ⟨some 7, .index 9 (.tmp 6) (.const (.int .i64 0)), 5, some (5, true)⟩, ⟨some 8, .binOp .eql 5 (.tmp 7) (.const (.int .u8 32)) 5, 4, some (5, true)⟩, ⟨some 9, .move (.tmp 8), 4, some (5, true)⟩, ⟨some 10, .move (.tmp 0), 9, some (9, false)⟩, ⟨some 11, .index 9 (.tmp 10) (.const (.int .i64 0)), 5, some (9, false)⟩, ⟨some 12, .binOp .eql 5 (.tmp 11) (.const (.int .u8 45)) 5, 4, some (9, false)⟩, ⟨some 13, .pick (.tmp 9) (.const (.bool true)) (.tmp 12), 4, some (5, true)⟩, ⟨some 14, .move (.tmp 13), 4, some (5, true)⟩, ⟨some 15, .move (.tmp 0), 9, some (14, false)⟩, ⟨some 16, .index 9 (.tmp 15) (.const (.int .i64 0)), 5, some (14, false)⟩, ⟨some 17, .binOp .eql 5 (.tmp 16) (.const (.int .u8 43)) 5, 4, some (14, false)⟩, ⟨some 18, .pick (.tmp 14) (.const (.bool true)) (.tmp 17), 4, some (5, true)⟩, ⟨some 19, .pick (.tmp 5) (.tmp 18) (.const (.bool false)), 4, none⟩, ⟨some 20, .move (.tmp 19), 4, none⟩, ⟨some 21, .move (.tmp 0), 9, some (20, true)⟩, ⟨some 22, .slice 9 (.tmp 21) (some (.const (.int .i64 1))) none none, 9, some (20, true)⟩, ⟨some 23, .call { callee := .value (.func 41), args := #[.tmp 22], argTypes := #[9] }, 4, some (20, true)⟩, ⟨some 24, .pick (.tmp 20) (.tmp 23) (.const (.bool false)), 4, none⟩, ⟨some 2, .assign (.tmp 24), 4, none⟩]) (.ret))⟩
theorem conv_i_hunkLineOk : convF Try.f32 = some q_i_hunkLineOk := by kernel_rfl
/-! 33 i_sides -/
abbrev fn_i_sides : FuncId := 33
def q_i_sides_c0 : QCode := .seq (.ops [⟨some 22, .move (.tmp 7), 9, none⟩, ⟨some 23, .index 9 (.tmp 22) (.const (.int .i64 0)), 5, none⟩, ⟨some 24, .binOp .neq 5 (.tmp 23) (.const (.int .u8 45)) 5, 4, none⟩]) (.cond (.tmp 24) (.ops [⟨some 25, .move (.tmp 5), 23, none⟩, ⟨some 26, .move (.tmp 7), 9, none⟩, ⟨some 27, .slice 9 (.tmp 26) (some (.const (.int .i64 1))) none none, 9, none⟩, ⟨some 28, .buildSlice 23 1 #[(0, .tmp 27)], 23, none⟩, ⟨some 29, .call { callee := .builtin .append, args := #[.tmp 25, .tmp 28], argTypes := #[23, 23] }, 23, none⟩, ⟨some 5, .assign (.tmp 29), 23, none⟩]) (.skip))
@[simp] theorem q_i_sides_c0_run : type_of% (run_is q_i_sides_c0.eq_1) := run_is q_i_sides_c0.eq_1
def q_i_sides_c1 : QCode := .ops [⟨some 30, .binOp .add 3 (.tmp 10) (.const (.int .i64 1)) 3, 3, none⟩, ⟨some 10, .move (.tmp 30), 3, none⟩]
@[simp] theorem q_i_sides_c1_run : type_of% (run_is q_i_sides_c1.eq_1) := run_is q_i_sides_c1.eq_1
def q_i_sides_c2 : QCode := .seq (.block 1 (.seq (.ops [⟨some 12, .indexAddr 23 (.tmp 8) (.tmp 10), 0, none⟩, ⟨some 13, .load 9 (.tmp 12), 9, none⟩, ⟨some 7, .assign (.tmp 13), 9, none⟩]) (.seq (.seq (.ops [⟨some 14, .move (.tmp 7), 9, none⟩, ⟨some 15, .index 9 (.tmp 14) (.const (.int .i64 0)), 5, none⟩, ⟨some 16, .binOp .neq 5 (.tmp 15) (.const (.int .u8 43)) 5, 4, none⟩]) (.cond (.tmp 16) (.ops [⟨some 17, .move (.tmp 4), 23, none⟩, ⟨some 18, .move (.tmp 7), 9, none⟩, ⟨some 19, .slice 9 (.tmp 18) (some (.const (.int .i64 1))) none none, 9, none⟩, ⟨some 20, .buildSlice 23 1 #[(0, .tmp 19)], 23, none⟩, ⟨some 21, .call { callee := .builtin .append, args := #[.tmp 17, .tmp 20], argTypes := #[23, 23] }, 23, none⟩, ⟨some 4, .assign (.tmp 21), 23, none⟩]) (.skip))) (q_i_sides_c0)))) (q_i_sides_c1)
@[simp] theorem q_i_sides_c2_run : type_of% (run_is q_i_sides_c2.eq_1) := run_is q_i_sides_c2.eq_1
def q_i_sides_l0 : QCode := .seq (.ops [⟨some 11, .binOp .lss 3 (.tmp 10) (.tmp 9) 3, 0, none⟩]) (.seq (.cond (.tmp 11) (.skip) (.exit 0)) (q_i_sides_c2))
@[simp] theorem q_i_sides_l0_run : type_of% (run_is q_i_sides_l0.eq_1) := run_is q_i_sides_l0.eq_1
def q_i_sides_c3 : QCode := .seq (.ops [⟨some 31, .move (.tmp 4), 23, none⟩, ⟨some 32, .move (.tmp 5), 23, none⟩, ⟨some 2, .assign (.tmp 31), 23, none⟩, ⟨some 3, .assign (.tmp 32), 23, none⟩]) (.ret)
@[simp] theorem q_i_sides_c3_run : type_of% (run_is q_i_sides_c3.eq_1) := run_is q_i_sides_c3.eq_1
@[simp] def q_i_sides : QFn := ⟨33, [(.tmp 2, 23), (.tmp 3, 23)], .seq (.ops [⟨some 2, .assign (.const (.slice none 0 0)), 23, none⟩, ⟨some 3, .assign (.const (.slice none 0 0)), 23, none⟩]) (.seq (.ops [⟨some 4, .assign (.const (.slice none 0 0)), 23, none⟩, ⟨some 5, .assign (.const (.slice none 0 0)), 23, none⟩]) (.seq (.seq (.ops [⟨some 8, .move (.tmp 0), 23, none⟩, ⟨some 9, .call { callee := .builtin .len, args := #[.tmp 8], argTypes := #[23] }, 3, none⟩, ⟨some 10, .move (.const (.int .i64 0)), 3, none⟩]) (.block 0 (.loop q_i_sides_l0))) (q_i_sides_c3)))⟩
theorem conv_i_sides : convF Try.f33 = some q_i_sides := by kernel_rfl
/-! 35 s_HunksOk -/
abbrev fn_s_HunksOk : FuncId := 35
def q_s_HunksOk_c0 : QCode := .ops [⟨some 8, .move (.tmp 3), 3, none⟩, ⟨some 9, .binOp .add 3 (.tmp 8) (.const (.int .i64 1)) 3, 3, none⟩, ⟨some 3, .assign (.tmp 9), 3, none⟩]
@[simp] theorem q_s_HunksOk_c0_run : type_of% (run_is q_s_HunksOk_c0.eq_1) := run_is q_s_HunksOk_c0.eq_1
def q_s_HunksOk_c1 : QCode := .seq (.block 1 (.seq (.draw [⟨some 10, .move (.tmp 0), 26, none⟩, ⟨some 11, .move (.tmp 3), 3, none⟩, ⟨some 12, .indexAddr 26 (.tmp 10) (.tmp 11), 0, none⟩, ⟨some 13, .load 39 (.tmp 12), 39, none⟩, ⟨some 14, .call { callee := .value (.func 28), args := #[.tmp 13], argTypes := #[39] }, 4, none⟩, ⟨some 15, .unOp .not 4 (.tmp 14), 4, none⟩, ⟨some 16, .move (.tmp 15), 4, none⟩, ⟨some 17, .move (.tmp 3), 3, some (16, false)⟩, ⟨some 18, .binOp .gtr 3 (.tmp 17) (.const (.int .i64 0)) 3, 4, some (16, false)⟩, ⟨some 19, .move (.tmp 18), 4, some (16, false)⟩, ⟨some 20, .move (.tmp 0), 26, some (19, true)⟩, ⟨some 21, .move (.tmp 3), 3, some (19, true)⟩, ⟨some 22, .indexAddr 26 (.tmp 20) (.tmp 21), 0, some (19, true)⟩, ⟨some 23, .fieldAddr 39 (.tmp 22) 0, 0, some (19, true)⟩, ⟨some 24, .load 3 (.tmp 23), 3, some (19, true)⟩, ⟨some 25, .move (.tmp 0), 26, some (19, true)⟩, ⟨some 26, .move (.tmp 3), 3, some (19, true)⟩, ⟨some 27, .binOp .sub 3 (.tmp 26) (.const (.int .i64 1)) 3, 3, some (19, true)⟩, ⟨some 28, .indexAddr 26 (.tmp 25) (.tmp 27), 0, some (19, true)⟩, ⟨some 29, .fieldAddr 39 (.tmp 28) 0, 0, some (19, true)⟩, ⟨some 30, .load 3 (.tmp 29), 3, some (19, true)⟩, ⟨some 31, .move (.tmp 0), 26, some (19, true)⟩, ⟨some 32, .move (.tmp 3), 3, some (19, true)⟩, ⟨some 33, .binOp .sub 3 (.tmp 32) (.const (.int .i64 1)) 3, 3, some (19, true)⟩, ⟨some 34, .indexAddr 26 (.tmp 31) (.tmp 33), 0, some (19, true)⟩, ⟨some 35, .load 39 (.tmp 34), 39, some (19, true)⟩, ⟨some 36, .call { callee := .value (.func 39), args := #[.tmp 35], argTypes := #[39] }, 23, some (19, true)⟩, ⟨some 37, .call { callee := .builtin .len, args := #[.tmp 36], argTypes := #[23] }, 3, some (19, true)⟩, ⟨some 38, .binOp .add 3 (.tmp 30) (.tmp 37) 3, 3, some (19, true)⟩] [⟨some 39, .binOp .lss 3 (.tmp 24) (.tmp 38) 3, 4, some (19, true)⟩, ⟨some 40, .pick (.tmp 19) (.tmp 39) (.const (.bool false)), 4, some (16, false)⟩, ⟨some 41, .pick (.tmp 16) (.const (.bool true)) (.tmp 40), 4, none⟩]) (.cond (.tmp 41) (.seq (.ops [⟨some 2, .assign (.const (.bool false)), 4, none⟩]) (.ret)) (.skip)))) (q_s_HunksOk_c0)
@[simp] theorem q_s_HunksOk_c1_run : type_of% (run_is q_s_HunksOk_c1.eq_1) := run_is q_s_HunksOk_c1.eq_1
def q_s_HunksOk_l0 : QCode := .seq (.seq (.ops [⟨some 4, .move (.tmp 3), 3, none⟩, ⟨some 5, .move (.tmp 0), 26, none⟩, ⟨some 6, .call { callee := .builtin .len, args := #[.tmp 5], argTypes := #[26] }, 3, none⟩, ⟨some 7, .binOp .lss 3 (.tmp 4) (.tmp 6) 3, 4, none⟩]) (.cond (.tmp 7) (.skip) (.exit 0))) (q_s_HunksOk_c1)
@[simp] theorem q_s_HunksOk_l0_run : type_of% (run_is q_s_HunksOk_l0.eq_1) := run_is q_s_HunksOk_l0.eq_1
def q_s_HunksOk_c2 : QCode := .seq (.ops [⟨some 42, .move (.tmp 0), 26, none⟩, ⟨some 43, .call { callee := .builtin .len, args := #[.tmp 42], argTypes := #[26] }, 3, none⟩, ⟨some 44, .binOp .leq 3 (.tmp 43) (.const (.int .i64 4)) 3, 4, none⟩, ⟨some 2, .assign (.tmp 44), 4, none⟩]) (.ret)
@[simp] theorem q_s_HunksOk_c2_run : type_of% (run_is q_s_HunksOk_c2.eq_1) := run_is q_s_HunksOk_c2.eq_1
@[simp] def q_s_HunksOk : QFn := ⟨45, [(.tmp 2, 4)], .seq (.ops [⟨some 2, .assign (.const (.bool false)), 4, none⟩]) (.seq (.seq (.ops [⟨some 3, .assign (.const (.int .i64 0)), 3, none⟩]) (.block 0 (.loop q_s_HunksOk_l0))) (q_s_HunksOk_c2))⟩
theorem conv_s_HunksOk : convF Try.f35 = some q_s_HunksOk := by kernel_rfl
/-! 36 s_l1In -/
abbrev fn_s_l1In : FuncId := 36
@[simp] def q_s_l1In : QFn := ⟨15, [(.tmp 6, 4)], .seq (.ops [⟨some 6, .assign (.const (.bool false)), 4, none⟩]) (.seq (.ops [⟨some 7, .move (.tmp 0), 3, none⟩, ⟨some 8, .move (.tmp 1), 3, none⟩, ⟨some 9, .binOp .geq 3 (.tmp 7) (.tmp 8) 3, 4, none⟩, ⟨some 10, .move (.tmp 9), 4, none⟩, ⟨some 11, .move (.tmp 0), 3, some (10, true)⟩, ⟨some 12, .move (.tmp 2), 3, some (10, true)⟩, ⟨some 13, .binOp .leq 3 (.tmp 11) (.tmp 12) 3, 4, some (10, true)⟩, ⟨some 14, .pick (.tmp 10) (.tmp 13) (.const (.bool false)), 4, none⟩, ⟨some 6, .assign (.tmp 14), 4, none⟩]) (.ret))⟩
theorem conv_s_l1In : convF Try.f36 = some q_s_l1In := by kernel_rfl
/-! 37 s_l5One -/
abbrev fn_s_l5One : FuncId := 37
def q_s_l5One_c0 : QCode := .ops [⟨some 24, .move (.tmp 14), 3, none⟩, ⟨some 25, .binOp .add 3 (.tmp 24) (.const (.int .i64 1)) 3, 3, none⟩, ⟨some 14, .assign (.tmp 25), 3, none⟩]
@[simp] theorem q_s_l5One_c0_run : type_of% (run_is q_s_l5One_c0.eq_1) := run_is q_s_l5One_c0.eq_1
def q_s_l5One_c1 : QCode := .seq (.block 1 (.seq (.ops [⟨some 27, .load 39 (.tmp 6), 39, none⟩, ⟨some 28, .move (.tmp 14), 3, none⟩, ⟨some 29, .call { callee := .value (.func 46), args := #[.tmp 27, .tmp 28], argTypes := #[39, 3] }, 67, none⟩, ⟨some 26, .move (.tmp 29), 67, none⟩, ⟨some 30, .extract (.tmp 26) 0, 39, none⟩, ⟨some 31, .extract (.tmp 26) 1, 3, none⟩, ⟨some 15, .alloc 39, 0, none⟩, ⟨none, .store 39 (.tmp 15) (.tmp 30), 0, none⟩, ⟨some 16, .assign (.tmp 31), 3, none⟩]) (.seq (.ops [⟨some 32, .load 39 (.tmp 15), 39, none⟩, ⟨some 33, .call { callee := .value (.func 39), args := #[.tmp 32], argTypes := #[39] }, 23, none⟩, ⟨some 17, .assign (.tmp 33), 23, none⟩]) (.seq (.ops [⟨some 34, .load 39 (.tmp 15), 39, none⟩, ⟨some 35, .call { callee := .value (.func 38), args := #[.tmp 34], argTypes := #[39] }, 23, none⟩, ⟨some 18, .assign (.tmp 35), 23, none⟩]) (.seq (.ops [⟨some 36, .move (.tmp 0), 23, none⟩, ⟨some 37, .move (.tmp 17), 23, none⟩, ⟨some 38, .fieldAddr 39 (.tmp 15) 0, 0, none⟩, ⟨some 39, .load 3 (.tmp 38), 3, none⟩, ⟨some 40, .binOp .sub 3 (.tmp 39) (.const (.int .i64 1)) 3, 3, none⟩, ⟨some 41, .move (.tmp 3), 3, none⟩, ⟨some 42, .binOp .add 3 (.tmp 40) (.tmp 41) 3, 3, none⟩, ⟨some 43, .move (.tmp 2), 3, none⟩, ⟨some 44, .call { callee := .value (.func 47), args := #[.tmp 36, .tmp 37, .tmp 42, .tmp 43], argTypes := #[23, 23, 3, 3] }, 3, none⟩, ⟨some 19, .assign (.tmp 44), 3, none⟩]) (.seq (.ops [⟨some 45, .move (.tmp 19), 3, none⟩, ⟨some 46, .binOp .geq 3 (.tmp 45) (.const (.int .i64 0)) 3, 4, none⟩]) (.cond (.tmp 46) (.seq (.seq (.ice [0]) (.draw [⟨some 48, .move (.tmp 0), 23, none⟩, ⟨some 49, .move (.tmp 19), 3, none⟩, ⟨some 50, .slice 23 (.tmp 48) none (some (.tmp 49)) none, 23, none⟩, ⟨some 52, .move (.tmp 18), 23, none⟩, ⟨some 54, .move (.tmp 0), 23, none⟩, ⟨some 55, .move (.tmp 19), 3, none⟩, ⟨some 56, .move (.tmp 17), 23, none⟩, ⟨some 47, .buildSlice 23 0 #[], 23, none⟩, ⟨some 51, .call { callee := .builtin .append, args := #[.tmp 47, .tmp 50], argTypes := #[23, 23] }, 23, none⟩, ⟨some 53, .call { callee := .builtin .append, args := #[.tmp 51, .tmp 52], argTypes := #[23, 23] }, 23, none⟩, ⟨some 57, .call { callee := .builtin .len, args := #[.tmp 56], argTypes := #[23] }, 3, none⟩, ⟨some 58, .binOp .add 3 (.tmp 55) (.tmp 57) 3, 3, none⟩, ⟨some 59, .slice 23 (.tmp 54) (some (.tmp 58)) none none, 23, none⟩] [⟨some 60, .call { callee := .builtin .append, args := #[.tmp 53, .tmp 59], argTypes := #[23, 23] }, 23, none⟩, ⟨some 20, .assign (.tmp 60), 23, none⟩])) (.seq (.draw [⟨some 61, .move (.tmp 20), 23, none⟩, ⟨some 62, .move (.tmp 19), 3, none⟩, ⟨some 63, .move (.tmp 18), 23, none⟩, ⟨some 64, .call { callee := .builtin .len, args := #[.tmp 63], argTypes := #[23] }, 3, none⟩, ⟨some 65, .binOp .add 3 (.tmp 62) (.tmp 64) 3, 3, none⟩, ⟨some 66, .move (.tmp 19), 3, none⟩, ⟨some 67, .fieldAddr 39 (.tmp 15) 0, 0, none⟩, ⟨some 68, .load 3 (.tmp 67), 3, none⟩, ⟨some 69, .binOp .sub 3 (.tmp 68) (.const (.int .i64 1)) 3, 3, none⟩, ⟨some 70, .move (.tmp 3), 3, none⟩, ⟨some 71, .binOp .add 3 (.tmp 69) (.tmp 70) 3, 3, none⟩, ⟨some 72, .binOp .sub 3 (.tmp 66) (.tmp 71) 3, 3, none⟩, ⟨some 10, .assign (.tmp 61), 23, none⟩, ⟨some 11, .assign (.tmp 65), 3, none⟩] [⟨some 12, .assign (.tmp 72), 3, none⟩, ⟨some 13, .assign (.const (.bool true)), 4, none⟩]) (.ret))) (.skip)))))))) (q_s_l5One_c0)
@[simp] theorem q_s_l5One_c1_run : type_of% (run_is q_s_l5One_c1.eq_1) := run_is q_s_l5One_c1.eq_1
def q_s_l5One_l0 : QCode := .seq (.seq (.ops [⟨some 21, .move (.tmp 14), 3, none⟩, ⟨some 22, .move (.tmp 4), 3, none⟩, ⟨some 23, .binOp .leq 3 (.tmp 21) (.tmp 22) 3, 4, none⟩]) (.cond (.tmp 23) (.skip) (.exit 0))) (q_s_l5One_c1)
@[simp] theorem q_s_l5One_l0_run : type_of% (run_is q_s_l5One_l0.eq_1) := run_is q_s_l5One_l0.eq_1
def q_s_l5One_c2 : QCode := .seq (.ops [⟨some 73, .move (.tmp 0), 23, none⟩, ⟨some 74, .move (.tmp 2), 3, none⟩, ⟨some 10, .assign (.tmp 73), 23, none⟩, ⟨some 11, .assign (.tmp 74), 3, none⟩, ⟨some 12, .assign (.const (.int .i64 0)), 3, none⟩, ⟨some 13, .assign (.const (.bool false)), 4, none⟩]) (.ret)
@[simp] theorem q_s_l5One_c2_run : type_of% (run_is q_s_l5One_c2.eq_1) := run_is q_s_l5One_c2.eq_1
@[simp] def q_s_l5One : QFn := ⟨75, [(.tmp 10, 23), (.tmp 11, 3), (.tmp 12, 3), (.tmp 13, 4)], .seq (.ops [⟨some 6, .box 39 (.tmp 1), 0, none⟩, ⟨some 10, .assign (.const (.slice none 0 0)), 23, none⟩, ⟨some 11, .assign (.const (.int .i64 0)), 3, none⟩, ⟨some 12, .assign (.const (.int .i64 0)), 3, none⟩, ⟨some 13, .assign (.const (.bool false)), 4, none⟩]) (.seq (.seq (.ops [⟨some 14, .assign (.const (.int .i64 0)), 3, none⟩]) (.block 0 (.loop q_s_l5One_l0))) (q_s_l5One_c2))⟩
theorem conv_s_l5One : convF Try.f37 = some q_s_l5One := by kernel_rfl
/-! 38 s_l5New -/
abbrev fn_s_l5New : FuncId := 38
def q_s_l5New_c0 : QCode := .ops [⟨some 11, .move (.tmp 4), 3, none⟩, ⟨some 12, .binOp .add 3 (.tmp 11) (.const (.int .i64 1)) 3, 3, none⟩, ⟨some 4, .assign (.tmp 12), 3, none⟩]
@[simp] theorem q_s_l5New_c0_run : type_of% (run_is q_s_l5New_c0.eq_1) := run_is q_s_l5New_c0.eq_1
def q_s_l5New_c1 : QCode := .seq (.block 1 (.seq (.ops [⟨some 13, .fieldAddr 39 (.tmp 1) 1, 0, none⟩, ⟨some 14, .load 23 (.tmp 13), 23, none⟩, ⟨some 15, .move (.tmp 4), 3, none⟩, ⟨some 16, .indexAddr 23 (.tmp 14) (.tmp 15), 0, none⟩, ⟨some 17, .load 9 (.tmp 16), 9, none⟩, ⟨some 18, .index 9 (.tmp 17) (.const (.int .i64 0)), 5, none⟩, ⟨some 19, .binOp .neq 5 (.tmp 18) (.const (.int .u8 45)) 5, 4, none⟩]) (.cond (.tmp 19) (.ops [⟨some 20, .move (.tmp 3), 23, none⟩, ⟨some 21, .fieldAddr 39 (.tmp 1) 1, 0, none⟩, ⟨some 22, .load 23 (.tmp 21), 23, none⟩, ⟨some 23, .move (.tmp 4), 3, none⟩, ⟨some 24, .indexAddr 23 (.tmp 22) (.tmp 23), 0, none⟩, ⟨some 25, .load 9 (.tmp 24), 9, none⟩, ⟨some 26, .slice 9 (.tmp 25) (some (.const (.int .i64 1))) none none, 9, none⟩, ⟨some 27, .buildSlice 23 1 #[(0, .tmp 26)], 23, none⟩, ⟨some 28, .call { callee := .builtin .append, args := #[.tmp 20, .tmp 27], argTypes := #[23, 23] }, 23, none⟩, ⟨some 3, .assign (.tmp 28), 23, none⟩]) (.skip)))) (q_s_l5New_c0)
@[simp] theorem q_s_l5New_c1_run : type_of% (run_is q_s_l5New_c1.eq_1) := run_is q_s_l5New_c1.eq_1
def q_s_l5New_l0 : QCode := .seq (.seq (.ops [⟨some 6, .move (.tmp 4), 3, none⟩, ⟨some 7, .fieldAddr 39 (.tmp 1) 1, 0, none⟩, ⟨some 8, .load 23 (.tmp 7), 23, none⟩, ⟨some 9, .call { callee := .builtin .len, args := #[.tmp 8], argTypes := #[23] }, 3, none⟩, ⟨some 10, .binOp .lss 3 (.tmp 6) (.tmp 9) 3, 4, none⟩]) (.cond (.tmp 10) (.skip) (.exit 0))) (q_s_l5New_c1)
@[simp] theorem q_s_l5New_l0_run : type_of% (run_is q_s_l5New_l0.eq_1) := run_is q_s_l5New_l0.eq_1
def q_s_l5New_c2 : QCode := .seq (.ops [⟨some 29, .move (.tmp 3), 23, none⟩, ⟨some 2, .assign (.tmp 29), 23, none⟩]) (.ret)
@[simp] theorem q_s_l5New_c2_run : type_of% (run_is q_s_l5New_c2.eq_1) := run_is q_s_l5New_c2.eq_1
@[simp] def q_s_l5New : QFn := ⟨30, [(.tmp 2, 23)], .seq (.ops [⟨some 1, .box 39 (.tmp 0), 0, none⟩, ⟨some 2, .assign (.const (.slice none 0 0)), 23, none⟩]) (.seq (.ops [⟨some 5, .buildSlice 23 0 #[], 23, none⟩, ⟨some 3, .assign (.tmp 5), 23, none⟩]) (.seq (.seq (.ops [⟨some 4, .assign (.const (.int .i64 0)), 3, none⟩]) (.block 0 (.loop q_s_l5New_l0))) (q_s_l5New_c2)))⟩
theorem conv_s_l5New : convF Try.f38 = some q_s_l5New := by kernel_rfl
/-! 39 s_l5Old -/
abbrev fn_s_l5Old : FuncId := 39
def q_s_l5Old_c0 : QCode := .ops [⟨some 11, .move (.tmp 4), 3, none⟩, ⟨some 12, .binOp .add 3 (.tmp 11) (.const (.int .i64 1)) 3, 3, none⟩, ⟨some 4, .assign (.tmp 12), 3, none⟩]
@[simp] theorem q_s_l5Old_c0_run : type_of% (run_is q_s_l5Old_c0.eq_1) := run_is q_s_l5Old_c0.eq_1
def q_s_l5Old_c1 : QCode := .seq (.block 1 (.seq (.ops [⟨some 13, .fieldAddr 39 (.tmp 1) 1, 0, none⟩, ⟨some 14, .load 23 (.tmp 13), 23, none⟩, ⟨some 15, .move (.tmp 4), 3, none⟩, ⟨some 16, .indexAddr 23 (.tmp 14) (.tmp 15), 0, none⟩, ⟨some 17, .load 9 (.tmp 16), 9, none⟩, ⟨some 18, .index 9 (.tmp 17) (.const (.int .i64 0)), 5, none⟩, ⟨some 19, .binOp .neq 5 (.tmp 18) (.const (.int .u8 43)) 5, 4, none⟩]) (.cond (.tmp 19) (.ops [⟨some 20, .move (.tmp 3), 23, none⟩, ⟨some 21, .fieldAddr 39 (.tmp 1) 1, 0, none⟩, ⟨some 22, .load 23 (.tmp 21), 23, none⟩, ⟨some 23, .move (.tmp 4), 3, none⟩, ⟨some 24, .indexAddr 23 (.tmp 22) (.tmp 23), 0, none⟩, ⟨some 25, .load 9 (.tmp 24), 9, none⟩, ⟨some 26, .slice 9 (.tmp 25) (some (.const (.int .i64 1))) none none, 9, none⟩, ⟨some 27, .buildSlice 23 1 #[(0, .tmp 26)], 23, none⟩, ⟨some 28, .call { callee := .builtin .append, args := #[.tmp 20, .tmp 27], argTypes := #[23, 23] }, 23, none⟩, ⟨some 3, .assign (.tmp 28), 23, none⟩]) (.skip)))) (q_s_l5Old_c0)
@[simp] theorem q_s_l5Old_c1_run : type_of% (run_is q_s_l5Old_c1.eq_1) := run_is q_s_l5Old_c1.eq_1
def q_s_l5Old_l0 : QCode := .seq (.seq (.ops [⟨some 6, .move (.tmp 4), 3, none⟩, ⟨some 7, .fieldAddr 39 (.tmp 1) 1, 0, none⟩, ⟨some 8, .load 23 (.tmp 7), 23, none⟩, ⟨some 9, .call { callee := .builtin .len, args := #[.tmp 8], argTypes := #[23] }, 3, none⟩, ⟨some 10, .binOp .lss 3 (.tmp 6) (.tmp 9) 3, 4, none⟩]) (.cond (.tmp 10) (.skip) (.exit 0))) (q_s_l5Old_c1)
@[simp] theorem q_s_l5Old_l0_run : type_of% (run_is q_s_l5Old_l0.eq_1) := run_is q_s_l5Old_l0.eq_1
def q_s_l5Old_c2 : QCode := .seq (.ops [⟨some 29, .move (.tmp 3), 23, none⟩, ⟨some 2, .assign (.tmp 29), 23, none⟩]) (.ret)
@[simp] theorem q_s_l5Old_c2_run : type_of% (run_is q_s_l5Old_c2.eq_1) := run_is q_s_l5Old_c2.eq_1
@[simp] def q_s_l5Old : QFn := ⟨30, [(.tmp 2, 23)], .seq (.ops [⟨some 1, .box 39 (.tmp 0), 0, none⟩, ⟨some 2, .assign (.const (.slice none 0 0)), 23, none⟩]) (.seq (.ops [⟨some 5, .buildSlice 23 0 #[], 23, none⟩, ⟨some 3, .assign (.tmp 5), 23, none⟩]) (.seq (.seq (.ops [⟨some 4, .assign (.const (.int .i64 0)), 3, none⟩]) (.block 0 (.loop q_s_l5Old_l0))) (q_s_l5Old_c2)))⟩
theorem conv_s_l5Old : convF Try.f39 = some q_s_l5Old := by kernel_rfl
/-! 40 s_l1Rd_of -/
abbrev fn_s_l1Rd_of : FuncId := 40
@[simp] def q_s_l1Rd_of : QFn := ⟨12, [(.tmp 4, 9)], .seq (.ops [⟨some 4, .assign (.const (.string { data := #[] })), 9, none⟩]) (.seq (.ops [⟨some 5, .move (.tmp 1), 23, none⟩, ⟨some 6, .move (.tmp 0), 41, none⟩, ⟨some 7, .move (.tmp 1), 23, none⟩, ⟨some 8, .call { callee := .builtin .len, args := #[.tmp 7], argTypes := #[23] }, 3, none⟩, ⟨some 9, .call { callee := .value (.func 21), args := #[.tmp 6, .tmp 8], argTypes := #[41, 3] }, 3, none⟩, ⟨some 10, .indexAddr 23 (.tmp 5) (.tmp 9), 0, none⟩, ⟨some 11, .load 9 (.tmp 10), 9, none⟩, ⟨some 4, .assign (.tmp 11), 9, none⟩]) (.ret))⟩
theorem conv_s_l1Rd_of : convF Try.f40 = some q_s_l1Rd_of := by kernel_rfl
/-! 41 i_plainText -/
abbrev fn_i_plainText : FuncId := 41
def q_i_plainText_c0 : QCode := .ops [⟨some 17, .binOp .add 3 (.tmp 9) (.const (.int .i64 1)) 3, 3, none⟩, ⟨some 9, .move (.tmp 17), 3, none⟩]
@[simp] theorem q_i_plainText_c0_run : type_of% (run_is q_i_plainText_c0.eq_1) := run_is q_i_plainText_c0.eq_1
def q_i_plainText_c1 : QCode := .seq (.block 1 (.seq (.ops [⟨some 11, .move (.tmp 9), 3, none⟩, ⟨some 3, .assign (.tmp 11), 3, none⟩]) (.seq (.ops [⟨some 12, .move (.tmp 0), 9, none⟩, ⟨some 13, .move (.tmp 3), 3, none⟩, ⟨some 14, .index 9 (.tmp 12) (.tmp 13), 5, none⟩, ⟨some 15, .call { callee := .value (.func 48), args := #[.tmp 14], argTypes := #[5] }, 4, none⟩, ⟨some 16, .unOp .not 4 (.tmp 15), 4, none⟩]) (.cond (.tmp 16) (.seq (.ops [⟨some 2, .assign (.const (.bool false)), 4, none⟩]) (.ret)) (.skip))))) (q_i_plainText_c0)
@[simp] theorem q_i_plainText_c1_run : type_of% (run_is q_i_plainText_c1.eq_1) := run_is q_i_plainText_c1.eq_1
def q_i_plainText_l0 : QCode := .seq (.ops [⟨some 10, .binOp .lss 3 (.tmp 9) (.tmp 8) 3, 4, none⟩]) (.seq (.cond (.tmp 10) (.skip) (.exit 0)) (q_i_plainText_c1))
@[simp] theorem q_i_plainText_l0_run : type_of% (run_is q_i_plainText_l0.eq_1) := run_is q_i_plainText_l0.eq_1
def q_i_plainText_c2 : QCode := .seq (.ops [⟨some 2, .assign (.const (.bool true)), 4, none⟩]) (.ret)
@[simp] theorem q_i_plainText_c2_run : type_of% (run_is q_i_plainText_c2.eq_1) := run_is q_i_plainText_c2.eq_1
def q_i_plainText_c3 : QCode := .seq (.seq (.ops [⟨some 7, .move (.tmp 0), 9, none⟩, ⟨some 8, .call { callee := .builtin .len, args := #[.tmp 7], argTypes := #[9] }, 3, none⟩, ⟨some 9, .move (.const (.int .i64 0)), 3, none⟩]) (.block 0 (.loop q_i_plainText_l0))) (q_i_plainText_c2)
@[simp] theorem q_i_plainText_c3_run : type_of% (run_is q_i_plainText_c3.eq_1) := run_is q_i_plainText_c3.eq_1
@[simp] def q_i_plainText : QFn := ⟨18, [(.tmp 2, 4)], .seq (.ops [⟨some 2, .assign (.const (.bool false)), 4, none⟩]) (.seq (.seq (.ops [⟨some 4, .move (.tmp 0), 9, none⟩, ⟨some 5, .call { callee := .builtin .len, args := #[.tmp 4], argTypes := #[9] }, 3, none⟩, ⟨some 6, .binOp .gtr 3 (.tmp 5) (.const (.int .i64 80)) 3, 4, none⟩]) (.cond (.tmp 6) (.seq (.ops [⟨some 2, .assign (.const (.bool false)), 4, none⟩]) (.ret)) (.skip))) (q_i_plainText_c3))⟩
theorem conv_i_plainText : convF Try.f41 = some q_i_plainText := by kernel_rfl
/-! 42 s_l5Seen -/
abbrev fn_s_l5Seen : FuncId := 42
def q_s_l5Seen_c0 : QCode := .ops [⟨some 8, .move (.tmp 3), 3, none⟩, ⟨some 9, .binOp .add 3 (.tmp 8) (.const (.int .i64 1)) 3, 3, none⟩, ⟨some 3, .assign (.tmp 9), 3, none⟩]
@[simp] theorem q_s_l5Seen_c0_run : type_of% (run_is q_s_l5Seen_c0.eq_1) := run_is q_s_l5Seen_c0.eq_1
def q_s_l5Seen_c1 : QCode := .seq (.block 1 (.seq (.ops [⟨some 10, .move (.tmp 0), 9, none⟩, ⟨some 11, .move (.tmp 3), 3, none⟩, ⟨some 12, .index 9 (.tmp 10) (.tmp 11), 5, none⟩, ⟨some 13, .convert 5 3 (.tmp 12), 3, none⟩, ⟨some 14, .call { callee := .value (.func 36), args := #[.tmp 13, .const (.int .i64 32), .const (.int .i64 126)], argTypes := #[3, 3, 3] }, 4, none⟩, ⟨some 15, .unOp .not 4 (.tmp 14), 4, none⟩]) (.cond (.tmp 15) (.seq (.ops [⟨some 2, .assign (.const (.bool false)), 4, none⟩]) (.ret)) (.skip)))) (q_s_l5Seen_c0)
@[simp] theorem q_s_l5Seen_c1_run : type_of% (run_is q_s_l5Seen_c1.eq_1) := run_is q_s_l5Seen_c1.eq_1
def q_s_l5Seen_l0 : QCode := .seq (.seq (.ops [⟨some 4, .move (.tmp 3), 3, none⟩, ⟨some 5, .move (.tmp 0), 9, none⟩, ⟨some 6, .call { callee := .builtin .len, args := #[.tmp 5], argTypes := #[9] }, 3, none⟩, ⟨some 7, .binOp .lss 3 (.tmp 4) (.tmp 6) 3, 4, none⟩]) (.cond (.tmp 7) (.skip) (.exit 0))) (q_s_l5Seen_c1)
@[simp] theorem q_s_l5Seen_l0_run : type_of% (run_is q_s_l5Seen_l0.eq_1) := run_is q_s_l5Seen_l0.eq_1
def q_s_l5Seen_c2 : QCode := .seq (.ops [⟨some 16, .move (.tmp 0), 9, none⟩, ⟨some 17, .call { callee := .builtin .len, args := #[.tmp 16], argTypes := #[9] }, 3, none⟩, ⟨some 18, .binOp .leq 3 (.tmp 17) (.const (.int .i64 80)) 3, 4, none⟩, ⟨some 2, .assign (.tmp 18), 4, none⟩]) (.ret)
@[simp] theorem q_s_l5Seen_c2_run : type_of% (run_is q_s_l5Seen_c2.eq_1) := run_is q_s_l5Seen_c2.eq_1
@[simp] def q_s_l5Seen : QFn := ⟨19, [(.tmp 2, 4)], .seq (.ops [⟨some 2, .assign (.const (.bool false)), 4, none⟩]) (.seq (.seq (.ops [⟨some 3, .assign (.const (.int .i64 0)), 3, none⟩]) (.block 0 (.loop q_s_l5Seen_l0))) (q_s_l5Seen_c2))⟩
theorem conv_s_l5Seen : convF Try.f42 = some q_s_l5Seen := by kernel_rfl
/-! 43 i_patcher_fit -/
abbrev fn_i_patcher_fit : FuncId := 43
def q_i_patcher_fit_c0 : QCode := .seq (.ops [⟨some 54, .move (.tmp 0), 65, none⟩, ⟨some 55, .move (.tmp 0), 65, none⟩, ⟨some 56, .nilCheck (.tmp 55), 0, none⟩, ⟨some 57, .fieldAddr 52 (.tmp 56) 0, 0, none⟩, ⟨some 58, .load 23 (.tmp 57), 23, none⟩, ⟨some 59, .move (.tmp 12), 3, none⟩, ⟨some 60, .move (.tmp 12), 3, none⟩, ⟨some 61, .move (.tmp 9), 23, none⟩, ⟨some 62, .call { callee := .builtin .len, args := #[.tmp 61], argTypes := #[23] }, 3, none⟩, ⟨some 63, .binOp .add 3 (.tmp 60) (.tmp 62) 3, 3, none⟩, ⟨some 64, .move (.tmp 10), 23, none⟩, ⟨some 65, .call { callee := .value (.func 52), args := #[.tmp 58, .tmp 59, .tmp 63, .tmp 64], argTypes := #[23, 3, 3, 23] }, 23, none⟩, ⟨some 66, .nilCheck (.tmp 54), 0, none⟩, ⟨some 67, .fieldAddr 52 (.tmp 66) 0, 0, none⟩, ⟨none, .store 23 (.tmp 67) (.tmp 65), 0, none⟩]) (.seq (.ops [⟨some 68, .move (.tmp 0), 65, none⟩, ⟨some 69, .move (.tmp 12), 3, none⟩, ⟨some 70, .move (.tmp 10), 23, none⟩, ⟨some 71, .call { callee := .builtin .len, args := #[.tmp 70], argTypes := #[23] }, 3, none⟩, ⟨some 72, .binOp .add 3 (.tmp 69) (.tmp 71) 3, 3, none⟩, ⟨some 73, .nilCheck (.tmp 68), 0, none⟩, ⟨some 74, .fieldAddr 52 (.tmp 73) 1, 0, none⟩, ⟨none, .store 3 (.tmp 74) (.tmp 72), 0, none⟩]) (.seq (.ops [⟨some 75, .move (.tmp 0), 65, none⟩, ⟨some 76, .nilCheck (.tmp 75), 0, none⟩, ⟨some 77, .fieldAddr 52 (.tmp 76) 2, 0, none⟩, ⟨some 78, .load 3 (.tmp 77), 3, none⟩, ⟨some 79, .move (.tmp 12), 3, none⟩, ⟨some 80, .move (.tmp 11), 3, none⟩, ⟨some 81, .binOp .sub 3 (.tmp 79) (.tmp 80) 3, 3, none⟩, ⟨some 82, .move (.tmp 10), 23, none⟩, ⟨some 83, .call { callee := .builtin .len, args := #[.tmp 82], argTypes := #[23] }, 3, none⟩, ⟨some 84, .binOp .add 3 (.tmp 81) (.tmp 83) 3, 3, none⟩, ⟨some 85, .move (.tmp 9), 23, none⟩, ⟨some 86, .call { callee := .builtin .len, args := #[.tmp 85], argTypes := #[23] }, 3, none⟩, ⟨some 87, .binOp .sub 3 (.tmp 84) (.tmp 86) 3, 3, none⟩, ⟨some 88, .binOp .add 3 (.tmp 78) (.tmp 87) 3, 3, none⟩, ⟨some 89, .nilCheck (.tmp 75), 0, none⟩, ⟨some 90, .fieldAddr 52 (.tmp 89) 2, 0, none⟩, ⟨none, .store 3 (.tmp 90) (.tmp 88), 0, none⟩]) (.seq (.ops [⟨some 91, .move (.tmp 0), 65, none⟩, ⟨some 92, .move (.tmp 0), 65, none⟩, ⟨some 93, .nilCheck (.tmp 92), 0, none⟩, ⟨some 94, .fieldAddr 52 (.tmp 93) 3, 0, none⟩, ⟨some 95, .load 29 (.tmp 94), 29, none⟩, ⟨some 96, .move (.tmp 12), 3, none⟩, ⟨some 97, .move (.tmp 11), 3, none⟩, ⟨some 98, .binOp .sub 3 (.tmp 96) (.tmp 97) 3, 3, none⟩, ⟨some 99, .buildSlice 29 1 #[(0, .tmp 98)], 29, none⟩, ⟨some 100, .call { callee := .builtin .append, args := #[.tmp 95, .tmp 99], argTypes := #[29, 29] }, 29, none⟩, ⟨some 101, .nilCheck (.tmp 91), 0, none⟩, ⟨some 102, .fieldAddr 52 (.tmp 101) 3, 0, none⟩, ⟨none, .store 29 (.tmp 102) (.tmp 100), 0, none⟩]) (.seq (.ops [⟨some 6, .assign (.const (.bool true)), 4, none⟩]) (.ret)))))
@[simp] theorem q_i_patcher_fit_c0_run : type_of% (run_is q_i_patcher_fit_c0.eq_1) := run_is q_i_patcher_fit_c0.eq_1
@[simp] def q_i_patcher_fit : QFn := ⟨103, [(.tmp 6, 4)], .seq (.ops [⟨some 4, .box 39 (.tmp 1), 0, none⟩, ⟨some 6, .assign (.const (.bool false)), 4, none⟩]) (.seq (.ops [⟨some 14, .fieldAddr 39 (.tmp 4) 1, 0, none⟩, ⟨some 15, .load 23 (.tmp 14), 23, none⟩, ⟨some 16, .move (.tmp 2), 3, none⟩, ⟨some 17, .call { callee := .value (.func 49), args := #[.tmp 15, .tmp 16], argTypes := #[23, 3] }, 3, none⟩, ⟨some 7, .assign (.tmp 17), 3, none⟩]) (.seq (.ops [⟨some 18, .fieldAddr 39 (.tmp 4) 1, 0, none⟩, ⟨some 19, .load 23 (.tmp 18), 23, none⟩, ⟨some 20, .move (.tmp 7), 3, none⟩, ⟨some 21, .slice 23 (.tmp 19) (some (.tmp 20)) none none, 23, none⟩, ⟨some 8, .assign (.tmp 21), 23, none⟩]) (.seq (.ops [⟨some 22, .move (.tmp 8), 23, none⟩, ⟨some 23, .move (.tmp 8), 23, none⟩, ⟨some 24, .call { callee := .builtin .len, args := #[.tmp 23], argTypes := #[23] }, 3, none⟩, ⟨some 25, .move (.tmp 8), 23, none⟩, ⟨some 26, .move (.tmp 2), 3, none⟩, ⟨some 27, .call { callee := .value (.func 50), args := #[.tmp 25, .tmp 26], argTypes := #[23, 3] }, 3, none⟩, ⟨some 28, .binOp .sub 3 (.tmp 24) (.tmp 27) 3, 3, none⟩, ⟨some 29, .slice 23 (.tmp 22) none (some (.tmp 28)) none, 23, none⟩, ⟨some 8, .assign (.tmp 29), 23, none⟩]) (.seq (.ops [⟨some 31, .move (.tmp 8), 23, none⟩, ⟨some 32, .call { callee := .value (.func 33), args := #[.tmp 31], argTypes := #[23] }, 24, none⟩, ⟨some 30, .move (.tmp 32), 24, none⟩, ⟨some 33, .extract (.tmp 30) 0, 23, none⟩, ⟨some 34, .extract (.tmp 30) 1, 23, none⟩, ⟨some 9, .assign (.tmp 33), 23, none⟩, ⟨some 10, .assign (.tmp 34), 23, none⟩]) (.seq (.draw [⟨some 35, .fieldAddr 39 (.tmp 4) 0, 0, none⟩, ⟨some 36, .load 3 (.tmp 35), 3, none⟩, ⟨some 37, .binOp .sub 3 (.tmp 36) (.const (.int .i64 1)) 3, 3, none⟩, ⟨some 38, .move (.tmp 7), 3, none⟩, ⟨some 39, .binOp .add 3 (.tmp 37) (.tmp 38) 3, 3, none⟩, ⟨some 40, .move (.tmp 0), 65, none⟩, ⟨some 41, .nilCheck (.tmp 40), 0, none⟩, ⟨some 42, .fieldAddr 52 (.tmp 41) 2, 0, none⟩, ⟨some 43, .load 3 (.tmp 42), 3, none⟩] [⟨some 44, .binOp .add 3 (.tmp 39) (.tmp 43) 3, 3, none⟩, ⟨some 11, .assign (.tmp 44), 3, none⟩]) (.seq (.ops [⟨some 46, .move (.tmp 0), 65, none⟩, ⟨some 47, .move (.tmp 9), 23, none⟩, ⟨some 48, .move (.tmp 11), 3, none⟩, ⟨some 49, .call { callee := .value (.func 51), args := #[.tmp 46, .tmp 47, .tmp 48], argTypes := #[65, 23, 3] }, 72, none⟩, ⟨some 45, .move (.tmp 49), 72, none⟩, ⟨some 50, .extract (.tmp 45) 0, 3, none⟩, ⟨some 51, .extract (.tmp 45) 1, 4, none⟩, ⟨some 12, .assign (.tmp 50), 3, none⟩, ⟨some 13, .assign (.tmp 51), 4, none⟩]) (.seq (.seq (.ops [⟨some 52, .move (.tmp 13), 4, none⟩, ⟨some 53, .unOp .not 4 (.tmp 52), 4, none⟩]) (.cond (.tmp 53) (.seq (.ops [⟨some 6, .assign (.const (.bool false)), 4, none⟩]) (.ret)) (.skip))) (q_i_patcher_fit_c0))))))))⟩
theorem conv_i_patcher_fit : convF Try.f43 = some q_i_patcher_fit := by kernel_rfl
/-! 46 s_l5Trim -/
abbrev fn_s_l5Trim : FuncId := 46
def q_s_l5Trim_c0 : QCode := .block 1 (.seq (.ops [⟨some 26, .move (.tmp 6), 23, none⟩, ⟨some 27, .slice 23 (.tmp 26) (some (.const (.int .i64 1))) none none, 23, none⟩, ⟨some 6, .assign (.tmp 27), 23, none⟩]) (.ops [⟨some 28, .move (.tmp 7), 3, none⟩, ⟨some 29, .binOp .add 3 (.tmp 28) (.const (.int .i64 1)) 3, 3, none⟩, ⟨some 7, .assign (.tmp 29), 3, none⟩]))
@[simp] theorem q_s_l5Trim_c0_run : type_of% (run_is q_s_l5Trim_c0.eq_1) := run_is q_s_l5Trim_c0.eq_1
def q_s_l5Trim_l0 : QCode := .seq (.seq (.ops [⟨some 11, .move (.tmp 7), 3, none⟩, ⟨some 12, .move (.tmp 1), 3, none⟩, ⟨some 13, .binOp .lss 3 (.tmp 11) (.tmp 12) 3, 4, none⟩, ⟨some 14, .move (.tmp 13), 4, none⟩, ⟨some 15, .move (.tmp 6), 23, some (14, true)⟩, ⟨some 16, .call { callee := .builtin .len, args := #[.tmp 15], argTypes := #[23] }, 3, some (14, true)⟩, ⟨some 17, .binOp .gtr 3 (.tmp 16) (.const (.int .i64 0)) 3, 4, some (14, true)⟩, ⟨some 18, .pick (.tmp 14) (.tmp 17) (.const (.bool false)), 4, none⟩, ⟨some 19, .move (.tmp 18), 4, none⟩, ⟨some 20, .move (.tmp 6), 23, some (19, true)⟩, ⟨some 21, .indexAddr 23 (.tmp 20) (.const (.int .i64 0)), 0, some (19, true)⟩, ⟨some 22, .load 9 (.tmp 21), 9, some (19, true)⟩, ⟨some 23, .index 9 (.tmp 22) (.const (.int .i64 0)), 5, some (19, true)⟩, ⟨some 24, .binOp .eql 5 (.tmp 23) (.const (.int .u8 32)) 5, 4, some (19, true)⟩, ⟨some 25, .pick (.tmp 19) (.tmp 24) (.const (.bool false)), 4, none⟩]) (.cond (.tmp 25) (.skip) (.exit 0))) (q_s_l5Trim_c0)
@[simp] theorem q_s_l5Trim_l0_run : type_of% (run_is q_s_l5Trim_l0.eq_1) := run_is q_s_l5Trim_l0.eq_1
def q_s_l5Trim_c1 : QCode := .ops [⟨some 48, .move (.tmp 8), 3, none⟩, ⟨some 49, .binOp .add 3 (.tmp 48) (.const (.int .i64 1)) 3, 3, none⟩, ⟨some 8, .assign (.tmp 49), 3, none⟩]
@[simp] theorem q_s_l5Trim_c1_run : type_of% (run_is q_s_l5Trim_c1.eq_1) := run_is q_s_l5Trim_c1.eq_1
def q_s_l5Trim_c2 : QCode := .seq (.block 3 (.ops [⟨some 50, .move (.tmp 6), 23, none⟩, ⟨some 51, .move (.tmp 6), 23, none⟩, ⟨some 52, .call { callee := .builtin .len, args := #[.tmp 51], argTypes := #[23] }, 3, none⟩, ⟨some 53, .binOp .sub 3 (.tmp 52) (.const (.int .i64 1)) 3, 3, none⟩, ⟨some 54, .slice 23 (.tmp 50) none (some (.tmp 53)) none, 23, none⟩, ⟨some 6, .assign (.tmp 54), 23, none⟩])) (q_s_l5Trim_c1)
@[simp] theorem q_s_l5Trim_c2_run : type_of% (run_is q_s_l5Trim_c2.eq_1) := run_is q_s_l5Trim_c2.eq_1
def q_s_l5Trim_l1 : QCode := .seq (.seq (.ops [⟨some 30, .move (.tmp 8), 3, none⟩, ⟨some 31, .move (.tmp 1), 3, none⟩, ⟨some 32, .binOp .lss 3 (.tmp 30) (.tmp 31) 3, 4, none⟩, ⟨some 33, .move (.tmp 32), 4, none⟩, ⟨some 34, .move (.tmp 6), 23, some (33, true)⟩, ⟨some 35, .call { callee := .builtin .len, args := #[.tmp 34], argTypes := #[23] }, 3, some (33, true)⟩, ⟨some 36, .binOp .gtr 3 (.tmp 35) (.const (.int .i64 0)) 3, 4, some (33, true)⟩, ⟨some 37, .pick (.tmp 33) (.tmp 36) (.const (.bool false)), 4, none⟩, ⟨some 38, .move (.tmp 37), 4, none⟩, ⟨some 39, .move (.tmp 6), 23, some (38, true)⟩, ⟨some 40, .move (.tmp 6), 23, some (38, true)⟩, ⟨some 41, .call { callee := .builtin .len, args := #[.tmp 40], argTypes := #[23] }, 3, some (38, true)⟩, ⟨some 42, .binOp .sub 3 (.tmp 41) (.const (.int .i64 1)) 3, 3, some (38, true)⟩, ⟨some 43, .indexAddr 23 (.tmp 39) (.tmp 42), 0, some (38, true)⟩, ⟨some 44, .load 9 (.tmp 43), 9, some (38, true)⟩, ⟨some 45, .index 9 (.tmp 44) (.const (.int .i64 0)), 5, some (38, true)⟩, ⟨some 46, .binOp .eql 5 (.tmp 45) (.const (.int .u8 32)) 5, 4, some (38, true)⟩, ⟨some 47, .pick (.tmp 38) (.tmp 46) (.const (.bool false)), 4, none⟩]) (.cond (.tmp 47) (.skip) (.exit 2))) (q_s_l5Trim_c2)
@[simp] theorem q_s_l5Trim_l1_run : type_of% (run_is q_s_l5Trim_l1.eq_1) := run_is q_s_l5Trim_l1.eq_1
def q_s_l5Trim_c3 : QCode := .seq (.ops [⟨some 55, .fieldAddr 39 (.tmp 2) 0, 0, none⟩, ⟨some 56, .load 3 (.tmp 55), 3, none⟩, ⟨some 57, .move (.tmp 7), 3, none⟩, ⟨some 58, .binOp .add 3 (.tmp 56) (.tmp 57) 3, 3, none⟩, ⟨some 59, .move (.tmp 6), 23, none⟩, ⟨some 60, .build 39 #[(0, .tmp 58), (1, .tmp 59)], 39, none⟩, ⟨some 61, .move (.tmp 7), 3, none⟩, ⟨none, .store 39 (.tmp 4) (.tmp 60), 0, none⟩, ⟨some 5, .assign (.tmp 61), 3, none⟩]) (.ret)
@[simp] theorem q_s_l5Trim_c3_run : type_of% (run_is q_s_l5Trim_c3.eq_1) := run_is q_s_l5Trim_c3.eq_1
def q_s_l5Trim_c4 : QCode := .seq (.seq (.ops [⟨some 8, .assign (.const (.int .i64 0)), 3, none⟩]) (.block 2 (.loop q_s_l5Trim_l1))) (q_s_l5Trim_c3)
@[simp] theorem q_s_l5Trim_c4_run : type_of% (run_is q_s_l5Trim_c4.eq_1) := run_is q_s_l5Trim_c4.eq_1
@[simp] def q_s_l5Trim : QFn := ⟨62, [(.cell 4 39, 39), (.tmp 5, 3)], .seq (.ops [⟨some 2, .box 39 (.tmp 0), 0, none⟩, ⟨some 4, .alloc 39, 0, none⟩, ⟨some 5, .assign (.const (.int .i64 0)), 3, none⟩]) (.seq (.ops [⟨some 9, .fieldAddr 39 (.tmp 2) 1, 0, none⟩, ⟨some 10, .load 23 (.tmp 9), 23, none⟩, ⟨some 6, .assign (.tmp 10), 23, none⟩]) (.seq (.ops [⟨some 7, .assign (.const (.int .i64 0)), 3, none⟩]) (.seq (.block 0 (.loop q_s_l5Trim_l0)) (q_s_l5Trim_c4))))⟩
theorem conv_s_l5Trim : convF Try.f46 = some q_s_l5Trim := by kernel_rfl
/-! 47 s_l5Find -/
abbrev fn_s_l5Find : FuncId := 47
def q_s_l5Find_c0 : QCode := .seq (.ops [⟨some 30, .move (.tmp 2), 3, none⟩, ⟨some 31, .move (.tmp 9), 3, none⟩, ⟨some 32, .binOp .add 3 (.tmp 30) (.tmp 31) 3, 3, none⟩, ⟨some 33, .move (.tmp 3), 3, none⟩, ⟨some 34, .binOp .geq 3 (.tmp 32) (.tmp 33) 3, 4, none⟩, ⟨some 35, .move (.tmp 34), 4, none⟩, ⟨some 36, .move (.tmp 0), 23, some (35, true)⟩, ⟨some 37, .move (.tmp 2), 3, some (35, true)⟩, ⟨some 38, .move (.tmp 9), 3, some (35, true)⟩, ⟨some 39, .binOp .add 3 (.tmp 37) (.tmp 38) 3, 3, some (35, true)⟩, ⟨some 40, .move (.tmp 1), 23, some (35, true)⟩, ⟨some 41, .call { callee := .value (.func 27), args := #[.tmp 36, .tmp 39, .tmp 40], argTypes := #[23, 3, 23] }, 4, some (35, true)⟩, ⟨some 42, .pick (.tmp 35) (.tmp 41) (.const (.bool false)), 4, none⟩]) (.cond (.tmp 42) (.seq (.ops [⟨some 43, .move (.tmp 2), 3, none⟩, ⟨some 44, .move (.tmp 9), 3, none⟩, ⟨some 45, .binOp .add 3 (.tmp 43) (.tmp 44) 3, 3, none⟩, ⟨some 8, .assign (.tmp 45), 3, none⟩]) (.ret)) (.skip))
@[simp] theorem q_s_l5Find_c0_run : type_of% (run_is q_s_l5Find_c0.eq_1) := run_is q_s_l5Find_c0.eq_1
def q_s_l5Find_c1 : QCode := .ops [⟨some 12, .move (.tmp 9), 3, none⟩, ⟨some 13, .binOp .add 3 (.tmp 12) (.const (.int .i64 1)) 3, 3, none⟩, ⟨some 9, .assign (.tmp 13), 3, none⟩]
@[simp] theorem q_s_l5Find_c1_run : type_of% (run_is q_s_l5Find_c1.eq_1) := run_is q_s_l5Find_c1.eq_1
def q_s_l5Find_c2 : QCode := .seq (.block 1 (.seq (.seq (.ops [⟨some 14, .move (.tmp 2), 3, none⟩, ⟨some 15, .move (.tmp 9), 3, none⟩, ⟨some 16, .binOp .sub 3 (.tmp 14) (.tmp 15) 3, 3, none⟩, ⟨some 17, .move (.tmp 3), 3, none⟩, ⟨some 18, .binOp .geq 3 (.tmp 16) (.tmp 17) 3, 4, none⟩, ⟨some 19, .move (.tmp 18), 4, none⟩, ⟨some 20, .move (.tmp 0), 23, some (19, true)⟩, ⟨some 21, .move (.tmp 2), 3, some (19, true)⟩, ⟨some 22, .move (.tmp 9), 3, some (19, true)⟩, ⟨some 23, .binOp .sub 3 (.tmp 21) (.tmp 22) 3, 3, some (19, true)⟩, ⟨some 24, .move (.tmp 1), 23, some (19, true)⟩, ⟨some 25, .call { callee := .value (.func 27), args := #[.tmp 20, .tmp 23, .tmp 24], argTypes := #[23, 3, 23] }, 4, some (19, true)⟩, ⟨some 26, .pick (.tmp 19) (.tmp 25) (.const (.bool false)), 4, none⟩]) (.cond (.tmp 26) (.seq (.ops [⟨some 27, .move (.tmp 2), 3, none⟩, ⟨some 28, .move (.tmp 9), 3, none⟩, ⟨some 29, .binOp .sub 3 (.tmp 27) (.tmp 28) 3, 3, none⟩, ⟨some 8, .assign (.tmp 29), 3, none⟩]) (.ret)) (.skip))) (q_s_l5Find_c0))) (q_s_l5Find_c1)
@[simp] theorem q_s_l5Find_c2_run : type_of% (run_is q_s_l5Find_c2.eq_1) := run_is q_s_l5Find_c2.eq_1
def q_s_l5Find_l0 : QCode := .seq (.seq (.ops [⟨some 10, .move (.tmp 9), 3, none⟩, ⟨some 11, .binOp .leq 3 (.tmp 10) (.const (.int .i64 8)) 3, 4, none⟩]) (.cond (.tmp 11) (.skip) (.exit 0))) (q_s_l5Find_c2)
@[simp] theorem q_s_l5Find_l0_run : type_of% (run_is q_s_l5Find_l0.eq_1) := run_is q_s_l5Find_l0.eq_1
def q_s_l5Find_c3 : QCode := .seq (.ops [⟨some 8, .assign (.const (.int .i64 (-1))), 3, none⟩]) (.ret)
@[simp] theorem q_s_l5Find_c3_run : type_of% (run_is q_s_l5Find_c3.eq_1) := run_is q_s_l5Find_c3.eq_1
@[simp] def q_s_l5Find : QFn := ⟨46, [(.tmp 8, 3)], .seq (.ops [⟨some 8, .assign (.const (.int .i64 0)), 3, none⟩]) (.seq (.seq (.ops [⟨some 9, .assign (.const (.int .i64 0)), 3, none⟩]) (.block 0 (.loop q_s_l5Find_l0))) (q_s_l5Find_c3))⟩
theorem conv_s_l5Find : convF Try.f47 = some q_s_l5Find := by kernel_rfl
/-! 48 i_plainByte -/
abbrev fn_i_plainByte : FuncId := 48
@[simp] def q_i_plainByte : QFn := ⟨9, [(.tmp 2, 4)], .seq (.ops [⟨some 2, .assign (.const (.bool false)), 4, none⟩]) (.seq (.ops [⟨some 3, .move (.tmp 0), 5, none⟩, ⟨some 4, .binOp .geq 5 (.tmp 3) (.const (.int .u8 32)) 5, 4, none⟩, ⟨some 5, .move (.tmp 4), 4, none⟩, ⟨some 6, .move (.tmp 0), 5, some (5, true)⟩, ⟨some 7, .binOp .leq 5 (.tmp 6) (.const (.int .u8 126)) 5, 4, some (5, true)⟩, ⟨some 8, .pick (.tmp 5) (.tmp 7) (.const (.bool false)), 4, none⟩, ⟨some 2, .assign (.tmp 8), 4, none⟩]) (.ret))⟩
theorem conv_i_plainByte : convF Try.f48 = some q_i_plainByte := by kernel_rfl
/-! 49 i_context -/
abbrev fn_i_context : FuncId := 49
def q_i_context_c0 : QCode := .block 1 (.ops [⟨some 20, .move (.tmp 5), 3, none⟩, ⟨some 21, .binOp .add 3 (.tmp 20) (.const (.int .i64 1)) 3, 3, none⟩, ⟨some 5, .assign (.tmp 21), 3, none⟩])
@[simp] theorem q_i_context_c0_run : type_of% (run_is q_i_context_c0.eq_1) := run_is q_i_context_c0.eq_1
def q_i_context_l0 : QCode := .seq (.seq (.ops [⟨some 6, .move (.tmp 5), 3, none⟩, ⟨some 7, .move (.tmp 1), 3, none⟩, ⟨some 8, .move (.tmp 0), 23, none⟩, ⟨some 9, .call { callee := .builtin .len, args := #[.tmp 8], argTypes := #[23] }, 3, none⟩, ⟨some 10, .call { callee := .builtin .min, args := #[.tmp 7, .tmp 9], argTypes := #[3, 3] }, 3, none⟩, ⟨some 11, .binOp .lss 3 (.tmp 6) (.tmp 10) 3, 4, none⟩, ⟨some 12, .move (.tmp 11), 4, none⟩, ⟨some 13, .move (.tmp 0), 23, some (12, true)⟩, ⟨some 14, .move (.tmp 5), 3, some (12, true)⟩, ⟨some 15, .indexAddr 23 (.tmp 13) (.tmp 14), 0, some (12, true)⟩, ⟨some 16, .load 9 (.tmp 15), 9, some (12, true)⟩, ⟨some 17, .index 9 (.tmp 16) (.const (.int .i64 0)), 5, some (12, true)⟩, ⟨some 18, .binOp .eql 5 (.tmp 17) (.const (.int .u8 32)) 5, 4, some (12, true)⟩, ⟨some 19, .pick (.tmp 12) (.tmp 18) (.const (.bool false)), 4, none⟩]) (.cond (.tmp 19) (.skip) (.exit 0))) (q_i_context_c0)
@[simp] theorem q_i_context_l0_run : type_of% (run_is q_i_context_l0.eq_1) := run_is q_i_context_l0.eq_1
def q_i_context_c1 : QCode := .seq (.ops [⟨some 22, .move (.tmp 5), 3, none⟩, ⟨some 4, .assign (.tmp 22), 3, none⟩]) (.ret)
@[simp] theorem q_i_context_c1_run : type_of% (run_is q_i_context_c1.eq_1) := run_is q_i_context_c1.eq_1
@[simp] def q_i_context : QFn := ⟨23, [(.tmp 4, 3)], .seq (.ops [⟨some 4, .assign (.const (.int .i64 0)), 3, none⟩]) (.seq (.ops [⟨some 5, .assign (.const (.int .i64 0)), 3, none⟩]) (.seq (.block 0 (.loop q_i_context_l0)) (q_i_context_c1)))⟩
theorem conv_i_context : convF Try.f49 = some q_i_context := by kernel_rfl
/-! 50 i_contextBehind -/
abbrev fn_i_contextBehind : FuncId := 50
def q_i_contextBehind_c0 : QCode := .block 1 (.ops [⟨some 24, .move (.tmp 5), 3, none⟩, ⟨some 25, .binOp .add 3 (.tmp 24) (.const (.int .i64 1)) 3, 3, none⟩, ⟨some 5, .assign (.tmp 25), 3, none⟩])
@[simp] theorem q_i_contextBehind_c0_run : type_of% (run_is q_i_contextBehind_c0.eq_1) := run_is q_i_contextBehind_c0.eq_1
def q_i_contextBehind_l0 : QCode := .seq (.seq (.ops [⟨some 6, .move (.tmp 5), 3, none⟩, ⟨some 7, .move (.tmp 1), 3, none⟩, ⟨some 8, .move (.tmp 0), 23, none⟩, ⟨some 9, .call { callee := .builtin .len, args := #[.tmp 8], argTypes := #[23] }, 3, none⟩, ⟨some 10, .call { callee := .builtin .min, args := #[.tmp 7, .tmp 9], argTypes := #[3, 3] }, 3, none⟩, ⟨some 11, .binOp .lss 3 (.tmp 6) (.tmp 10) 3, 4, none⟩, ⟨some 12, .move (.tmp 11), 4, none⟩, ⟨some 13, .move (.tmp 0), 23, some (12, true)⟩, ⟨some 14, .move (.tmp 0), 23, some (12, true)⟩, ⟨some 15, .call { callee := .builtin .len, args := #[.tmp 14], argTypes := #[23] }, 3, some (12, true)⟩, ⟨some 16, .binOp .sub 3 (.tmp 15) (.const (.int .i64 1)) 3, 3, some (12, true)⟩, ⟨some 17, .move (.tmp 5), 3, some (12, true)⟩, ⟨some 18, .binOp .sub 3 (.tmp 16) (.tmp 17) 3, 3, some (12, true)⟩, ⟨some 19, .indexAddr 23 (.tmp 13) (.tmp 18), 0, some (12, true)⟩, ⟨some 20, .load 9 (.tmp 19), 9, some (12, true)⟩, ⟨some 21, .index 9 (.tmp 20) (.const (.int .i64 0)), 5, some (12, true)⟩, ⟨some 22, .binOp .eql 5 (.tmp 21) (.const (.int .u8 32)) 5, 4, some (12, true)⟩, ⟨some 23, .pick (.tmp 12) (.tmp 22) (.const (.bool false)), 4, none⟩]) (.cond (.tmp 23) (.skip) (.exit 0))) (q_i_contextBehind_c0)
@[simp] theorem q_i_contextBehind_l0_run : type_of% (run_is q_i_contextBehind_l0.eq_1) := run_is q_i_contextBehind_l0.eq_1
def q_i_contextBehind_c1 : QCode := .seq (.ops [⟨some 26, .move (.tmp 5), 3, none⟩, ⟨some 4, .assign (.tmp 26), 3, none⟩]) (.ret)
@[simp] theorem q_i_contextBehind_c1_run : type_of% (run_is q_i_contextBehind_c1.eq_1) := run_is q_i_contextBehind_c1.eq_1
@[simp] def q_i_contextBehind : QFn := ⟨27, [(.tmp 4, 3)], .seq (.ops [⟨some 4, .assign (.const (.int .i64 0)), 3, none⟩]) (.seq (.ops [⟨some 5, .assign (.const (.int .i64 0)), 3, none⟩]) (.seq (.block 0 (.loop q_i_contextBehind_l0)) (q_i_contextBehind_c1)))⟩
theorem conv_i_contextBehind : convF Try.f50 = some q_i_contextBehind := by kernel_rfl
/-! 51 i_patcher_find -/
abbrev fn_i_patcher_find : FuncId := 51
def q_i_patcher_find_c0 : QCode := .ops [⟨some 29, .binOp .add 3 (.tmp 21) (.const (.int .i64 1)) 3, 3, none⟩, ⟨some 21, .move (.tmp 29), 3, none⟩]
@[simp] theorem q_i_patcher_find_c0_run : type_of% (run_is q_i_patcher_find_c0.eq_1) := run_is q_i_patcher_find_c0.eq_1
def q_i_patcher_find_c1 : QCode := .seq (.block 3 (.seq (.ops [⟨some 23, .index 75 (.tmp 20) (.tmp 21), 3, none⟩, ⟨some 10, .assign (.tmp 23), 3, none⟩]) (.seq (.ops [⟨some 24, .move (.tmp 0), 65, none⟩, ⟨some 25, .move (.tmp 1), 23, none⟩, ⟨some 26, .move (.tmp 10), 3, none⟩, ⟨some 27, .call { callee := .value (.func 53), args := #[.tmp 24, .tmp 25, .tmp 26], argTypes := #[65, 23, 3] }, 4, none⟩]) (.cond (.tmp 27) (.seq (.ops [⟨some 28, .move (.tmp 10), 3, none⟩, ⟨some 6, .assign (.tmp 28), 3, none⟩, ⟨some 7, .assign (.const (.bool true)), 4, none⟩]) (.ret)) (.skip))))) (q_i_patcher_find_c0)
@[simp] theorem q_i_patcher_find_c1_run : type_of% (run_is q_i_patcher_find_c1.eq_1) := run_is q_i_patcher_find_c1.eq_1
def q_i_patcher_find_l0 : QCode := .seq (.ops [⟨some 22, .binOp .lss 3 (.tmp 21) (.const (.int .i64 2)) 3, 0, none⟩]) (.seq (.cond (.tmp 22) (.skip) (.exit 2)) (q_i_patcher_find_c1))
@[simp] theorem q_i_patcher_find_l0_run : type_of% (run_is q_i_patcher_find_l0.eq_1) := run_is q_i_patcher_find_l0.eq_1
def q_i_patcher_find_c2 : QCode := .ops [⟨some 30, .binOp .add 3 (.tmp 11) (.const (.int .i64 1)) 3, 3, none⟩, ⟨some 11, .move (.tmp 30), 3, none⟩]
@[simp] theorem q_i_patcher_find_c2_run : type_of% (run_is q_i_patcher_find_c2.eq_1) := run_is q_i_patcher_find_c2.eq_1
def q_i_patcher_find_c3 : QCode := .seq (.block 1 (.seq (.ops [⟨some 13, .move (.tmp 11), 3, none⟩, ⟨some 8, .assign (.tmp 13), 3, none⟩]) (.seq (.ops [⟨some 14, .move (.tmp 2), 3, none⟩, ⟨some 15, .move (.tmp 8), 3, none⟩, ⟨some 16, .binOp .sub 3 (.tmp 14) (.tmp 15) 3, 3, none⟩, ⟨some 17, .move (.tmp 2), 3, none⟩, ⟨some 18, .move (.tmp 8), 3, none⟩, ⟨some 19, .binOp .add 3 (.tmp 17) (.tmp 18) 3, 3, none⟩, ⟨some 20, .build 75 #[(0, .tmp 16), (1, .tmp 19)], 75, none⟩, ⟨some 21, .move (.const (.int .i64 0)), 3, none⟩]) (.block 2 (.loop q_i_patcher_find_l0))))) (q_i_patcher_find_c2)
@[simp] theorem q_i_patcher_find_c3_run : type_of% (run_is q_i_patcher_find_c3.eq_1) := run_is q_i_patcher_find_c3.eq_1
def q_i_patcher_find_l1 : QCode := .seq (.ops [⟨some 12, .binOp .lss 3 (.tmp 11) (.const (.int .i64 9)) 3, 4, none⟩]) (.seq (.cond (.tmp 12) (.skip) (.exit 0)) (q_i_patcher_find_c3))
@[simp] theorem q_i_patcher_find_l1_run : type_of% (run_is q_i_patcher_find_l1.eq_1) := run_is q_i_patcher_find_l1.eq_1
def q_i_patcher_find_c4 : QCode := .seq (.ops [⟨some 6, .assign (.const (.int .i64 0)), 3, none⟩, ⟨some 7, .assign (.const (.bool false)), 4, none⟩]) (.ret)
@[simp] theorem q_i_patcher_find_c4_run : type_of% (run_is q_i_patcher_find_c4.eq_1) := run_is q_i_patcher_find_c4.eq_1
@[simp] def q_i_patcher_find : QFn := ⟨31, [(.tmp 6, 3), (.tmp 7, 4)], .seq (.ops [⟨some 6, .assign (.const (.int .i64 0)), 3, none⟩, ⟨some 7, .assign (.const (.bool false)), 4, none⟩]) (.seq (.seq (.ops [⟨some 11, .move (.const (.int .i64 0)), 3, none⟩]) (.block 0 (.loop q_i_patcher_find_l1))) (q_i_patcher_find_c4))⟩
theorem conv_i_patcher_find : convF Try.f51 = some q_i_patcher_find := by kernel_rfl
abbrev fn_slices_Replace_L_string_string : FuncId := 52
/-! 53 i_patcher_occurs -/
abbrev fn_i_patcher_occurs : FuncId := 53
@[simp] def q_i_patcher_occurs : QFn := ⟨39, [(.tmp 6, 4)], .seq (.ops [⟨some 6, .assign (.const (.bool false)), 4, none⟩]) (.seq (.ops [⟨some 7, .move (.tmp 2), 3, none⟩, ⟨some 8, .move (.tmp 0), 65, none⟩, ⟨some 9, .nilCheck (.tmp 8), 0, none⟩, ⟨some 10, .fieldAddr 52 (.tmp 9) 1, 0, none⟩, ⟨some 11, .load 3 (.tmp 10), 3, none⟩, ⟨some 12, .binOp .geq 3 (.tmp 7) (.tmp 11) 3, 4, none⟩, ⟨some 13, .move (.tmp 12), 4, none⟩, ⟨some 14, .move (.tmp 2), 3, some (13, true)⟩, ⟨some 15, .move (.tmp 1), 23, some (13, true)⟩, ⟨some 16, .call { callee := .builtin .len, args := #[.tmp 15], argTypes := #[23] }, 3, some (13, true)⟩, ⟨some 17, .binOp .add 3 (.tmp 14) (.tmp 16) 3, 3, some (13, true)⟩, ⟨some 18, .move (.tmp 0), 65, some (13, true)⟩, ⟨some 19, .nilCheck (.tmp 18), 0, some (13, true)⟩, ⟨some 20, .fieldAddr 52 (.tmp 19) 0, 0, some (13, true)⟩, ⟨some 21, .load 23 (.tmp 20), 23, some (13, true)⟩, ⟨some 22, .call { callee := .builtin .len, args := #[.tmp 21], argTypes := #[23] }, 3, some (13, true)⟩, ⟨some 23, .binOp .leq 3 (.tmp 17) (.tmp 22) 3, 4, some (13, true)⟩, ⟨some 24, .pick (.tmp 13) (.tmp 23) (.const (.bool false)), 4, none⟩, ⟨some 25, .move (.tmp 24), 4, none⟩, ⟨some 26, .move (.tmp 0), 65, some (25, true)⟩, ⟨some 27, .nilCheck (.tmp 26), 0, some (25, true)⟩, ⟨some 28, .fieldAddr 52 (.tmp 27) 0, 0, some (25, true)⟩, ⟨some 29, .load 23 (.tmp 28), 23, some (25, true)⟩, ⟨some 30, .move (.tmp 2), 3, some (25, true)⟩, ⟨some 31, .move (.tmp 2), 3, some (25, true)⟩, ⟨some 32, .move (.tmp 1), 23, some (25, true)⟩, ⟨some 33, .call { callee := .builtin .len, args := #[.tmp 32], argTypes := #[23] }, 3, some (25, true)⟩, ⟨some 34, .binOp .add 3 (.tmp 31) (.tmp 33) 3, 3, some (25, true)⟩, ⟨some 35, .slice 23 (.tmp 29) (some (.tmp 30)) (some (.tmp 34)) none, 23, some (25, true)⟩, ⟨some 36, .move (.tmp 1), 23, some (25, true)⟩, ⟨some 37, .call { callee := .value (.func 24), args := #[.tmp 35, .tmp 36], argTypes := #[23, 23] }, 4, some (25, true)⟩, ⟨some 38, .pick (.tmp 25) (.tmp 37) (.const (.bool false)), 4, none⟩, ⟨some 6, .assign (.tmp 38), 4, none⟩]) (.ret))⟩
theorem conv_i_patcher_occurs : convF Try.f53 = some q_i_patcher_occurs := by kernel_rfl
end Go.Qz
