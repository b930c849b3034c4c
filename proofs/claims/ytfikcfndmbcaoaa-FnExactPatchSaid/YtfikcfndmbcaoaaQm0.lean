/- The evaluator of the claim and what it says, part Qm0 (several texts in one). -/
import Derived.Test.YtfikcfndmbcaoaaProg
import Derived.Test.YtfikcfndmbcaoaaQj0
import Derived.KernelRfl
/- The types of the program, as the evaluator asks of them (printed by a program of ours). -/
namespace Go.Qz
open Go.Proofs

@[simp] theorem ty_size2 : sizeT Try.prog 2 = some 1 := by kernel_rfl
@[simp] theorem ty_agg2 : isAggT Try.prog 2 = false := by kernel_rfl
@[simp] theorem ty_bld2 : builderT Try.prog 2 = none := by kernel_rfl
@[simp] theorem ty_zero2 : zeroA Try.prog 2 = some [.ro (.int .i64 0)] := by kernel_rfl
@[simp] theorem ty_size3 : sizeT Try.prog 3 = some 1 := by kernel_rfl
@[simp] theorem ty_agg3 : isAggT Try.prog 3 = false := by kernel_rfl
@[simp] theorem ty_bld3 : builderT Try.prog 3 = none := by kernel_rfl
@[simp] theorem ty_zero3 : zeroA Try.prog 3 = some [.ro (.int .i64 0)] := by kernel_rfl
@[simp] theorem ty_size4 : sizeT Try.prog 4 = some 1 := by kernel_rfl
@[simp] theorem ty_agg4 : isAggT Try.prog 4 = false := by kernel_rfl
@[simp] theorem ty_bld4 : builderT Try.prog 4 = none := by kernel_rfl
@[simp] theorem ty_zero4 : zeroA Try.prog 4 = some [.ro (.bool false)] := by kernel_rfl
@[simp] theorem ty_size5 : sizeT Try.prog 5 = some 1 := by kernel_rfl
@[simp] theorem ty_agg5 : isAggT Try.prog 5 = false := by kernel_rfl
@[simp] theorem ty_bld5 : builderT Try.prog 5 = none := by kernel_rfl
@[simp] theorem ty_zero5 : zeroA Try.prog 5 = some [.ro (.int .u8 0)] := by kernel_rfl
@[simp] theorem ty_size6 : sizeT Try.prog 6 = some 1 := by kernel_rfl
@[simp] theorem ty_agg6 : isAggT Try.prog 6 = false := by kernel_rfl
@[simp] theorem ty_bld6 : builderT Try.prog 6 = none := by kernel_rfl
@[simp] theorem ty_zero6 : zeroA Try.prog 6 = some [.ro (.int .u8 0)] := by kernel_rfl
@[simp] theorem ty_size7 : sizeT Try.prog 7 = some 4 := by kernel_rfl
@[simp] theorem ty_agg7 : isAggT Try.prog 7 = true := by kernel_rfl
@[simp] theorem ty_bld7 : builderT Try.prog 7 = none := by kernel_rfl
@[simp] theorem ty_f7_0 : fieldAt Try.prog 7 0 = some (0, 2) := by kernel_rfl
@[simp] theorem ty_f7_1 : fieldAt Try.prog 7 1 = some (1, 3) := by kernel_rfl
@[simp] theorem ty_f7_2 : fieldAt Try.prog 7 2 = some (2, 4) := by kernel_rfl
@[simp] theorem ty_f7_3 : fieldAt Try.prog 7 3 = some (3, 6) := by kernel_rfl
@[simp] theorem ty_pl7 : placesOk Try.prog 7 = true := by kernel_rfl
@[simp] theorem ty_zero7 : zeroA Try.prog 7 = some [.ro (.int .i64 0), .ro (.int .i64 0), .ro (.bool false), .ro (.int .u8 0)] := by kernel_rfl
@[simp] theorem ty_size8 : sizeT Try.prog 8 = some 4 := by kernel_rfl
@[simp] theorem ty_agg8 : isAggT Try.prog 8 = true := by kernel_rfl
@[simp] theorem ty_bld8 : builderT Try.prog 8 = none := by kernel_rfl
@[simp] theorem ty_f8_0 : fieldAt Try.prog 8 0 = some (0, 2) := by kernel_rfl
@[simp] theorem ty_f8_1 : fieldAt Try.prog 8 1 = some (1, 3) := by kernel_rfl
@[simp] theorem ty_f8_2 : fieldAt Try.prog 8 2 = some (2, 4) := by kernel_rfl
@[simp] theorem ty_f8_3 : fieldAt Try.prog 8 3 = some (3, 6) := by kernel_rfl
@[simp] theorem ty_pl8 : placesOk Try.prog 8 = true := by kernel_rfl
@[simp] theorem ty_zero8 : zeroA Try.prog 8 = some [.ro (.int .i64 0), .ro (.int .i64 0), .ro (.bool false), .ro (.int .u8 0)] := by kernel_rfl
@[simp] theorem ty_size9 : sizeT Try.prog 9 = some 1 := by kernel_rfl
@[simp] theorem ty_agg9 : isAggT Try.prog 9 = false := by kernel_rfl
@[simp] theorem ty_bld9 : builderT Try.prog 9 = none := by kernel_rfl
@[simp] theorem ty_zero9 : zeroA Try.prog 9 = some [.ro (.str ⟨#[]⟩)] := by kernel_rfl
@[simp] theorem ty_size10 : sizeT Try.prog 10 = some 1 := by kernel_rfl
@[simp] theorem ty_agg10 : isAggT Try.prog 10 = false := by kernel_rfl
@[simp] theorem ty_bld10 : builderT Try.prog 10 = none := by kernel_rfl
@[simp] theorem ty_zero10 : zeroA Try.prog 10 = some [.ro (.str ⟨#[]⟩)] := by kernel_rfl
@[simp] theorem ty_size11 : sizeT Try.prog 11 = some 1 := by kernel_rfl
@[simp] theorem ty_agg11 : isAggT Try.prog 11 = false := by kernel_rfl
@[simp] theorem ty_bld11 : builderT Try.prog 11 = none := by kernel_rfl
@[simp] theorem ty_zero11 : zeroA Try.prog 11 = some [.ro (.str ⟨#[]⟩)] := by kernel_rfl
@[simp] theorem ty_size12 : sizeT Try.prog 12 = some 1 := by kernel_rfl
@[simp] theorem ty_agg12 : isAggT Try.prog 12 = false := by kernel_rfl
@[simp] theorem ty_bld12 : builderT Try.prog 12 = none := by kernel_rfl
@[simp] theorem ty_zero12 : zeroA Try.prog 12 = some [.ro (.int .u64 0)] := by kernel_rfl
@[simp] theorem ty_size13 : sizeT Try.prog 13 = some 2 := by kernel_rfl
@[simp] theorem ty_agg13 : isAggT Try.prog 13 = true := by kernel_rfl
@[simp] theorem ty_bld13 : builderT Try.prog 13 = none := by kernel_rfl
@[simp] theorem ty_f13_0 : fieldAt Try.prog 13 0 = some (0, 9) := by kernel_rfl
@[simp] theorem ty_f13_1 : fieldAt Try.prog 13 1 = some (1, 12) := by kernel_rfl
@[simp] theorem ty_pl13 : placesOk Try.prog 13 = true := by kernel_rfl
@[simp] theorem ty_zero13 : zeroA Try.prog 13 = some [.ro (.str ⟨#[]⟩), .ro (.int .u64 0)] := by kernel_rfl
@[simp] theorem ty_size14 : sizeT Try.prog 14 = some 2 := by kernel_rfl
@[simp] theorem ty_agg14 : isAggT Try.prog 14 = true := by kernel_rfl
@[simp] theorem ty_bld14 : builderT Try.prog 14 = none := by kernel_rfl
@[simp] theorem ty_f14_0 : fieldAt Try.prog 14 0 = some (0, 9) := by kernel_rfl
@[simp] theorem ty_f14_1 : fieldAt Try.prog 14 1 = some (1, 12) := by kernel_rfl
@[simp] theorem ty_pl14 : placesOk Try.prog 14 = true := by kernel_rfl
@[simp] theorem ty_zero14 : zeroA Try.prog 14 = some [.ro (.str ⟨#[]⟩), .ro (.int .u64 0)] := by kernel_rfl
@[simp] theorem ty_size15 : sizeT Try.prog 15 = some 1 := by kernel_rfl
@[simp] theorem ty_agg15 : isAggT Try.prog 15 = false := by kernel_rfl
@[simp] theorem ty_bld15 : builderT Try.prog 15 = none := by kernel_rfl
@[simp] theorem ty_zero15 : zeroA Try.prog 15 = some [.ro (.nilp)] := by kernel_rfl
@[simp] theorem ty_size16 : sizeT Try.prog 16 = some 1 := by kernel_rfl
@[simp] theorem ty_agg16 : isAggT Try.prog 16 = false := by kernel_rfl
@[simp] theorem ty_bld16 : builderT Try.prog 16 = none := by kernel_rfl
@[simp] theorem ty_zero16 : zeroA Try.prog 16 = some [.ro (.nilp)] := by kernel_rfl
@[simp] theorem ty_size17 : sizeT Try.prog 17 = some 1 := by kernel_rfl
@[simp] theorem ty_agg17 : isAggT Try.prog 17 = false := by kernel_rfl
@[simp] theorem ty_bld17 : builderT Try.prog 17 = none := by kernel_rfl
@[simp] theorem ty_zero17 : zeroA Try.prog 17 = some [.ro (.nilp)] := by kernel_rfl
@[simp] theorem ty_size18 : sizeT Try.prog 18 = some 1 := by kernel_rfl
@[simp] theorem ty_agg18 : isAggT Try.prog 18 = true := by kernel_rfl
@[simp] theorem ty_bld18 : builderT Try.prog 18 = none := by kernel_rfl
@[simp] theorem ty_f18_0 : fieldAt Try.prog 18 0 = some (0, 17) := by kernel_rfl
@[simp] theorem ty_pl18 : placesOk Try.prog 18 = true := by kernel_rfl
@[simp] theorem ty_zero18 : zeroA Try.prog 18 = some [.ro (.nilp)] := by kernel_rfl
@[simp] theorem ty_size19 : sizeT Try.prog 19 = some 1 := by kernel_rfl
@[simp] theorem ty_agg19 : isAggT Try.prog 19 = true := by kernel_rfl
@[simp] theorem ty_bld19 : builderT Try.prog 19 = none := by kernel_rfl
@[simp] theorem ty_f19_0 : fieldAt Try.prog 19 0 = some (0, 17) := by kernel_rfl
@[simp] theorem ty_pl19 : placesOk Try.prog 19 = true := by kernel_rfl
@[simp] theorem ty_zero19 : zeroA Try.prog 19 = some [.ro (.nilp)] := by kernel_rfl
@[simp] theorem ty_size20 : sizeT Try.prog 20 = some 1 := by kernel_rfl
@[simp] theorem ty_agg20 : isAggT Try.prog 20 = false := by kernel_rfl
@[simp] theorem ty_bld20 : builderT Try.prog 20 = none := by kernel_rfl
@[simp] theorem ty_zero20 : zeroA Try.prog 20 = some [.ro (.nili)] := by kernel_rfl
@[simp] theorem ty_size21 : sizeT Try.prog 21 = some 1 := by kernel_rfl
@[simp] theorem ty_agg21 : isAggT Try.prog 21 = false := by kernel_rfl
@[simp] theorem ty_bld21 : builderT Try.prog 21 = none := by kernel_rfl
@[simp] theorem ty_zero21 : zeroA Try.prog 21 = some [.ro (.int .i32 0)] := by kernel_rfl
@[simp] theorem ty_size22 : sizeT Try.prog 22 = some 1 := by kernel_rfl
@[simp] theorem ty_agg22 : isAggT Try.prog 22 = false := by kernel_rfl
@[simp] theorem ty_bld22 : builderT Try.prog 22 = none := by kernel_rfl
@[simp] theorem ty_byte22 : byteT Try.prog 22 = none := by kernel_rfl
@[simp] theorem ty_z22 : zOf Try.prog 22 = some 2 := by kernel_rfl
@[simp] theorem ty_elem22 : elemT Try.prog 57 = some 2 := by kernel_rfl
@[simp] theorem ty_zd22 : zeroD Try.prog 57 = some (.agg [.str ⟨#[]⟩, .str ⟨#[]⟩]) := by kernel_rfl
@[simp] theorem ty_zero22 : zeroA Try.prog 22 = some [.own (.sl 2 [])] := by kernel_rfl
@[simp] theorem ty_size25 : sizeT Try.prog 25 = some 1 := by kernel_rfl
@[simp] theorem ty_agg25 : isAggT Try.prog 25 = false := by kernel_rfl
@[simp] theorem ty_bld25 : builderT Try.prog 25 = none := by kernel_rfl
@[simp] theorem ty_byte25 : byteT Try.prog 25 = none := by kernel_rfl
@[simp] theorem ty_z25 : zOf Try.prog 25 = some 2 := by kernel_rfl
@[simp] theorem ty_elem25 : elemT Try.prog 59 = some 2 := by kernel_rfl
@[simp] theorem ty_zd25 : zeroD Try.prog 59 = some (.agg [.str ⟨#[]⟩, .str ⟨#[]⟩]) := by kernel_rfl
@[simp] theorem ty_zero25 : zeroA Try.prog 25 = some [.own (.sl 2 [])] := by kernel_rfl
@[simp] theorem ty_size29 : sizeT Try.prog 29 = some 1 := by kernel_rfl
@[simp] theorem ty_agg29 : isAggT Try.prog 29 = false := by kernel_rfl
@[simp] theorem ty_bld29 : builderT Try.prog 29 = none := by kernel_rfl
@[simp] theorem ty_byte29 : byteT Try.prog 29 = none := by kernel_rfl
@[simp] theorem ty_z29 : zOf Try.prog 29 = some 2 := by kernel_rfl
@[simp] theorem ty_elem29 : elemT Try.prog 68 = some 2 := by kernel_rfl
@[simp] theorem ty_zd29 : zeroD Try.prog 68 = some (.agg [.int .i64 0, .sl 1 []]) := by kernel_rfl
@[simp] theorem ty_zero29 : zeroA Try.prog 29 = some [.own (.sl 2 [])] := by kernel_rfl
@[simp] theorem ty_size32 : sizeT Try.prog 32 = some 1 := by kernel_rfl
@[simp] theorem ty_agg32 : isAggT Try.prog 32 = false := by kernel_rfl
@[simp] theorem ty_bld32 : builderT Try.prog 32 = none := by kernel_rfl
@[simp] theorem ty_byte32 : byteT Try.prog 32 = none := by kernel_rfl
@[simp] theorem ty_z32 : zOf Try.prog 32 = some 2 := by kernel_rfl
@[simp] theorem ty_elem32 : elemT Try.prog 46 = some 2 := by kernel_rfl
@[simp] theorem ty_zd32 : zeroD Try.prog 46 = some (.agg [.int .i64 0, .sl 1 []]) := by kernel_rfl
@[simp] theorem ty_zero32 : zeroA Try.prog 32 = some [.own (.sl 2 [])] := by kernel_rfl
@[simp] theorem ty_size36 : sizeT Try.prog 36 = some 1 := by kernel_rfl
@[simp] theorem ty_agg36 : isAggT Try.prog 36 = false := by kernel_rfl
@[simp] theorem ty_bld36 : builderT Try.prog 36 = none := by kernel_rfl
@[simp] theorem ty_byte36 : byteT Try.prog 36 = none := by kernel_rfl
@[simp] theorem ty_z36 : zOf Try.prog 36 = some 1 := by kernel_rfl
@[simp] theorem ty_elem36 : elemT Try.prog 9 = some 1 := by kernel_rfl
@[simp] theorem ty_zd36 : zeroD Try.prog 9 = some (.str ⟨#[]⟩) := by kernel_rfl
@[simp] theorem ty_zero36 : zeroA Try.prog 36 = some [.own (.sl 1 [])] := by kernel_rfl
@[simp] theorem ty_size42 : sizeT Try.prog 42 = some 1 := by kernel_rfl
@[simp] theorem ty_agg42 : isAggT Try.prog 42 = false := by kernel_rfl
@[simp] theorem ty_bld42 : builderT Try.prog 42 = none := by kernel_rfl
@[simp] theorem ty_byte42 : byteT Try.prog 42 = some 5 := by kernel_rfl
@[simp] theorem ty_z42 : zOf Try.prog 42 = some 1 := by kernel_rfl
@[simp] theorem ty_elem42 : elemT Try.prog 5 = some 1 := by kernel_rfl
@[simp] theorem ty_zd42 : zeroD Try.prog 5 = some (.int .u8 0) := by kernel_rfl
@[simp] theorem ty_zero42 : zeroA Try.prog 42 = some [.own (.sl 1 [])] := by kernel_rfl
@[simp] theorem ty_size45 : sizeT Try.prog 45 = some 2 := by kernel_rfl
@[simp] theorem ty_agg45 : isAggT Try.prog 45 = true := by kernel_rfl
@[simp] theorem ty_bld45 : builderT Try.prog 45 = none := by kernel_rfl
@[simp] theorem ty_f45_0 : fieldAt Try.prog 45 0 = some (0, 3) := by kernel_rfl
@[simp] theorem ty_f45_1 : fieldAt Try.prog 45 1 = some (1, 36) := by kernel_rfl
@[simp] theorem ty_pl45 : placesOk Try.prog 45 = true := by kernel_rfl
@[simp] theorem ty_zero45 : zeroA Try.prog 45 = some [.ro (.int .i64 0), .own (.sl 1 [])] := by kernel_rfl
@[simp] theorem ty_size46 : sizeT Try.prog 46 = some 2 := by kernel_rfl
@[simp] theorem ty_agg46 : isAggT Try.prog 46 = true := by kernel_rfl
@[simp] theorem ty_bld46 : builderT Try.prog 46 = none := by kernel_rfl
@[simp] theorem ty_f46_0 : fieldAt Try.prog 46 0 = some (0, 3) := by kernel_rfl
@[simp] theorem ty_f46_1 : fieldAt Try.prog 46 1 = some (1, 36) := by kernel_rfl
@[simp] theorem ty_pl46 : placesOk Try.prog 46 = true := by kernel_rfl
@[simp] theorem ty_zero46 : zeroA Try.prog 46 = some [.ro (.int .i64 0), .own (.sl 1 [])] := by kernel_rfl
@[simp] theorem ty_size47 : sizeT Try.prog 47 = some 1 := by kernel_rfl
@[simp] theorem ty_agg47 : isAggT Try.prog 47 = false := by kernel_rfl
@[simp] theorem ty_bld47 : builderT Try.prog 47 = none := by kernel_rfl
@[simp] theorem ty_byte47 : byteT Try.prog 47 = none := by kernel_rfl
@[simp] theorem ty_z47 : zOf Try.prog 47 = some 1 := by kernel_rfl
@[simp] theorem ty_elem47 : elemT Try.prog 3 = some 1 := by kernel_rfl
@[simp] theorem ty_zd47 : zeroD Try.prog 3 = some (.int .i64 0) := by kernel_rfl
@[simp] theorem ty_zero47 : zeroA Try.prog 47 = some [.own (.sl 1 [])] := by kernel_rfl
@[simp] theorem ty_size56 : sizeT Try.prog 56 = some 2 := by kernel_rfl
@[simp] theorem ty_agg56 : isAggT Try.prog 56 = true := by kernel_rfl
@[simp] theorem ty_bld56 : builderT Try.prog 56 = none := by kernel_rfl
@[simp] theorem ty_f56_0 : fieldAt Try.prog 56 0 = some (0, 9) := by kernel_rfl
@[simp] theorem ty_f56_1 : fieldAt Try.prog 56 1 = some (1, 9) := by kernel_rfl
@[simp] theorem ty_pl56 : placesOk Try.prog 56 = true := by kernel_rfl
@[simp] theorem ty_zero56 : zeroA Try.prog 56 = some [.ro (.str ⟨#[]⟩), .ro (.str ⟨#[]⟩)] := by kernel_rfl
@[simp] theorem ty_size57 : sizeT Try.prog 57 = some 2 := by kernel_rfl
@[simp] theorem ty_agg57 : isAggT Try.prog 57 = true := by kernel_rfl
@[simp] theorem ty_bld57 : builderT Try.prog 57 = none := by kernel_rfl
@[simp] theorem ty_f57_0 : fieldAt Try.prog 57 0 = some (0, 9) := by kernel_rfl
@[simp] theorem ty_f57_1 : fieldAt Try.prog 57 1 = some (1, 9) := by kernel_rfl
@[simp] theorem ty_pl57 : placesOk Try.prog 57 = true := by kernel_rfl
@[simp] theorem ty_zero57 : zeroA Try.prog 57 = some [.ro (.str ⟨#[]⟩), .ro (.str ⟨#[]⟩)] := by kernel_rfl
@[simp] theorem ty_size59 : sizeT Try.prog 59 = some 2 := by kernel_rfl
@[simp] theorem ty_agg59 : isAggT Try.prog 59 = true := by kernel_rfl
@[simp] theorem ty_bld59 : builderT Try.prog 59 = none := by kernel_rfl
@[simp] theorem ty_f59_0 : fieldAt Try.prog 59 0 = some (0, 9) := by kernel_rfl
@[simp] theorem ty_f59_1 : fieldAt Try.prog 59 1 = some (1, 9) := by kernel_rfl
@[simp] theorem ty_pl59 : placesOk Try.prog 59 = true := by kernel_rfl
@[simp] theorem ty_zero59 : zeroA Try.prog 59 = some [.ro (.str ⟨#[]⟩), .ro (.str ⟨#[]⟩)] := by kernel_rfl
@[simp] theorem ty_size68 : sizeT Try.prog 68 = some 2 := by kernel_rfl
@[simp] theorem ty_agg68 : isAggT Try.prog 68 = true := by kernel_rfl
@[simp] theorem ty_bld68 : builderT Try.prog 68 = none := by kernel_rfl
@[simp] theorem ty_f68_0 : fieldAt Try.prog 68 0 = some (0, 3) := by kernel_rfl
@[simp] theorem ty_f68_1 : fieldAt Try.prog 68 1 = some (1, 36) := by kernel_rfl
@[simp] theorem ty_pl68 : placesOk Try.prog 68 = true := by kernel_rfl
@[simp] theorem ty_zero68 : zeroA Try.prog 68 = some [.ro (.int .i64 0), .own (.sl 1 [])] := by kernel_rfl
@[simp] theorem ty_size79 : sizeT Try.prog 79 = some 1 := by kernel_rfl
@[simp] theorem ty_agg79 : isAggT Try.prog 79 = false := by kernel_rfl
@[simp] theorem ty_bld79 : builderT Try.prog 79 = none := by kernel_rfl
@[simp] theorem ty_zero79 : zeroA Try.prog 79 = some [.ro (.nilp)] := by kernel_rfl
@[simp] theorem ty_size84 : sizeT Try.prog 84 = some 4 := by kernel_rfl
@[simp] theorem ty_agg84 : isAggT Try.prog 84 = true := by kernel_rfl
@[simp] theorem ty_bld84 : builderT Try.prog 84 = none := by kernel_rfl
@[simp] theorem ty_f84_0 : fieldAt Try.prog 84 0 = some (0, 36) := by kernel_rfl
@[simp] theorem ty_f84_1 : fieldAt Try.prog 84 1 = some (1, 3) := by kernel_rfl
@[simp] theorem ty_f84_2 : fieldAt Try.prog 84 2 = some (2, 3) := by kernel_rfl
@[simp] theorem ty_f84_3 : fieldAt Try.prog 84 3 = some (3, 47) := by kernel_rfl
@[simp] theorem ty_pl84 : placesOk Try.prog 84 = true := by kernel_rfl
@[simp] theorem ty_zero84 : zeroA Try.prog 84 = some [.own (.sl 1 []), .ro (.int .i64 0), .ro (.int .i64 0), .own (.sl 1 [])] := by kernel_rfl
@[simp] theorem ty_size85 : sizeT Try.prog 85 = some 4 := by kernel_rfl
@[simp] theorem ty_agg85 : isAggT Try.prog 85 = true := by kernel_rfl
@[simp] theorem ty_bld85 : builderT Try.prog 85 = none := by kernel_rfl
@[simp] theorem ty_f85_0 : fieldAt Try.prog 85 0 = some (0, 36) := by kernel_rfl
@[simp] theorem ty_f85_1 : fieldAt Try.prog 85 1 = some (1, 3) := by kernel_rfl
@[simp] theorem ty_f85_2 : fieldAt Try.prog 85 2 = some (2, 3) := by kernel_rfl
@[simp] theorem ty_f85_3 : fieldAt Try.prog 85 3 = some (3, 47) := by kernel_rfl
@[simp] theorem ty_pl85 : placesOk Try.prog 85 = true := by kernel_rfl
@[simp] theorem ty_zero85 : zeroA Try.prog 85 = some [.own (.sl 1 []), .ro (.int .i64 0), .ro (.int .i64 0), .own (.sl 1 [])] := by kernel_rfl
@[simp] theorem ty_size92 : sizeT Try.prog 92 = some 2 := by kernel_rfl
@[simp] theorem ty_agg92 : isAggT Try.prog 92 = true := by kernel_rfl
@[simp] theorem ty_bld92 : builderT Try.prog 92 = none := by kernel_rfl
@[simp] theorem ty_f92_0 : fieldAt Try.prog 92 0 = some (0, 42) := by kernel_rfl
@[simp] theorem ty_f92_1 : fieldAt Try.prog 92 1 = some (1, 3) := by kernel_rfl
@[simp] theorem ty_pl92 : placesOk Try.prog 92 = true := by kernel_rfl
@[simp] theorem ty_zero92 : zeroA Try.prog 92 = some [.own (.sl 1 []), .ro (.int .i64 0)] := by kernel_rfl
@[simp] theorem ty_size93 : sizeT Try.prog 93 = some 2 := by kernel_rfl
@[simp] theorem ty_agg93 : isAggT Try.prog 93 = true := by kernel_rfl
@[simp] theorem ty_bld93 : builderT Try.prog 93 = none := by kernel_rfl
@[simp] theorem ty_f93_0 : fieldAt Try.prog 93 0 = some (0, 42) := by kernel_rfl
@[simp] theorem ty_f93_1 : fieldAt Try.prog 93 1 = some (1, 3) := by kernel_rfl
@[simp] theorem ty_pl93 : placesOk Try.prog 93 = true := by kernel_rfl
@[simp] theorem ty_zero93 : zeroA Try.prog 93 = some [.own (.sl 1 []), .ro (.int .i64 0)] := by kernel_rfl
@[simp] theorem ty_size95 : sizeT Try.prog 95 = some 1 := by kernel_rfl
@[simp] theorem ty_agg95 : isAggT Try.prog 95 = false := by kernel_rfl
@[simp] theorem ty_bld95 : builderT Try.prog 95 = none := by kernel_rfl
@[simp] theorem ty_zero95 : zeroA Try.prog 95 = some [.ro (.nilp)] := by kernel_rfl
@[simp] theorem ty_size103 : sizeT Try.prog 103 = some 2 := by kernel_rfl
@[simp] theorem ty_agg103 : isAggT Try.prog 103 = true := by kernel_rfl
@[simp] theorem ty_bld103 : builderT Try.prog 103 = none := by kernel_rfl
@[simp] theorem ty_zero103 : zeroA Try.prog 103 = some [.ro (.int .i64 0), .ro (.int .i64 0)] := by kernel_rfl
@[simp] theorem ty_size108 : sizeT Try.prog 108 = some 1 := by kernel_rfl
@[simp] theorem ty_agg108 : isAggT Try.prog 108 = false := by kernel_rfl
@[simp] theorem ty_bld108 : builderT Try.prog 108 = none := by kernel_rfl
@[simp] theorem ty_zero108 : zeroA Try.prog 108 = some [.ro (.nilp)] := by kernel_rfl
@[simp] theorem ty_size111 : sizeT Try.prog 111 = some 4 := by kernel_rfl
@[simp] theorem ty_agg111 : isAggT Try.prog 111 = true := by kernel_rfl
@[simp] theorem ty_bld111 : builderT Try.prog 111 = none := by kernel_rfl
@[simp] theorem ty_f111_0 : fieldAt Try.prog 111 0 = some (0, 17) := by kernel_rfl
@[simp] theorem ty_f111_1 : fieldAt Try.prog 111 1 = some (1, 17) := by kernel_rfl
@[simp] theorem ty_f111_2 : fieldAt Try.prog 111 2 = some (2, 17) := by kernel_rfl
@[simp] theorem ty_f111_3 : fieldAt Try.prog 111 3 = some (3, 9) := by kernel_rfl
@[simp] theorem ty_pl111 : placesOk Try.prog 111 = true := by kernel_rfl
@[simp] theorem ty_zero111 : zeroA Try.prog 111 = some [.ro (.nilp), .ro (.nilp), .ro (.nilp), .ro (.str ⟨#[]⟩)] := by kernel_rfl
@[simp] theorem ty_size112 : sizeT Try.prog 112 = some 4 := by kernel_rfl
@[simp] theorem ty_agg112 : isAggT Try.prog 112 = true := by kernel_rfl
@[simp] theorem ty_bld112 : builderT Try.prog 112 = none := by kernel_rfl
@[simp] theorem ty_f112_0 : fieldAt Try.prog 112 0 = some (0, 17) := by kernel_rfl
@[simp] theorem ty_f112_1 : fieldAt Try.prog 112 1 = some (1, 17) := by kernel_rfl
@[simp] theorem ty_f112_2 : fieldAt Try.prog 112 2 = some (2, 17) := by kernel_rfl
@[simp] theorem ty_f112_3 : fieldAt Try.prog 112 3 = some (3, 9) := by kernel_rfl
@[simp] theorem ty_pl112 : placesOk Try.prog 112 = true := by kernel_rfl
@[simp] theorem ty_zero112 : zeroA Try.prog 112 = some [.ro (.nilp), .ro (.nilp), .ro (.nilp), .ro (.str ⟨#[]⟩)] := by kernel_rfl
@[simp] theorem ty_size113 : sizeT Try.prog 113 = some 0 := by kernel_rfl
@[simp] theorem ty_agg113 : isAggT Try.prog 113 = true := by kernel_rfl
@[simp] theorem ty_bld113 : builderT Try.prog 113 = none := by kernel_rfl
@[simp] theorem ty_zero113 : zeroA Try.prog 113 = some [] := by kernel_rfl
@[simp] theorem ty_size114 : sizeT Try.prog 114 = some 0 := by kernel_rfl
@[simp] theorem ty_agg114 : isAggT Try.prog 114 = true := by kernel_rfl
@[simp] theorem ty_bld114 : builderT Try.prog 114 = none := by kernel_rfl
@[simp] theorem ty_f114_0 : fieldAt Try.prog 114 0 = some (0, 113) := by kernel_rfl
@[simp] theorem ty_pl114 : placesOk Try.prog 114 = true := by kernel_rfl
@[simp] theorem ty_zero114 : zeroA Try.prog 114 = some [] := by kernel_rfl
@[simp] theorem ty_size115 : sizeT Try.prog 115 = some 0 := by kernel_rfl
@[simp] theorem ty_agg115 : isAggT Try.prog 115 = true := by kernel_rfl
@[simp] theorem ty_bld115 : builderT Try.prog 115 = none := by kernel_rfl
@[simp] theorem ty_f115_0 : fieldAt Try.prog 115 0 = some (0, 113) := by kernel_rfl
@[simp] theorem ty_pl115 : placesOk Try.prog 115 = true := by kernel_rfl
@[simp] theorem ty_zero115 : zeroA Try.prog 115 = some [] := by kernel_rfl
@[simp] theorem ty_size117 : sizeT Try.prog 117 = some 1 := by kernel_rfl
@[simp] theorem ty_agg117 : isAggT Try.prog 117 = false := by kernel_rfl
@[simp] theorem ty_bld117 : builderT Try.prog 117 = none := by kernel_rfl
@[simp] theorem ty_zero117 : zeroA Try.prog 117 = some [.ro (.int .u32 0)] := by kernel_rfl
@[simp] theorem ty_size118 : sizeT Try.prog 118 = some 1 := by kernel_rfl
@[simp] theorem ty_agg118 : isAggT Try.prog 118 = false := by kernel_rfl
@[simp] theorem ty_bld118 : builderT Try.prog 118 = none := by kernel_rfl
@[simp] theorem ty_zero118 : zeroA Try.prog 118 = some [.ro (.int .u8 0)] := by kernel_rfl
@[simp] theorem ty_size119 : sizeT Try.prog 119 = some 1 := by kernel_rfl
@[simp] theorem ty_agg119 : isAggT Try.prog 119 = false := by kernel_rfl
@[simp] theorem ty_bld119 : builderT Try.prog 119 = none := by kernel_rfl
@[simp] theorem ty_zero119 : zeroA Try.prog 119 = some [.ro (.int .u8 0)] := by kernel_rfl
@[simp] theorem ty_size121 : sizeT Try.prog 121 = some 1 := by kernel_rfl
@[simp] theorem ty_agg121 : isAggT Try.prog 121 = false := by kernel_rfl
@[simp] theorem ty_bld121 : builderT Try.prog 121 = none := by kernel_rfl
@[simp] theorem ty_zero121 : zeroA Try.prog 121 = some [.ro (.nilp)] := by kernel_rfl
@[simp] theorem ty_size122 : sizeT Try.prog 122 = some 1 := by kernel_rfl
@[simp] theorem ty_agg122 : isAggT Try.prog 122 = false := by kernel_rfl
@[simp] theorem ty_bld122 : builderT Try.prog 122 = none := by kernel_rfl
@[simp] theorem ty_zero122 : zeroA Try.prog 122 = some [.ro (.int .i32 0)] := by kernel_rfl
@[simp] theorem ty_size123 : sizeT Try.prog 123 = some 1 := by kernel_rfl
@[simp] theorem ty_agg123 : isAggT Try.prog 123 = false := by kernel_rfl
@[simp] theorem ty_bld123 : builderT Try.prog 123 = none := by kernel_rfl
@[simp] theorem ty_zero123 : zeroA Try.prog 123 = some [.ro (.int .i32 0)] := by kernel_rfl
@[simp] theorem ty_size124 : sizeT Try.prog 124 = some 11 := by kernel_rfl
@[simp] theorem ty_agg124 : isAggT Try.prog 124 = true := by kernel_rfl
@[simp] theorem ty_bld124 : builderT Try.prog 124 = none := by kernel_rfl
@[simp] theorem ty_f124_0 : fieldAt Try.prog 124 0 = some (0, 12) := by kernel_rfl
@[simp] theorem ty_f124_1 : fieldAt Try.prog 124 1 = some (1, 12) := by kernel_rfl
@[simp] theorem ty_f124_2 : fieldAt Try.prog 124 2 = some (2, 117) := by kernel_rfl
@[simp] theorem ty_f124_3 : fieldAt Try.prog 124 3 = some (3, 118) := by kernel_rfl
@[simp] theorem ty_f124_4 : fieldAt Try.prog 124 4 = some (4, 5) := by kernel_rfl
@[simp] theorem ty_f124_5 : fieldAt Try.prog 124 5 = some (5, 5) := by kernel_rfl
@[simp] theorem ty_f124_6 : fieldAt Try.prog 124 6 = some (6, 119) := by kernel_rfl
@[simp] theorem ty_f124_7 : fieldAt Try.prog 124 7 = some (7, 120) := by kernel_rfl
@[simp] theorem ty_f124_8 : fieldAt Try.prog 124 8 = some (8, 121) := by kernel_rfl
@[simp] theorem ty_f124_9 : fieldAt Try.prog 124 9 = some (9, 122) := by kernel_rfl
@[simp] theorem ty_f124_10 : fieldAt Try.prog 124 10 = some (10, 123) := by kernel_rfl
@[simp] theorem ty_pl124 : placesOk Try.prog 124 = true := by kernel_rfl
@[simp] theorem ty_zero124 : zeroA Try.prog 124 = some [.ro (.int .u64 0), .ro (.int .u64 0), .ro (.int .u32 0), .ro (.int .u8 0), .ro (.int .u8 0), .ro (.int .u8 0), .ro (.int .u8 0), .ro (.nilf), .ro (.nilp), .ro (.int .i32 0), .ro (.int .i32 0)] := by kernel_rfl
@[simp] theorem ty_size125 : sizeT Try.prog 125 = some 11 := by kernel_rfl
@[simp] theorem ty_agg125 : isAggT Try.prog 125 = true := by kernel_rfl
@[simp] theorem ty_bld125 : builderT Try.prog 125 = none := by kernel_rfl
@[simp] theorem ty_f125_0 : fieldAt Try.prog 125 0 = some (0, 12) := by kernel_rfl
@[simp] theorem ty_f125_1 : fieldAt Try.prog 125 1 = some (1, 12) := by kernel_rfl
@[simp] theorem ty_f125_2 : fieldAt Try.prog 125 2 = some (2, 117) := by kernel_rfl
@[simp] theorem ty_f125_3 : fieldAt Try.prog 125 3 = some (3, 118) := by kernel_rfl
@[simp] theorem ty_f125_4 : fieldAt Try.prog 125 4 = some (4, 5) := by kernel_rfl
@[simp] theorem ty_f125_5 : fieldAt Try.prog 125 5 = some (5, 5) := by kernel_rfl
@[simp] theorem ty_f125_6 : fieldAt Try.prog 125 6 = some (6, 119) := by kernel_rfl
@[simp] theorem ty_f125_7 : fieldAt Try.prog 125 7 = some (7, 120) := by kernel_rfl
@[simp] theorem ty_f125_8 : fieldAt Try.prog 125 8 = some (8, 121) := by kernel_rfl
@[simp] theorem ty_f125_9 : fieldAt Try.prog 125 9 = some (9, 122) := by kernel_rfl
@[simp] theorem ty_f125_10 : fieldAt Try.prog 125 10 = some (10, 123) := by kernel_rfl
@[simp] theorem ty_pl125 : placesOk Try.prog 125 = true := by kernel_rfl
@[simp] theorem ty_zero125 : zeroA Try.prog 125 = some [.ro (.int .u64 0), .ro (.int .u64 0), .ro (.int .u32 0), .ro (.int .u8 0), .ro (.int .u8 0), .ro (.int .u8 0), .ro (.int .u8 0), .ro (.nilf), .ro (.nilp), .ro (.int .i32 0), .ro (.int .i32 0)] := by kernel_rfl
@[simp] theorem ty_size126 : sizeT Try.prog 126 = some 1 := by kernel_rfl
@[simp] theorem ty_agg126 : isAggT Try.prog 126 = false := by kernel_rfl
@[simp] theorem ty_bld126 : builderT Try.prog 126 = none := by kernel_rfl
@[simp] theorem ty_zero126 : zeroA Try.prog 126 = some [.ro (.nilp)] := by kernel_rfl
attribute [simp] Try.underlying10
attribute [simp] Try.underlying103
attribute [simp] Try.underlying108
attribute [simp] Try.underlying11
attribute [simp] Try.underlying111
attribute [simp] Try.underlying112
attribute [simp] Try.underlying113
attribute [simp] Try.underlying114
attribute [simp] Try.underlying115
attribute [simp] Try.underlying117
attribute [simp] Try.underlying118
attribute [simp] Try.underlying119
attribute [simp] Try.underlying12
attribute [simp] Try.underlying121
attribute [simp] Try.underlying122
attribute [simp] Try.underlying123
attribute [simp] Try.underlying124
attribute [simp] Try.underlying125
attribute [simp] Try.underlying126
attribute [simp] Try.underlying13
attribute [simp] Try.underlying14
attribute [simp] Try.underlying15
attribute [simp] Try.underlying16
attribute [simp] Try.underlying17
attribute [simp] Try.underlying18
attribute [simp] Try.underlying19
attribute [simp] Try.underlying2
attribute [simp] Try.underlying20
attribute [simp] Try.underlying21
attribute [simp] Try.underlying22
attribute [simp] Try.underlying25
attribute [simp] Try.underlying29
attribute [simp] Try.underlying3
attribute [simp] Try.underlying32
attribute [simp] Try.underlying36
attribute [simp] Try.underlying4
attribute [simp] Try.underlying42
attribute [simp] Try.underlying45
attribute [simp] Try.underlying46
attribute [simp] Try.underlying47
attribute [simp] Try.underlying5
attribute [simp] Try.underlying56
attribute [simp] Try.underlying57
attribute [simp] Try.underlying59
attribute [simp] Try.underlying6
attribute [simp] Try.underlying68
attribute [simp] Try.underlying7
attribute [simp] Try.underlying79
attribute [simp] Try.underlying8
attribute [simp] Try.underlying84
attribute [simp] Try.underlying85
attribute [simp] Try.underlying9
attribute [simp] Try.underlying92
attribute [simp] Try.underlying93
attribute [simp] Try.underlying95
end Go.Qz
