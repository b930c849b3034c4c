/- The evaluator of the claim and what it says, part Qm0 (several texts in one). -/
import Derived.Test.YtfikcfndmbcaoaaProg
import Derived.Test.YtfikcfndmbcaoaaQj0
import Derived.KernelRfl
/- The types of the program, as the evaluator asks of them (printed by a program of ours). -/
namespace Go.Qz
open Go.Proofs

@[simp] theorem ty_size2 : sizeT Try.prog 2 = some 1 := by kernel_rfl
@[simp] theorem ty_agg2 : isAggT Try.prog 2 = false := by kernel_rfl
@[simp] theorem ty_bld2 : builderT Try.prog 2 = none := by kernel_rfl
@[simp] theorem ty_zero2 : zeroA Try.prog 2 = some [.ro (.int .i64 0)] := by kernel_rfl
@[simp] theorem ty_size3 : sizeT Try.prog 3 = some 1 := by kernel_rfl
@[simp] theorem ty_agg3 : isAggT Try.prog 3 = false := by kernel_rfl
@[simp] theorem ty_bld3 : builderT Try.prog 3 = none := by kernel_rfl
@[simp] theorem ty_zero3 : zeroA Try.prog 3 = some [.ro (.int .i64 0)] := by kernel_rfl
@[simp] theorem ty_size4 : sizeT Try.prog 4 = some 1 := by kernel_rfl
@[simp] theorem ty_agg4 : isAggT Try.prog 4 = false := by kernel_rfl
@[simp] theorem ty_bld4 : builderT Try.prog 4 = none := by kernel_rfl
@[simp] theorem ty_zero4 : zeroA Try.prog 4 = some [.ro (.bool false)] := by kernel_rfl
@[simp] theorem ty_size5 : sizeT Try.prog 5 = some 1 := by kernel_rfl
@[simp] theorem ty_agg5 : isAggT Try.prog 5 = false := by kernel_rfl
@[simp] theorem ty_bld5 : builderT Try.prog 5 = none := by kernel_rfl
@[simp] theorem ty_zero5 : zeroA Try.prog 5 = some [.ro (.int .u8 0)] := by kernel_rfl
@[simp] theorem ty_size6 : sizeT Try.prog 6 = some 1 := by kernel_rfl
@[simp] theorem ty_agg6 : isAggT Try.prog 6 = false := by kernel_rfl
@[simp] theorem ty_bld6 : builderT Try.prog 6 = none := by kernel_rfl
@[simp] theorem ty_zero6 : zeroA Try.prog 6 = some [.ro (.int .u8 0)] := by kernel_rfl
@[simp] theorem ty_size7 : sizeT Try.prog 7 = some 4 := by kernel_rfl
@[simp] theorem ty_agg7 : isAggT Try.prog 7 = true := by kernel_rfl
@[simp] theorem ty_bld7 : builderT Try.prog 7 = none := by kernel_rfl
@[simp] theorem ty_f7_0 : fieldAt Try.prog 7 0 = some (0, 2) := by kernel_rfl
@[simp] theorem ty_f7_1 : fieldAt Try.prog 7 1 = some (1, 3) := by kernel_rfl
@[simp] theorem ty_f7_2 : fieldAt Try.prog 7 2 = some (2, 4) := by kernel_rfl
@[simp] theorem ty_f7_3 : fieldAt Try.prog 7 3 = some (3, 6) := by kernel_rfl
@[simp] theorem ty_pl7 : placesOk Try.prog 7 = true := by kernel_rfl
@[simp] theorem ty_zero7 : zeroA Try.prog 7 = some [.ro (.int .i64 0), .ro (.int .i64 0), .ro (.bool false), .ro (.int .u8 0)] := by kernel_rfl
@[simp] theorem ty_size8 : sizeT Try.prog 8 = some 4 := by kernel_rfl
@[simp] theorem ty_agg8 : isAggT Try.prog 8 = true := by kernel_rfl
@[simp] theorem ty_bld8 : builderT Try.prog 8 = none := by kernel_rfl
@[simp] theorem ty_f8_0 : fieldAt Try.prog 8 0 = some (0, 2) := by kernel_rfl
@[simp] theorem ty_f8_1 : fieldAt Try.prog 8 1 = some (1, 3) := by kernel_rfl
@[simp] theorem ty_f8_2 : fieldAt Try.prog 8 2 = some (2, 4) := by kernel_rfl
@[simp] theorem ty_f8_3 : fieldAt Try.prog 8 3 = some (3, 6) := by kernel_rfl
@[simp] theorem ty_pl8 : placesOk Try.prog 8 = true := by kernel_rfl
@[simp] theorem ty_zero8 : zeroA Try.prog 8 = some [.ro (.int .i64 0), .ro (.int .i64 0), .ro (.bool false), .ro (.int .u8 0)] := by kernel_rfl
@[simp] theorem ty_size9 : sizeT Try.prog 9 = some 1 := by kernel_rfl
@[simp] theorem ty_agg9 : isAggT Try.prog 9 = false := by kernel_rfl
@[simp] theorem ty_bld9 : builderT Try.prog 9 = none := by kernel_rfl
@[simp] theorem ty_zero9 : zeroA Try.prog 9 = some [.ro (.str ⟨#[]⟩)] := by kernel_rfl
@[simp] theorem ty_size10 : sizeT Try.prog 10 = some 1 := by kernel_rfl
@[simp] theorem ty_agg10 : isAggT Try.prog 10 = false := by kernel_rfl
@[simp] theorem ty_bld10 : builderT Try.prog 10 = none := by kernel_rfl
@[simp] theorem ty_zero10 : zeroA Try.prog 10 = some [.ro (.str ⟨#[]⟩)] := by kernel_rfl
@[simp] theorem ty_size11 : sizeT Try.prog 11 = some 1 := by kernel_rfl
@[simp] theorem ty_agg11 : isAggT Try.prog 11 = false := by kernel_rfl
@[simp] theorem ty_bld11 : builderT Try.prog 11 = none := by kernel_rfl
@[simp] theorem ty_zero11 : zeroA Try.prog 11 = some [.ro (.str ⟨#[]⟩)] := by kernel_rfl
@[simp] theorem ty_size12 : sizeT Try.prog 12 = some 1 := by kernel_rfl
@[simp] theorem ty_agg12 : isAggT Try.prog 12 = false := by kernel_rfl
@[simp] theorem ty_bld12 : builderT Try.prog 12 = none := by kernel_rfl
@[simp] theorem ty_zero12 : zeroA Try.prog 12 = some [.ro (.int .u64 0)] := by kernel_rfl
@[simp] theorem ty_size13 : sizeT Try.prog 13 = some 2 := by kernel_rfl
@[simp] theorem ty_agg13 : isAggT Try.prog 13 = true := by kernel_rfl
@[simp] theorem ty_bld13 : builderT Try.prog 13 = none := by kernel_rfl
@[simp] theorem ty_f13_0 : fieldAt Try.prog 13 0 = some (0, 9) := by kernel_rfl
@[simp] theorem ty_f13_1 : fieldAt Try.prog 13 1 = some (1, 12) := by kernel_rfl
@[simp] theorem ty_pl13 : placesOk Try.prog 13 = true := by kernel_rfl
@[simp] theorem ty_zero13 : zeroA Try.prog 13 = some [.ro (.str ⟨#[]⟩), .ro (.int .u64 0)] := by kernel_rfl
@[simp] theorem ty_size14 : sizeT Try.prog 14 = some 2 := by kernel_rfl
@[simp] theorem ty_agg14 : isAggT Try.prog 14 = true := by kernel_rfl
@[simp] theorem ty_bld14 : builderT Try.prog 14 = none := by kernel_rfl
@[simp] theorem ty_f14_0 : fieldAt Try.prog 14 0 = some (0, 9) := by kernel_rfl
@[simp] theorem ty_f14_1 : fieldAt Try.prog 14 1 = some (1, 12) := by kernel_rfl
@[simp] theorem ty_pl14 : placesOk Try.prog 14 = true := by kernel_rfl
@[simp] theorem ty_zero14 : zeroA Try.prog 14 = some [.ro (.str ⟨#[]⟩), .ro (.int .u64 0)] := by kernel_rfl
@[simp] theorem ty_size15 : sizeT Try.prog 15 = some 1 := by kernel_rfl
@[simp] theorem ty_agg15 : isAggT Try.prog 15 = false := by kernel_rfl
@[simp] theorem ty_bld15 : builderT Try.prog 15 = none := by kernel_rfl
@[simp] theorem ty_zero15 : zeroA Try.prog 15 = some [.ro (.nilp)] := by kernel_rfl
@[simp] theorem ty_size16 : sizeT Try.prog 16 = some 1 := by kernel_rfl
@[simp] theorem ty_agg16 : isAggT Try.prog 16 = false := by kernel_rfl
@[simp] theorem ty_bld16 : builderT Try.prog 16 = none := by kernel_rfl
@[simp] theorem ty_zero16 : zeroA Try.prog 16 = some [.ro (.nilp)] := by kernel_rfl
@[simp] theorem ty_size17 : sizeT Try.prog 17 = some 1 := by kernel_rfl
@[simp] theorem ty_agg17 : isAggT Try.prog 17 = false := by kernel_rfl
@[simp] theorem ty_bld17 : builderT Try.prog 17 = none := by kernel_rfl
@[simp] theorem ty_zero17 : zeroA Try.prog 17 = some [.ro (.nilp)] := by kernel_rfl
@[simp] theorem ty_size18 : sizeT Try.prog 18 = some 1 := by kernel_rfl
@[simp] theorem ty_agg18 : isAggT Try.prog 18 = true := by kernel_rfl
@[simp] theorem ty_bld18 : builderT Try.prog 18 = none := by kernel_rfl
@[simp] theorem ty_f18_0 : fieldAt Try.prog 18 0 = some (0, 17) := by kernel_rfl
@[simp] theorem ty_pl18 : placesOk Try.prog 18 = true := by kernel_rfl
@[simp] theorem ty_zero18 : zeroA Try.prog 18 = some [.ro (.nilp)] := by kernel_rfl
@[simp] theorem ty_size19 : sizeT Try.prog 19 = some 1 := by kernel_rfl
@[simp] theorem ty_agg19 : isAggT Try.prog 19 = true := by kernel_rfl
@[simp] theorem ty_bld19 : builderT Try.prog 19 = none := by kernel_rfl
@[simp] theorem ty_f19_0 : fieldAt Try.prog 19 0 = some (0, 17) := by kernel_rfl
@[simp] theorem ty_pl19 : placesOk Try.prog 19 = true := by kernel_rfl
@[simp] theorem ty_zero19 : zeroA Try.prog 19 = some [.ro (.nilp)] := by kernel_rfl
@[simp] theorem ty_size20 : sizeT Try.prog 20 = some 1 := by kernel_rfl
@[simp] theorem ty_agg20 : isAggT Try.prog 20 = false := by kernel_rfl
@[simp] theorem ty_bld20 : builderT Try.prog 20 = none := by kernel_rfl
@[simp] theorem ty_zero20 : zeroA Try.prog 20 = some [.ro (.nili)] := by kernel_rfl
@[simp] theorem ty_size21 : sizeT Try.prog 21 = some 1 := by kernel_rfl
@[simp] theorem ty_agg21 : isAggT Try.prog 21 = false := by kernel_rfl
@[simp] theorem ty_bld21 : builderT Try.prog 21 = none := by kernel_rfl
@[simp] theorem ty_zero21 : zeroA Try.prog 21 = some [.ro (.int .i32 0)] := by kernel_rfl
@[simp] theorem ty_size22 : sizeT Try.prog 22 = some 1 := by kernel_rfl
@[simp] theorem ty_agg22 : isAggT Try.prog 22 = false := by kernel_rfl
@[simp] theorem ty_bld22 : builderT Try.prog 22 = none := by kernel_rfl
@[simp] theorem ty_byte22 : byteT Try.prog 22 = none := by kernel_rfl
@[simp] theorem ty_z22 : zOf Try.prog 22 = some 2 := by kernel_rfl
@[simp] theorem ty_elem22 : elemT Try.prog 57 = some 2 := by kernel_rfl
@[simp] theorem ty_zd22 : zeroD Try.prog 57 = some (.agg [.str ⟨#[]⟩, .str ⟨#[]⟩]) := by kernel_rfl
@[simp] theorem ty_zero22 : zeroA Try.prog 22 = some [.own (.sl 2 [])] := by kernel_rfl
@[simp] theorem ty_size25 : sizeT Try.prog 25 = some 1 := by kernel_rfl
@[simp] theorem ty_agg25 : isAggT Try.prog 25 = false := by kernel_rfl
@[simp] theorem ty_bld25 : builderT Try.prog 25 = none := by kernel_rfl
@[simp] theorem ty_byte25 : byteT Try.prog 25 = none := by kernel_rfl
@[simp] theorem ty_z25 : zOf Try.prog 25 = some 2 := by kernel_rfl
@[simp] theorem ty_elem25 : elemT Try.prog 59 = some 2 := by kernel_rfl
@[simp] theorem ty_zd25 : zeroD Try.prog 59 = some (.agg [.str ⟨#[]⟩, .str ⟨#[]⟩]) := by kernel_rfl
@[simp] theorem ty_zero25 : zeroA Try.prog 25 = some [.own (.sl 2 [])] := by kernel_rfl
@[simp] theorem ty_size29 : sizeT Try.prog 29 = some 1 := by kernel_rfl
@[simp] theorem ty_agg29 : isAggT Try.prog 29 = false := by kernel_rfl
@[simp] theorem ty_bld29 : builderT Try.prog 29 = none := by kernel_rfl
@[simp] theorem ty_byte29 : byteT Try.prog 29 = none := by kernel_rfl
@[simp] theorem ty_z29 : zOf Try.prog 29 = some 2 := by kernel_rfl
@[simp] theorem ty_elem29 : elemT Try.prog 68 = some 2 := by kernel_rfl
@[simp] theorem ty_zd29 : zeroD Try.prog 68 = some (.agg [.int .i64 0, .sl 1 []]) := by kernel_rfl
@[simp] theorem ty_zero29 : zeroA Try.prog 29 = some [.own (.sl 2 [])] := by kernel_rfl
@[simp] theorem ty_size32 : sizeT Try.prog 32 = some 1 := by kernel_rfl
@[simp] theorem ty_agg32 : isAggT Try.prog 32 = false := by kernel_rfl
@[simp] theorem ty_bld32 : builderT Try.prog 32 = none := by kernel_rfl
@[simp] theorem ty_byte32 : byteT Try.prog 32 = none := by kernel_rfl
@[simp] theorem ty_z32 : zOf Try.prog 32 = some 2 := by kernel_rfl
@[simp] theorem ty_elem32 : elemT Try.prog 46 = some 2 := by kernel_rfl
@[simp] theorem ty_zd32 : zeroD Try.prog 46 = some (.agg [.int .i64 0, .sl 1 []]) := by kernel_rfl
@[simp] theorem ty_zero32 : zeroA Try.prog 32 = some [.own (.sl 2 [])] := by kernel_rfl
@[simp] theorem ty_size36 : sizeT Try.prog 36 = some 1 := by kernel_rfl
@[simp] theorem ty_agg36 : isAggT Try.prog 36 = false := by kernel_rfl
@[simp] theorem ty_bld36 : builderT Try.prog 36 = none := by kernel_rfl
@[simp] theorem ty_byte36 : byteT Try.prog 36 = none := by kernel_rfl
@[simp] theorem ty_z36 : zOf Try.prog 36 = some 1 := by kernel_rfl
@[simp] theorem ty_elem36 : elemT Try.prog 9 = some 1 := by kernel_rfl
@[simp] theorem ty_zd36 : zeroD Try.prog 9 = some (.str ⟨#[]⟩) := by kernel_rfl
@[simp] theorem ty_zero36 : zeroA Try.prog 36 = some [.own (.sl 1 [])] := by kernel_rfl
@[simp] theorem ty_size42 : sizeT Try.prog 42 = some 1 := by kernel_rfl
@[simp] theorem ty_agg42 : isAggT Try.prog 42 = false := by kernel_rfl
@[simp] theorem ty_bld42 : builderT Try.prog 42 = none := by kernel_rfl
@[simp] theorem ty_byte42 : byteT Try.prog 42 = some 5 := by kernel_rfl
@[simp] theorem ty_z42 : zOf Try.prog 42 = some 1 := by kernel_rfl
@[simp] theorem ty_elem42 : elemT Try.prog 5 = some 1 := by kernel_rfl
@[simp] theorem ty_zd42 : zeroD Try.prog 5 = some (.int .u8 0) := by kernel_rfl
@[simp] theorem ty_zero42 : zeroA Try.prog 42 = some [.own (.sl 1 [])] := by kernel_rfl
@[simp] theorem ty_size45 : sizeT Try.prog 45 = some 2 := by kernel_rfl
@[simp] theorem ty_agg45 : isAggT Try.prog 45 = true := by kernel_rfl
@[simp] theorem ty_bld45 : builderT Try.prog 45 = none := by kernel_rfl
@[simp] theorem ty_f45_0 : fieldAt Try.prog 45 0 = some (0, 3) := by kernel_rfl
@[simp] theorem ty_f45_1 : fieldAt Try.prog 45 1 = some (1, 36) := by kernel_rfl
@[simp] theorem ty_pl45 : placesOk Try.prog 45 = true := by kernel_rfl
@[simp] theorem ty_zero45 : zeroA Try.prog 45 = some [.ro (.int .i64 0), .own (.sl 1 [])] := by kernel_rfl
@[simp] theorem ty_size46 : sizeT Try.prog 46 = some 2 := by kernel_rfl
@[simp] theorem ty_agg46 : isAggT Try.prog 46 = true := by kernel_rfl
@[simp] theorem ty_bld46 : builderT Try.prog 46 = none := by kernel_rfl
@[simp] theorem ty_f46_0 : fieldAt Try.prog 46 0 = some (0, 3) := by kernel_rfl
@[simp] theorem ty_f46_1 : fieldAt Try.prog 46 1 = some (1, 36) := by kernel_rfl
@[simp] theorem ty_pl46 : placesOk Try.prog 46 = true := by kernel_rfl
@[simp] theorem ty_zero46 : zeroA Try.prog 46 = some [.ro (.int .i64 0), .own (.sl 1 [])] := by kernel_rfl
@[simp] theorem ty_size47 : sizeT Try.prog 47 = some 1 := by kernel_rfl
@[simp] theorem ty_agg47 : isAggT Try.prog 47 = false := by kernel_rfl
@[simp] theorem ty_bld47 : builderT Try.prog 47 = none := by kernel_rfl
@[simp] theorem ty_byte47 : byteT Try.prog 47 = none := by kernel_rfl
@[simp] theorem ty_z47 : zOf Try.prog 47 = some 1 := by kernel_rfl
@[simp] theorem ty_elem47 : elemT Try.prog 3 = some 1 := by kernel_rfl
@[simp] theorem ty_zd47 : zeroD Try.prog 3 = some (.int .i64 0) := by kernel_rfl
@[simp] theorem ty_zero47 : zeroA Try.prog 47 = some [.own (.sl 1 [])] := by kernel_rfl
@[simp] theorem ty_size56 : sizeT Try.prog 56 = some 2 := by kernel_rfl
@[simp] theorem ty_agg56 : isAggT Try.prog 56 = true := by kernel_rfl
@[simp] theorem ty_bld56 : builderT Try.prog 56 = none := by kernel_rfl
@[simp] theorem ty_f56_0 : fieldAt Try.prog 56 0 = some (0, 9) := by kernel_rfl
@[simp] theorem ty_f56_1 : fieldAt Try.prog 56 1 = some (1, 9) := by kernel_rfl
@[simp] theorem ty_pl56 : placesOk Try.prog 56 = true := by kernel_rfl
@[simp] theorem ty_zero56 : zeroA Try.prog 56 = some [.ro (.str ⟨#[]⟩), .ro (.str ⟨#[]⟩)] := by kernel_rfl
@[simp] theorem ty_size57 : sizeT Try.prog 57 = some 2 := by kernel_rfl
@[simp] theorem ty_agg57 : isAggT Try.prog 57 = true := by kernel_rfl
@[simp] theorem ty_bld57 : builderT Try.prog 57 = none := by kernel_rfl
@[simp] theorem ty_f57_0 : fieldAt Try.prog 57 0 = some (0, 9) := by kernel_rfl
@[simp] theorem ty_f57_1 : fieldAt Try.prog 57 1 = some (1, 9) := by kernel_rfl
@[simp] theorem ty_pl57 : placesOk Try.prog 57 = true := by kernel_rfl
@[simp] theorem ty_zero57 : zeroA Try.prog 57 = some [.ro (.str ⟨#[]⟩), .ro (.str ⟨#[]⟩)] := by kernel_rfl
@[simp] theorem ty_size59 : sizeT Try.prog 59 = some 2 := by kernel_rfl
@[simp] theorem ty_agg59 : isAggT Try.prog 59 = true := by kernel_rfl
@[simp] theorem ty_bld59 : builderT Try.prog 59 = none := by kernel_rfl
@[simp] theorem ty_f59_0 : fieldAt Try.prog 59 0 = some (0, 9) := by kernel_rfl
@[simp] theorem ty_f59_1 : fieldAt Try.prog 59 1 = some (1, 9) := by kernel_rfl
@[simp] theorem ty_pl59 : placesOk Try.prog 59 = true := by kernel_rfl
@[simp] theorem ty_zero59 : zeroA Try.prog 59 = some [.ro (.str ⟨#[]⟩), .ro (.str ⟨#[]⟩)] := by kernel_rfl
@[simp] theorem ty_size68 : sizeT Try.prog 68 = some 2 := by kernel_rfl
@[simp] theorem ty_agg68 : isAggT Try.prog 68 = true := by kernel_rfl
@[simp] theorem ty_bld68 : builderT Try.prog 68 = none := by kernel_rfl
@[simp] theorem ty_f68_0 : fieldAt Try.prog 68 0 = some (0, 3) := by kernel_rfl
@[simp] theorem ty_f68_1 : fieldAt Try.prog 68 1 = some (1, 36) := by kernel_rfl
@[simp] theorem ty_pl68 : placesOk Try.prog 68 = true := by kernel_rfl
@[simp] theorem ty_zero68 : zeroA Try.prog 68 = some [.ro (.int .i64 0), .own (.sl 1 [])] := by kernel_rfl
@[simp] theorem ty_size79 : sizeT Try.prog 79 = some 1 := by kernel_rfl
@[simp] theorem ty_agg79 : isAggT Try.prog 79 = false := by kernel_rfl
@[simp] theorem ty_bld79 : builderT Try.prog 79 = none := by kernel_rfl
@[simp] theorem ty_zero79 : zeroA Try.prog 79 = some [.ro (.nilp)] := by kernel_rfl
@[simp] theorem ty_size84 : sizeT Try.prog 84 = some 4 := by kernel_rfl
@[simp] theorem ty_agg84 : isAggT Try.prog 84 = true := by kernel_rfl
@[simp] theorem ty_bld84 : builderT Try.prog 84 = none := by kernel_rfl
@[simp] theorem ty_f84_0 : fieldAt Try.prog 84 0 = some (0, 36) := by kernel_rfl
@[simp] theorem ty_f84_1 : fieldAt Try.prog 84 1 = some (1, 3) := by kernel_rfl
@[simp] theorem ty_f84_2 : fieldAt Try.prog 84 2 = some (2, 3) := by kernel_rfl
@[simp] theorem ty_f84_3 : fieldAt Try.prog 84 3 = some (3, 47) := by kernel_rfl
@[simp] theorem ty_pl84 : placesOk Try.prog 84 = true := by kernel_rfl
@[simp] theorem ty_zero84 : zeroA Try.prog 84 = some [.own (.sl 1 []), .ro (.int .i64 0), .ro (.int .i64 0), .own (.sl 1 [])] := by kernel_rfl
@[simp] theorem ty_size85 : sizeT Try.prog 85 = some 4 := by kernel_rfl
@[simp] theorem ty_agg85 : isAggT Try.prog 85 = true := by kernel_rfl
@[simp] theorem ty_bld85 : builderT Try.prog 85 = none := by kernel_rfl
@[simp] theorem ty_f85_0 : fieldAt Try.prog 85 0 = some (0, 36) := by kernel_rfl
@[simp] theorem ty_f85_1 : fieldAt Try.prog 85 1 = some (1, 3) := by kernel_rfl
@[simp] theorem ty_f85_2 : fieldAt Try.prog 85 2 = some (2, 3) := by kernel_rfl
@[simp] theorem ty_f85_3 : fieldAt Try.prog 85 3 = some (3, 47) := by kernel_rfl
@[simp] theorem ty_pl85 : placesOk Try.prog 85 = true := by kernel_rfl
@[simp] theorem ty_zero85 : zeroA Try.prog 85 = some [.own (.sl 1 []), .ro (.int .i64 0), .ro (.int .i64 0), .own (.sl 1 [])] := by kernel_rfl
@[simp] theorem ty_size92 : sizeT Try.prog 92 = some 2 := by kernel_rfl
@[simp] theorem ty_agg92 : isAggT Try.prog 92 = true := by kernel_rfl
@[simp] theorem ty_bld92 : builderT Try.prog 92 = none := by kernel_rfl
@[simp] theorem ty_f92_0 : fieldAt Try.prog 92 0 = some (0, 42) := by kernel_rfl
@[simp] theorem ty_f92_1 : fieldAt Try.prog 92 1 = some (1, 3) := by kernel_rfl
@[simp] theorem ty_pl92 : placesOk Try.prog 92 = true := by kernel_rfl
@[simp] theorem ty_zero92 : zeroA Try.prog 92 = some [.own (.sl 1 []), .ro (.int .i64 0)] := by kernel_rfl
@[simp] theorem ty_size93 : sizeT Try.prog 93 = some 2 := by kernel_rfl
@[simp] theorem ty_agg93 : isAggT Try.prog 93 = true := by kernel_rfl
@[simp] theorem ty_bld93 : builderT Try.prog 93 = none := by kernel_rfl
@[simp] theorem ty_f93_0 : fieldAt Try.prog 93 0 = some (0, 42) := by kernel_rfl
@[simp] theorem ty_f93_1 : fieldAt Try.prog 93 1 = some (1, 3) := by kernel_rfl
@[simp] theorem ty_pl93 : placesOk Try.prog 93 = true := by kernel_rfl
@[simp] theorem ty_zero93 : zeroA Try.prog 93 = some [.own (.sl 1 []), .ro (.int .i64 0)] := by kernel_rfl
@[simp] theorem ty_size95 : sizeT Try.prog 95 = some 1 := by kernel_rfl
@[simp] theorem ty_agg95 : isAggT Try.prog 95 = false := by kernel_rfl
@[simp] theorem ty_bld95 : builderT Try.prog 95 = none := by kernel_rfl
@[simp] theorem ty_zero95 : zeroA Try.prog 95 = some [.ro (.nilp)] := by kernel_rfl
@[simp] theorem ty_size103 : sizeT Try.prog 103 = some 2 := by kernel_rfl
@[simp] theorem ty_agg103 : isAggT Try.prog 103 = true := by kernel_rfl
@[simp] theorem ty_bld103 : builderT Try.prog 103 = none := by kernel_rfl
@[simp] theorem ty_zero103 : zeroA Try.prog 103 = some [.ro (.int .i64 0), .ro (.int .i64 0)] := by kernel_rfl
@[simp] theorem ty_size108 : sizeT Try.prog 108 = some 1 := by kernel_rfl
@[simp] theorem ty_agg108 : isAggT Try.prog 108 = false := by kernel_rfl
@[simp] theorem ty_bld108 : builderT Try.prog 108 = none := by kernel_rfl
@[simp] theorem ty_zero108 : zeroA Try.prog 108 = some [.ro (.nilp)] := by kernel_rfl
@[simp] theorem ty_size111 : sizeT Try.prog 111 = some 4 := by kernel_rfl
@[simp] theorem ty_agg111 : isAggT Try.prog 111 = true := by kernel_rfl
@[simp] theorem ty_bld111 : builderT Try.prog 111 = none := by kernel_rfl
@[simp] theorem ty_f111_0 : fieldAt Try.prog 111 0 = some (0, 17) := by kernel_rfl
@[simp] theorem ty_f111_1 : fieldAt Try.prog 111 1 = some (1, 17) := by kernel_rfl
@[simp] theorem ty_f111_2 : fieldAt Try.prog 111 2 = some (2, 17) := by kernel_rfl
@[simp] theorem ty_f111_3 : fieldAt Try.prog 111 3 = some (3, 9) := by kernel_rfl
@[simp] theorem ty_pl111 : placesOk Try.prog 111 = true := by kernel_rfl
@[simp] theorem ty_zero111 : zeroA Try.prog 111 = some [.ro (.nilp), .ro (.nilp), .ro (.nilp), .ro (.str ⟨#[]⟩)] := by kernel_rfl
@[simp] theorem ty_size112 : sizeT Try.prog 112 = some 4 := by kernel_rfl
@[simp] theorem ty_agg112 : isAggT Try.prog 112 = true := by kernel_rfl
@[simp] theorem ty_bld112 : builderT Try.prog 112 = none := by kernel_rfl
@[simp] theorem ty_f112_0 : fieldAt Try.prog 112 0 = some (0, 17) := by kernel_rfl
@[simp] theorem ty_f112_1 : fieldAt Try.prog 112 1 = some (1, 17) := by kernel_rfl
@[simp] theorem ty_f112_2 : fieldAt Try.prog 112 2 = some (2, 17) := by kernel_rfl
@[simp] theorem ty_f112_3 : fieldAt Try.prog 112 3 = some (3, 9) := by kernel_rfl
@[simp] theorem ty_pl112 : placesOk Try.prog 112 = true := by kernel_rfl
@[simp] theorem ty_zero112 : zeroA Try.prog 112 = some [.ro (.nilp), .ro (.nilp), .ro (.nilp), .ro (.str ⟨#[]⟩)] := by kernel_rfl
@[simp] theorem ty_size113 : sizeT Try.prog 113 = some 0 := by kernel_rfl
@[simp] theorem ty_agg113 : isAggT Try.prog 113 = true := by kernel_rfl
@[simp] theorem ty_bld113 : builderT Try.prog 113 = none := by kernel_rfl
@[simp] theorem ty_zero113 : zeroA Try.prog 113 = some [] := by kernel_rfl
@[simp] theorem ty_size114 : sizeT Try.prog 114 = some 0 := by kernel_rfl
@[simp] theorem ty_agg114 : isAggT Try.prog 114 = true := by kernel_rfl
@[simp] theorem ty_bld114 : builderT Try.prog 114 = none := by kernel_rfl
@[simp] theorem ty_f114_0 : fieldAt Try.prog 114 0 = some (0, 113) := by kernel_rfl
@[simp] theorem ty_pl114 : placesOk Try.prog 114 = true := by kernel_rfl
@[simp] theorem ty_zero114 : zeroA Try.prog 114 = some [] := by kernel_rfl
@[simp] theorem ty_size115 : sizeT Try.prog 115 = some 0 := by kernel_rfl
@[simp] theorem ty_agg115 : isAggT Try.prog 115 = true := by kernel_rfl
@[simp] theorem ty_bld115 : builderT Try.prog 115 = none := by kernel_rfl
@[simp] theorem ty_f115_0 : fieldAt Try.prog 115 0 = some (0, 113) := by kernel_rfl
@[simp] theorem ty_pl115 : placesOk Try.prog 115 = true := by kernel_rfl
@[simp] theorem ty_zero115 : zeroA Try.prog 115 = some [] := by kernel_rfl
@[simp] theorem ty_size117 : sizeT Try.prog 117 = some 1 := by kernel_rfl
@[simp] theorem ty_agg117 : isAggT Try.prog 117 = false := by kernel_rfl
@[simp] theorem ty_bld117 : builderT Try.prog 117 = none := by kernel_rfl
@[simp] theorem ty_zero117 : zeroA Try.prog 117 = some [.ro (.int .u32 0)] := by kernel_rfl
@[simp] theorem ty_size118 : sizeT Try.prog 118 = some 1 := by kernel_rfl
@[simp] theorem ty_agg118 : isAggT Try.prog 118 = false := by kernel_rfl
@[simp] theorem ty_bld118 : builderT Try.prog 118 = none := by kernel_rfl
@[simp] theorem ty_zero118 : zeroA Try.prog 118 = some [.ro (.int .u8 0)] := by kernel_rfl
@[simp] theorem ty_size119 : sizeT Try.prog 119 = some 1 := by kernel_rfl
@[simp] theorem ty_agg119 : isAggT Try.prog 119 = false := by kernel_rfl
@[simp] theorem ty_bld119 : builderT Try.prog 119 = none := by kernel_rfl
@[simp] theorem ty_zero119 : zeroA Try.prog 119 = some [.ro (.int .u8 0)] := by kernel_rfl
@[simp] theorem ty_size121 : sizeT Try.prog 121 = some 1 := by kernel_rfl
@[simp] theorem ty_agg121 : isAggT Try.prog 121 = false := by kernel_rfl
@[simp] theorem ty_bld121 : builderT Try.prog 121 = none := by kernel_rfl
@[simp] theorem ty_zero121 : zeroA Try.prog 121 = some [.ro (.nilp)] := by kernel_rfl
@[simp] theorem ty_size122 : sizeT Try.prog 122 = some 1 := by kernel_rfl
@[simp] theorem ty_agg122 : isAggT Try.prog 122 = false := by kernel_rfl
@[simp] theorem ty_bld122 : builderT Try.prog 122 = none := by kernel_rfl
@[simp] theorem ty_zero122 : zeroA Try.prog 122 = some [.ro (.int .i32 0)] := by kernel_rfl
@[simp] theorem ty_size123 : sizeT Try.prog 123 = some 1 := by kernel_rfl
@[simp] theorem ty_agg123 : isAggT Try.prog 123 = false := by kernel_rfl
@[simp] theorem ty_bld123 : builderT Try.prog 123 = none := by kernel_rfl
@[simp] theorem ty_zero123 : zeroA Try.prog 123 = some [.ro (.int .i32 0)] := by kernel_rfl
@[simp] theorem ty_size124 : sizeT Try.prog 124 = some 11 := by kernel_rfl
@[simp] theorem ty_agg124 : isAggT Try.prog 124 = true := by kernel_rfl
@[simp] theorem ty_bld124 : builderT Try.prog 124 = none := by kernel_rfl
@[simp] theorem ty_f124_0 : fieldAt Try.prog 124 0 = some (0, 12) := by kernel_rfl
@[simp] theorem ty_f124_1 : fieldAt Try.prog 124 1 = some (1, 12) := by kernel_rfl
@[simp] theorem ty_f124_2 : fieldAt Try.prog 124 2 = some (2, 117) := by kernel_rfl
@[simp] theorem ty_f124_3 : fieldAt Try.prog 124 3 = some (3, 118) := by kernel_rfl
@[simp] theorem ty_f124_4 : fieldAt Try.prog 124 4 = some (4, 5) := by kernel_rfl
@[simp] theorem ty_f124_5 : fieldAt Try.prog 124 5 = some (5, 5) := by kernel_rfl
@[simp] theorem ty_f124_6 : fieldAt Try.prog 124 6 = some (6, 119) := by kernel_rfl
@[simp] theorem ty_f124_7 : fieldAt Try.prog 124 7 = some (7, 120) := by kernel_rfl
@[simp] theorem ty_f124_8 : fieldAt Try.prog 124 8 = some (8, 121) := by kernel_rfl
@[simp] theorem ty_f124_9 : fieldAt Try.prog 124 9 = some (9, 122) := by kernel_rfl
@[simp] theorem ty_f124_10 : fieldAt Try.prog 124 10 = some (10, 123) := by kernel_rfl
@[simp] theorem ty_pl124 : placesOk Try.prog 124 = true := by kernel_rfl
@[simp] theorem ty_zero124 : zeroA Try.prog 124 = some [.ro (.int .u64 0), .ro (.int .u64 0), .ro (.int .u32 0), .ro (.int .u8 0), .ro (.int .u8 0), .ro (.int .u8 0), .ro (.int .u8 0), .ro (.nilf), .ro (.nilp), .ro (.int .i32 0), .ro (.int .i32 0)] := by kernel_rfl
@[simp] theorem ty_size125 : sizeT Try.prog 125 = some 11 := by kernel_rfl
@[simp] theorem ty_agg125 : isAggT Try.prog 125 = true := by kernel_rfl
@[simp] theorem ty_bld125 : builderT Try.prog 125 = none := by kernel_rfl
@[simp] theorem ty_f125_0 : fieldAt Try.prog 125 0 = some (0, 12) := by kernel_rfl
@[simp] theorem ty_f125_1 : fieldAt Try.prog 125 1 = some (1, 12) := by kernel_rfl
@[simp] theorem ty_f125_2 : fieldAt Try.prog 125 2 = some (2, 117) := by kernel_rfl
@[simp] theorem ty_f125_3 : fieldAt Try.prog 125 3 = some (3, 118) := by kernel_rfl
@[simp] theorem ty_f125_4 : fieldAt Try.prog 125 4 = some (4, 5) := by kernel_rfl
@[simp] theorem ty_f125_5 : fieldAt Try.prog 125 5 = some (5, 5) := by kernel_rfl
@[simp] theorem ty_f125_6 : fieldAt Try.prog 125 6 = some (6, 119) := by kernel_rfl
@[simp] theorem ty_f125_7 : fieldAt Try.prog 125 7 = some (7, 120) := by kernel_rfl
@[simp] theorem ty_f125_8 : fieldAt Try.prog 125 8 = some (8, 121) := by kernel_rfl
@[simp] theorem ty_f125_9 : fieldAt Try.prog 125 9 = some (9, 122) := by kernel_rfl
@[simp] theorem ty_f125_10 : fieldAt Try.prog 125 10 = some (10, 123) := by kernel_rfl
@[simp] theorem ty_pl125 : placesOk Try.prog 125 = true := by kernel_rfl
@[simp] theorem ty_zero125 : zeroA Try.prog 125 = some [.ro (.int .u64 0), .ro (.int .u64 0), .ro (.int .u32 0), .ro (.int .u8 0), .ro (.int .u8 0), .ro (.int .u8 0), .ro (.int .u8 0), .ro (.nilf), .ro (.nilp), .ro (.int .i32 0), .ro (.int .i32 0)] := by kernel_rfl
@[simp] theorem ty_size126 : sizeT Try.prog 126 = some 1 := by kernel_rfl
@[simp] theorem ty_agg126 : isAggT Try.prog 126 = false := by kernel_rfl
@[simp] theorem ty_bld126 : builderT Try.prog 126 = none := by kernel_rfl
@[simp] theorem ty_zero126 : zeroA Try.prog 126 = some [.ro (.nilp)] := by kernel_rfl
attribute [simp] Try.underlying10
attribute [simp] Try.underlying103
attribute [simp] Try.underlying108
attribute [simp] Try.underlying11
attribute [simp] Try.underlying111
attribute [simp] Try.underlying112
attribute [simp] Try.underlying113
attribute [simp] Try.underlying114
attribute [simp] Try.underlying115
attribute [simp] Try.underlying117
attribute [simp] Try.underlying118
attribute [simp] Try.underlying119
attribute [simp] Try.underlying12
attribute [simp] Try.underlying121
attribute [simp] Try.underlying122
attribute [simp] Try.underlying123
attribute [simp] Try.underlying124
attribute [simp] Try.underlying125
attribute [simp] Try.underlying126
attribute [simp] Try.underlying13
attribute [simp] Try.underlying14
attribute [simp] Try.underlying15
attribute [simp] Try.underlying16
attribute [simp] Try.underlying17
attribute [simp] Try.underlying18
attribute [simp] Try.underlying19
attribute [simp] Try.underlying2
attribute [simp] Try.underlying20
attribute [simp] Try.underlying21
attribute [simp] Try.underlying22
attribute [simp] Try.underlying25
attribute [simp] Try.underlying29
attribute [simp] Try.underlying3
attribute [simp] Try.underlying32
attribute [simp] Try.underlying36
attribute [simp] Try.underlying4
attribute [simp] Try.underlying42
attribute [simp] Try.underlying45
attribute [simp] Try.underlying46
attribute [simp] Try.underlying47
attribute [simp] Try.underlying5
attribute [simp] Try.underlying56
attribute [simp] Try.underlying57
attribute [simp] Try.underlying59
attribute [simp] Try.underlying6
attribute [simp] Try.underlying68
attribute [simp] Try.underlying7
attribute [simp] Try.underlying79
attribute [simp] Try.underlying8
attribute [simp] Try.underlying84
attribute [simp] Try.underlying85
attribute [simp] Try.underlying9
attribute [simp] Try.underlying92
attribute [simp] Try.underlying93
attribute [simp] Try.underlying95
end Go.Qz

/- The functions of the program in short (printed by a program of ours). -/
namespace Go.Qz
open Go.Proofs
theorem run_is {q r : QCode} (h : q = r) (c : Ctx) (e : Env) (ks : List Fr) : Run c q e ks = Run c r e ks := h ▸ rfl
/-! 4 w_FnExactHunksOk -/
abbrev fn_w_FnExactHunksOk : FuncId := 4
def q_w_FnExactHunksOk_c0 : QCode := .seq (.ops [⟨some 2, .assign (.const (.bool true)), 4, none⟩]) (.ret)
@[simp] theorem q_w_FnExactHunksOk_c0_run : type_of% (run_is q_w_FnExactHunksOk_c0.eq_1) := run_is q_w_FnExactHunksOk_c0.eq_1
def q_w_FnExactHunksOk_c1 : QCode := .seq (.seq (.ops [⟨some 22, .move (.tmp 5), 32, none⟩, ⟨some 23, .move (.tmp 0), 29, none⟩, ⟨some 24, .call { callee := .value (.func 16), args := #[.tmp 23], argTypes := #[29] }, 32, none⟩, ⟨some 25, .call { callee := .value (.func 18), args := #[.tmp 22, .tmp 24], argTypes := #[32, 32] }, 4, none⟩, ⟨some 26, .unOp .not 4 (.tmp 25), 4, none⟩]) (.cond (.tmp 26) (.seq (.ops [⟨some 2, .assign (.const (.bool false)), 4, none⟩]) (.ret)) (.skip))) (q_w_FnExactHunksOk_c0)
@[simp] theorem q_w_FnExactHunksOk_c1_run : type_of% (run_is q_w_FnExactHunksOk_c1.eq_1) := run_is q_w_FnExactHunksOk_c1.eq_1
def q_w_FnExactHunksOk_c2 : QCode := .seq (.ops [⟨some 12, .move (.tmp 0), 29, none⟩, ⟨some 13, .call { callee := .value (.func 16), args := #[.tmp 12], argTypes := #[29] }, 32, none⟩, ⟨some 14, .call { callee := .value (.func 15), args := #[.tmp 13], argTypes := #[32] }, 4, none⟩, ⟨some 4, .assign (.tmp 14), 4, none⟩]) (.seq (.ops [⟨some 15, .move (.tmp 0), 29, none⟩, ⟨some 16, .call { callee := .value (.func 16), args := #[.tmp 15], argTypes := #[29] }, 32, none⟩, ⟨some 5, .assign (.tmp 16), 32, none⟩]) (.seq (.ops [⟨some 17, .move (.tmp 5), 32, none⟩, ⟨some 18, .call { callee := .value (.func 17), args := #[.tmp 17], argTypes := #[32] }, 4, none⟩, ⟨some 6, .assign (.tmp 18), 4, none⟩]) (.seq (.seq (.ops [⟨some 19, .move (.tmp 6), 4, none⟩, ⟨some 20, .move (.tmp 4), 4, none⟩, ⟨some 21, .binOp .neq 4 (.tmp 19) (.tmp 20) 4, 4, none⟩]) (.cond (.tmp 21) (.seq (.ops [⟨some 2, .assign (.const (.bool false)), 4, none⟩]) (.ret)) (.skip))) (q_w_FnExactHunksOk_c1))))
@[simp] theorem q_w_FnExactHunksOk_c2_run : type_of% (run_is q_w_FnExactHunksOk_c2.eq_1) := run_is q_w_FnExactHunksOk_c2.eq_1
@[simp] def q_w_FnExactHunksOk : QFn := ⟨27, [(.tmp 2, 4)], .seq (.ops [⟨some 2, .assign (.const (.bool false)), 4, none⟩]) (.seq (.ops [⟨some 3, .assign (.const (.int .i64 1048576)), 3, none⟩]) (.seq (.ops [⟨some 7, .move (.tmp 0), 29, none⟩, ⟨some 8, .move (.tmp 3), 3, none⟩, ⟨some 9, .call { callee := .value (.func 14), args := #[.tmp 7, .tmp 8], argTypes := #[29, 3] }, 3, none⟩, ⟨some 3, .assign (.tmp 9), 3, none⟩]) (.seq (.seq (.ops [⟨some 10, .move (.tmp 3), 3, none⟩, ⟨some 11, .binOp .lss 3 (.tmp 10) (.const (.int .i64 0)) 3, 4, none⟩]) (.cond (.tmp 11) (.seq (.ops [⟨some 2, .assign (.const (.bool true)), 4, none⟩]) (.ret)) (.skip))) (q_w_FnExactHunksOk_c2))))⟩
theorem conv_w_FnExactHunksOk : convF Try.f4 = some q_w_FnExactHunksOk := by kernel_rfl
/-! 5 w_FnExactDiffOf -/
abbrev fn_w_FnExactDiffOf : FuncId := 5
def q_w_FnExactDiffOf_c0 : QCode := .seq (.ops [⟨some 4, .assign (.const (.bool true)), 4, none⟩]) (.ret)
@[simp] theorem q_w_FnExactDiffOf_c0_run : type_of% (run_is q_w_FnExactDiffOf_c0.eq_1) := run_is q_w_FnExactDiffOf_c0.eq_1
def q_w_FnExactDiffOf_c1 : QCode := .seq (.seq (.ops [⟨some 89, .move (.tmp 12), 3, none⟩, ⟨some 90, .move (.tmp 11), 3, none⟩, ⟨some 91, .binOp .neq 3 (.tmp 89) (.tmp 90) 3, 4, none⟩]) (.cond (.tmp 91) (.seq (.ops [⟨some 4, .assign (.const (.bool false)), 4, none⟩]) (.ret)) (.skip))) (q_w_FnExactDiffOf_c0)
@[simp] theorem q_w_FnExactDiffOf_c1_run : type_of% (run_is q_w_FnExactDiffOf_c1.eq_1) := run_is q_w_FnExactDiffOf_c1.eq_1
def q_w_FnExactDiffOf_c2 : QCode := .seq (.ops [⟨some 12, .assign (.const (.int .i64 1)), 3, none⟩]) (.seq (.ops [⟨some 84, .move (.tmp 9), 32, none⟩, ⟨some 85, .move (.tmp 12), 3, none⟩, ⟨some 86, .call { callee := .value (.func 26), args := #[.tmp 84, .tmp 85], argTypes := #[32, 3] }, 3, none⟩, ⟨some 12, .assign (.tmp 86), 3, none⟩]) (.seq (.seq (.ops [⟨some 87, .move (.tmp 12), 3, none⟩, ⟨some 88, .binOp .lss 3 (.tmp 87) (.const (.int .i64 0)) 3, 4, none⟩]) (.cond (.tmp 88) (.seq (.ops [⟨some 4, .assign (.const (.bool false)), 4, none⟩]) (.ret)) (.skip))) (q_w_FnExactDiffOf_c1)))
@[simp] theorem q_w_FnExactDiffOf_c2_run : type_of% (run_is q_w_FnExactDiffOf_c2.eq_1) := run_is q_w_FnExactDiffOf_c2.eq_1
def q_w_FnExactDiffOf_c3 : QCode := .seq (.ops [⟨some 75, .move (.tmp 0), 36, none⟩, ⟨some 76, .call { callee := .value (.func 21), args := #[.tmp 75], argTypes := #[36] }, 36, none⟩, ⟨some 77, .move (.tmp 1), 36, none⟩, ⟨some 78, .call { callee := .value (.func 21), args := #[.tmp 77], argTypes := #[36] }, 36, none⟩, ⟨some 79, .call { callee := .value (.func 22), args := #[.tmp 76, .tmp 78], argTypes := #[36, 36] }, 32, none⟩, ⟨some 13, .assign (.tmp 79), 32, none⟩]) (.seq (.seq (.ops [⟨some 80, .move (.tmp 13), 32, none⟩, ⟨some 81, .move (.tmp 6), 32, none⟩, ⟨some 82, .call { callee := .value (.func 18), args := #[.tmp 80, .tmp 81], argTypes := #[32, 32] }, 4, none⟩, ⟨some 83, .unOp .not 4 (.tmp 82), 4, none⟩]) (.cond (.tmp 83) (.seq (.ops [⟨some 4, .assign (.const (.bool false)), 4, none⟩]) (.ret)) (.skip))) (q_w_FnExactDiffOf_c2))
@[simp] theorem q_w_FnExactDiffOf_c3_run : type_of% (run_is q_w_FnExactDiffOf_c3.eq_1) := run_is q_w_FnExactDiffOf_c3.eq_1
def q_w_FnExactDiffOf_c4 : QCode := .seq (.seq (.ops [⟨some 72, .move (.tmp 12), 3, none⟩, ⟨some 73, .move (.tmp 11), 3, none⟩, ⟨some 74, .binOp .neq 3 (.tmp 72) (.tmp 73) 3, 4, none⟩]) (.cond (.tmp 74) (.seq (.ops [⟨some 4, .assign (.const (.bool false)), 4, none⟩]) (.ret)) (.skip))) (q_w_FnExactDiffOf_c3)
@[simp] theorem q_w_FnExactDiffOf_c4_run : type_of% (run_is q_w_FnExactDiffOf_c4.eq_1) := run_is q_w_FnExactDiffOf_c4.eq_1
def q_w_FnExactDiffOf_c5 : QCode := .seq (.ops [⟨some 11, .assign (.const (.int .i64 1)), 3, none⟩]) (.seq (.ops [⟨some 64, .move (.tmp 9), 32, none⟩, ⟨some 65, .move (.tmp 11), 3, none⟩, ⟨some 66, .call { callee := .value (.func 25), args := #[.tmp 64, .tmp 65], argTypes := #[32, 3] }, 3, none⟩, ⟨some 11, .assign (.tmp 66), 3, none⟩]) (.seq (.ops [⟨some 12, .assign (.const (.int .i64 1)), 3, none⟩]) (.seq (.ops [⟨some 67, .move (.tmp 9), 32, none⟩, ⟨some 68, .move (.tmp 12), 3, none⟩, ⟨some 69, .call { callee := .value (.func 26), args := #[.tmp 67, .tmp 68], argTypes := #[32, 3] }, 3, none⟩, ⟨some 12, .assign (.tmp 69), 3, none⟩]) (.seq (.seq (.ops [⟨some 70, .move (.tmp 12), 3, none⟩, ⟨some 71, .binOp .lss 3 (.tmp 70) (.const (.int .i64 0)) 3, 4, none⟩]) (.cond (.tmp 71) (.seq (.ops [⟨some 4, .assign (.const (.bool false)), 4, none⟩]) (.ret)) (.skip))) (q_w_FnExactDiffOf_c4)))))
@[simp] theorem q_w_FnExactDiffOf_c5_run : type_of% (run_is q_w_FnExactDiffOf_c5.eq_1) := run_is q_w_FnExactDiffOf_c5.eq_1
def q_w_FnExactDiffOf_c6 : QCode := .seq (.ops [⟨some 10, .assign (.const (.int .i64 1)), 3, none⟩]) (.seq (.ops [⟨some 50, .move (.tmp 7), 36, none⟩, ⟨some 51, .move (.tmp 10), 3, none⟩, ⟨some 52, .call { callee := .value (.func 24), args := #[.tmp 50, .tmp 51], argTypes := #[36, 3] }, 3, none⟩, ⟨some 10, .assign (.tmp 52), 3, none⟩]) (.seq (.ops [⟨some 53, .move (.tmp 8), 36, none⟩, ⟨some 54, .move (.tmp 10), 3, none⟩, ⟨some 55, .call { callee := .value (.func 24), args := #[.tmp 53, .tmp 54], argTypes := #[36, 3] }, 3, none⟩, ⟨some 10, .assign (.tmp 55), 3, none⟩]) (.seq (.seq (.ops [⟨some 56, .move (.tmp 10), 3, none⟩, ⟨some 57, .binOp .lss 3 (.tmp 56) (.const (.int .i64 0)) 3, 4, none⟩, ⟨some 58, .move (.tmp 57), 4, none⟩, ⟨some 59, .move (.tmp 9), 32, some (58, false)⟩, ⟨some 60, .move (.tmp 6), 32, some (58, false)⟩, ⟨some 61, .call { callee := .value (.func 18), args := #[.tmp 59, .tmp 60], argTypes := #[32, 32] }, 4, some (58, false)⟩, ⟨some 62, .unOp .not 4 (.tmp 61), 4, some (58, false)⟩, ⟨some 63, .pick (.tmp 58) (.const (.bool true)) (.tmp 62), 4, none⟩]) (.cond (.tmp 63) (.seq (.ops [⟨some 4, .assign (.const (.bool false)), 4, none⟩]) (.ret)) (.skip))) (q_w_FnExactDiffOf_c5))))
@[simp] theorem q_w_FnExactDiffOf_c6_run : type_of% (run_is q_w_FnExactDiffOf_c6.eq_1) := run_is q_w_FnExactDiffOf_c6.eq_1
def q_w_FnExactDiffOf_c7 : QCode := .seq (.seq (.ops [⟨some 45, .move (.tmp 8), 36, none⟩, ⟨some 46, .move (.tmp 1), 36, none⟩, ⟨some 47, .call { callee := .value (.func 21), args := #[.tmp 46], argTypes := #[36] }, 36, none⟩, ⟨some 48, .call { callee := .value (.func 23), args := #[.tmp 45, .tmp 47], argTypes := #[36, 36] }, 4, none⟩, ⟨some 49, .unOp .not 4 (.tmp 48), 4, none⟩]) (.cond (.tmp 49) (.seq (.ops [⟨some 4, .assign (.const (.bool false)), 4, none⟩]) (.ret)) (.skip))) (q_w_FnExactDiffOf_c6)
@[simp] theorem q_w_FnExactDiffOf_c7_run : type_of% (run_is q_w_FnExactDiffOf_c7.eq_1) := run_is q_w_FnExactDiffOf_c7.eq_1
def q_w_FnExactDiffOf_c8 : QCode := .seq (.seq (.ops [⟨some 40, .move (.tmp 7), 36, none⟩, ⟨some 41, .move (.tmp 0), 36, none⟩, ⟨some 42, .call { callee := .value (.func 21), args := #[.tmp 41], argTypes := #[36] }, 36, none⟩, ⟨some 43, .call { callee := .value (.func 23), args := #[.tmp 40, .tmp 42], argTypes := #[36, 36] }, 4, none⟩, ⟨some 44, .unOp .not 4 (.tmp 43), 4, none⟩]) (.cond (.tmp 44) (.seq (.ops [⟨some 4, .assign (.const (.bool false)), 4, none⟩]) (.ret)) (.skip))) (q_w_FnExactDiffOf_c7)
@[simp] theorem q_w_FnExactDiffOf_c8_run : type_of% (run_is q_w_FnExactDiffOf_c8.eq_1) := run_is q_w_FnExactDiffOf_c8.eq_1
def q_w_FnExactDiffOf_c9 : QCode := .seq (.ops [⟨some 24, .move (.tmp 0), 36, none⟩, ⟨some 25, .call { callee := .value (.func 21), args := #[.tmp 24], argTypes := #[36] }, 36, none⟩, ⟨some 26, .move (.tmp 1), 36, none⟩, ⟨some 27, .call { callee := .value (.func 21), args := #[.tmp 26], argTypes := #[36] }, 36, none⟩, ⟨some 28, .call { callee := .value (.func 20), args := #[.tmp 25, .tmp 27], argTypes := #[36, 36] }, 32, none⟩, ⟨some 6, .assign (.tmp 28), 32, none⟩]) (.seq (.ops [⟨some 29, .move (.tmp 0), 36, none⟩, ⟨some 30, .call { callee := .value (.func 21), args := #[.tmp 29], argTypes := #[36] }, 36, none⟩, ⟨some 7, .assign (.tmp 30), 36, none⟩]) (.seq (.ops [⟨some 31, .move (.tmp 1), 36, none⟩, ⟨some 32, .call { callee := .value (.func 21), args := #[.tmp 31], argTypes := #[36] }, 36, none⟩, ⟨some 8, .assign (.tmp 32), 36, none⟩]) (.seq (.ops [⟨some 33, .move (.tmp 7), 36, none⟩, ⟨some 34, .move (.tmp 8), 36, none⟩, ⟨some 35, .call { callee := .value (.func 22), args := #[.tmp 33, .tmp 34], argTypes := #[36, 36] }, 32, none⟩, ⟨some 9, .assign (.tmp 35), 32, none⟩]) (.seq (.seq (.ops [⟨some 36, .move (.tmp 9), 32, none⟩, ⟨some 37, .move (.tmp 6), 32, none⟩, ⟨some 38, .call { callee := .value (.func 18), args := #[.tmp 36, .tmp 37], argTypes := #[32, 32] }, 4, none⟩, ⟨some 39, .unOp .not 4 (.tmp 38), 4, none⟩]) (.cond (.tmp 39) (.seq (.ops [⟨some 4, .assign (.const (.bool false)), 4, none⟩]) (.ret)) (.skip))) (q_w_FnExactDiffOf_c8)))))
@[simp] theorem q_w_FnExactDiffOf_c9_run : type_of% (run_is q_w_FnExactDiffOf_c9.eq_1) := run_is q_w_FnExactDiffOf_c9.eq_1
def q_w_FnExactDiffOf_c10 : QCode := .seq (.ops [⟨some 19, .move (.tmp 1), 36, none⟩, ⟨some 20, .move (.tmp 5), 3, none⟩, ⟨some 21, .call { callee := .value (.func 19), args := #[.tmp 19, .tmp 20], argTypes := #[36, 3] }, 3, none⟩, ⟨some 5, .assign (.tmp 21), 3, none⟩]) (.seq (.seq (.ops [⟨some 22, .move (.tmp 5), 3, none⟩, ⟨some 23, .binOp .lss 3 (.tmp 22) (.const (.int .i64 0)) 3, 4, none⟩]) (.cond (.tmp 23) (.seq (.ops [⟨some 4, .assign (.const (.bool true)), 4, none⟩]) (.ret)) (.skip))) (q_w_FnExactDiffOf_c9))
@[simp] theorem q_w_FnExactDiffOf_c10_run : type_of% (run_is q_w_FnExactDiffOf_c10.eq_1) := run_is q_w_FnExactDiffOf_c10.eq_1
@[simp] def q_w_FnExactDiffOf : QFn := ⟨92, [(.tmp 4, 4)], .seq (.ops [⟨some 4, .assign (.const (.bool false)), 4, none⟩]) (.seq (.ops [⟨some 5, .assign (.const (.int .i64 1048576)), 3, none⟩]) (.seq (.ops [⟨some 14, .move (.tmp 0), 36, none⟩, ⟨some 15, .move (.tmp 5), 3, none⟩, ⟨some 16, .call { callee := .value (.func 19), args := #[.tmp 14, .tmp 15], argTypes := #[36, 3] }, 3, none⟩, ⟨some 5, .assign (.tmp 16), 3, none⟩]) (.seq (.seq (.ops [⟨some 17, .move (.tmp 5), 3, none⟩, ⟨some 18, .binOp .lss 3 (.tmp 17) (.const (.int .i64 0)) 3, 4, none⟩]) (.cond (.tmp 18) (.seq (.ops [⟨some 4, .assign (.const (.bool true)), 4, none⟩]) (.ret)) (.skip))) (q_w_FnExactDiffOf_c10))))⟩
theorem conv_w_FnExactDiffOf : convF Try.f5 = some q_w_FnExactDiffOf := by kernel_rfl
/-! 6 w_FnDiffBack -/
abbrev fn_w_FnDiffBack : FuncId := 6
def q_w_FnDiffBack_c0 : QCode := .seq (.ice [8]) (.draw [⟨some 69, .move (.tmp 9), 9, none⟩, ⟨some 70, .move (.tmp 8), 9, none⟩, ⟨some 71, .slice 9 (.tmp 70) (some (.const (.int .i64 1))) none none, 9, none⟩, ⟨some 67, .fieldAddr 46 (.tmp 6) 1, 0, none⟩, ⟨some 68, .load 36 (.tmp 67), 36, none⟩, ⟨some 72, .binOp .add 9 (.tmp 69) (.tmp 71) 9, 9, none⟩, ⟨some 73, .buildSlice 36 1 #[(0, .tmp 72)], 36, none⟩] [⟨some 74, .call { callee := .builtin .append, args := #[.tmp 68, .tmp 73], argTypes := #[36, 36] }, 36, none⟩, ⟨some 75, .fieldAddr 46 (.tmp 6) 1, 0, none⟩, ⟨none, .store 36 (.tmp 75) (.tmp 74), 0, none⟩])
@[simp] theorem q_w_FnDiffBack_c0_run : type_of% (run_is q_w_FnDiffBack_c0.eq_1) := run_is q_w_FnDiffBack_c0.eq_1
def q_w_FnDiffBack_c1 : QCode := .ops [⟨some 52, .move (.tmp 7), 3, none⟩, ⟨some 53, .binOp .add 3 (.tmp 52) (.const (.int .i64 1)) 3, 3, none⟩, ⟨some 7, .assign (.tmp 53), 3, none⟩]
@[simp] theorem q_w_FnDiffBack_c1_run : type_of% (run_is q_w_FnDiffBack_c1.eq_1) := run_is q_w_FnDiffBack_c1.eq_1
def q_w_FnDiffBack_c2 : QCode := .seq (.block 1 (.seq (.ops [⟨some 54, .move (.tmp 5), 32, none⟩, ⟨some 55, .indexAddr 32 (.tmp 54) (.const (.int .i64 0)), 0, none⟩, ⟨some 56, .fieldAddr 46 (.tmp 55) 1, 0, none⟩, ⟨some 57, .load 36 (.tmp 56), 36, none⟩, ⟨some 58, .move (.tmp 7), 3, none⟩, ⟨some 59, .indexAddr 36 (.tmp 57) (.tmp 58), 0, none⟩, ⟨some 60, .load 9 (.tmp 59), 9, none⟩, ⟨some 8, .assign (.tmp 60), 9, none⟩]) (.seq (.ops [⟨some 61, .move (.tmp 8), 9, none⟩, ⟨some 62, .slice 9 (.tmp 61) none (some (.const (.int .i64 1))) none, 9, none⟩, ⟨some 9, .assign (.tmp 62), 9, none⟩]) (.seq (.seq (.ops [⟨some 63, .move (.tmp 9), 9, none⟩, ⟨some 64, .binOp .eql 9 (.tmp 63) (.const (.string { data := #[45] })) 9, 4, none⟩]) (.cond (.tmp 64) (.ops [⟨some 9, .assign (.const (.string { data := #[43] })), 9, none⟩]) (.seq (.ops [⟨some 65, .move (.tmp 9), 9, none⟩, ⟨some 66, .binOp .eql 9 (.tmp 65) (.const (.string { data := #[43] })) 9, 4, none⟩]) (.cond (.tmp 66) (.ops [⟨some 9, .assign (.const (.string { data := #[45] })), 9, none⟩]) (.skip))))) (q_w_FnDiffBack_c0))))) (q_w_FnDiffBack_c1)
@[simp] theorem q_w_FnDiffBack_c2_run : type_of% (run_is q_w_FnDiffBack_c2.eq_1) := run_is q_w_FnDiffBack_c2.eq_1
def q_w_FnDiffBack_l0 : QCode := .seq (.seq (.ops [⟨some 45, .move (.tmp 7), 3, none⟩, ⟨some 46, .move (.tmp 5), 32, none⟩, ⟨some 47, .indexAddr 32 (.tmp 46) (.const (.int .i64 0)), 0, none⟩, ⟨some 48, .fieldAddr 46 (.tmp 47) 1, 0, none⟩, ⟨some 49, .load 36 (.tmp 48), 36, none⟩, ⟨some 50, .call { callee := .builtin .len, args := #[.tmp 49], argTypes := #[36] }, 3, none⟩, ⟨some 51, .binOp .lss 3 (.tmp 45) (.tmp 50) 3, 4, none⟩]) (.cond (.tmp 51) (.skip) (.exit 0))) (q_w_FnDiffBack_c2)
@[simp] theorem q_w_FnDiffBack_l0_run : type_of% (run_is q_w_FnDiffBack_l0.eq_1) := run_is q_w_FnDiffBack_l0.eq_1
def q_w_FnDiffBack_c3 : QCode := .seq (.ops [⟨some 77, .move (.tmp 4), 36, none⟩, ⟨some 78, .load 46 (.tmp 6), 46, none⟩, ⟨some 79, .buildSlice 32 1 #[(0, .tmp 78)], 32, none⟩, ⟨some 80, .call { callee := .value (.func 29), args := #[.tmp 77, .tmp 79, .const (.int .i64 0)], argTypes := #[36, 32, 3] }, 48, none⟩, ⟨some 76, .move (.tmp 80), 48, none⟩, ⟨some 81, .extract (.tmp 76) 0, 36, none⟩, ⟨some 82, .extract (.tmp 76) 1, 47, none⟩, ⟨some 83, .extract (.tmp 76) 2, 4, none⟩, ⟨some 10, .assign (.tmp 81), 36, none⟩, ⟨some 11, .assign (.tmp 82), 47, none⟩, ⟨some 12, .assign (.tmp 83), 4, none⟩]) (.seq (.ops [⟨some 84, .move (.tmp 12), 4, none⟩, ⟨some 85, .move (.tmp 84), 4, none⟩, ⟨some 86, .move (.tmp 10), 36, some (85, true)⟩, ⟨some 87, .move (.tmp 3), 36, some (85, true)⟩, ⟨some 88, .call { callee := .value (.func 30), args := #[.tmp 86, .tmp 87], argTypes := #[36, 36] }, 4, some (85, true)⟩, ⟨some 89, .pick (.tmp 85) (.tmp 88) (.const (.bool false)), 4, none⟩, ⟨some 2, .assign (.tmp 89), 4, none⟩]) (.ret))
@[simp] theorem q_w_FnDiffBack_c3_run : type_of% (run_is q_w_FnDiffBack_c3.eq_1) := run_is q_w_FnDiffBack_c3.eq_1
def q_w_FnDiffBack_c4 : QCode := .seq (.ops [⟨some 40, .move (.tmp 5), 32, none⟩, ⟨some 41, .indexAddr 32 (.tmp 40) (.const (.int .i64 0)), 0, none⟩, ⟨some 42, .fieldAddr 46 (.tmp 41) 0, 0, none⟩, ⟨some 43, .load 3 (.tmp 42), 3, none⟩, ⟨some 44, .build 46 #[(0, .tmp 43)], 46, none⟩, ⟨some 6, .alloc 46, 0, none⟩, ⟨none, .store 46 (.tmp 6) (.tmp 44), 0, none⟩]) (.seq (.seq (.ops [⟨some 7, .assign (.const (.int .i64 0)), 3, none⟩]) (.block 0 (.loop q_w_FnDiffBack_l0))) (q_w_FnDiffBack_c3))
@[simp] theorem q_w_FnDiffBack_c4_run : type_of% (run_is q_w_FnDiffBack_c4.eq_1) := run_is q_w_FnDiffBack_c4.eq_1
def q_w_FnDiffBack_c5 : QCode := .seq (.ops [⟨some 17, .move (.tmp 0), 42, none⟩, ⟨some 18, .call { callee := .value (.func 27), args := #[.tmp 17], argTypes := #[42] }, 43, none⟩, ⟨some 16, .move (.tmp 18), 43, none⟩, ⟨some 19, .extract (.tmp 16) 0, 36, none⟩, ⟨some 20, .extract (.tmp 16) 1, 36, none⟩, ⟨some 3, .assign (.tmp 19), 36, none⟩, ⟨some 4, .assign (.tmp 20), 36, none⟩]) (.seq (.ops [⟨some 21, .move (.tmp 3), 36, none⟩, ⟨some 22, .move (.tmp 4), 36, none⟩, ⟨some 23, .call { callee := .value (.func 22), args := #[.tmp 21, .tmp 22], argTypes := #[36, 36] }, 32, none⟩, ⟨some 5, .assign (.tmp 23), 32, none⟩]) (.seq (.seq (.ops [⟨some 24, .move (.tmp 5), 32, none⟩, ⟨some 25, .move (.tmp 3), 36, none⟩, ⟨some 26, .move (.tmp 4), 36, none⟩, ⟨some 27, .call { callee := .value (.func 20), args := #[.tmp 25, .tmp 26], argTypes := #[36, 36] }, 32, none⟩, ⟨some 28, .call { callee := .value (.func 28), args := #[.tmp 24, .tmp 27], argTypes := #[32, 32] }, 4, none⟩, ⟨some 29, .unOp .not 4 (.tmp 28), 4, none⟩, ⟨some 30, .move (.tmp 29), 4, none⟩, ⟨some 31, .move (.tmp 5), 32, some (30, false)⟩, ⟨some 32, .call { callee := .builtin .len, args := #[.tmp 31], argTypes := #[32] }, 3, some (30, false)⟩, ⟨some 33, .binOp .eql 3 (.tmp 32) (.const (.int .i64 0)) 3, 4, some (30, false)⟩, ⟨some 34, .pick (.tmp 30) (.const (.bool true)) (.tmp 33), 4, none⟩]) (.cond (.tmp 34) (.seq (.ops [⟨some 35, .move (.tmp 5), 32, none⟩, ⟨some 36, .move (.tmp 3), 36, none⟩, ⟨some 37, .move (.tmp 4), 36, none⟩, ⟨some 38, .call { callee := .value (.func 20), args := #[.tmp 36, .tmp 37], argTypes := #[36, 36] }, 32, none⟩, ⟨some 39, .call { callee := .value (.func 28), args := #[.tmp 35, .tmp 38], argTypes := #[32, 32] }, 4, none⟩, ⟨some 2, .assign (.tmp 39), 4, none⟩]) (.ret)) (.skip))) (q_w_FnDiffBack_c4)))
@[simp] theorem q_w_FnDiffBack_c5_run : type_of% (run_is q_w_FnDiffBack_c5.eq_1) := run_is q_w_FnDiffBack_c5.eq_1
@[simp] def q_w_FnDiffBack : QFn := ⟨90, [(.tmp 2, 4)], .seq (.ops [⟨some 2, .assign (.const (.bool false)), 4, none⟩]) (.seq (.seq (.ops [⟨some 13, .move (.tmp 0), 42, none⟩, ⟨some 14, .call { callee := .builtin .len, args := #[.tmp 13], argTypes := #[42] }, 3, none⟩, ⟨some 15, .binOp .gtr 3 (.tmp 14) (.const (.int .i64 1048576)) 3, 4, none⟩]) (.cond (.tmp 15) (.seq (.ops [⟨some 2, .assign (.const (.bool true)), 4, none⟩]) (.ret)) (.skip))) (q_w_FnDiffBack_c5))⟩
theorem conv_w_FnDiffBack : convF Try.f6 = some q_w_FnDiffBack := by kernel_rfl
/-! 7 w_FnPatchLater -/
abbrev fn_w_FnPatchLater : FuncId := 7
def q_w_FnPatchLater_c0 : QCode := .ops [⟨some 69, .move (.tmp 10), 3, none⟩, ⟨some 70, .binOp .add 3 (.tmp 69) (.const (.int .i64 1)) 3, 3, none⟩, ⟨some 10, .assign (.tmp 70), 3, none⟩]
@[simp] theorem q_w_FnPatchLater_c0_run : type_of% (run_is q_w_FnPatchLater_c0.eq_1) := run_is q_w_FnPatchLater_c0.eq_1
def q_w_FnPatchLater_c1 : QCode := .seq (.block 1 (.ops [⟨some 71, .move (.tmp 9), 36, none⟩, ⟨some 72, .buildSlice 36 1 #[(0, .const (.string { data := #[110, 111, 98, 111, 100, 121, 32, 104, 97, 115, 32, 116, 104, 105, 115, 32, 108, 105, 110, 101] }))], 36, none⟩, ⟨some 73, .call { callee := .builtin .append, args := #[.tmp 71, .tmp 72], argTypes := #[36, 36] }, 36, none⟩, ⟨some 9, .assign (.tmp 73), 36, none⟩])) (q_w_FnPatchLater_c0)
@[simp] theorem q_w_FnPatchLater_c1_run : type_of% (run_is q_w_FnPatchLater_c1.eq_1) := run_is q_w_FnPatchLater_c1.eq_1
def q_w_FnPatchLater_l0 : QCode := .seq (.seq (.ops [⟨some 66, .move (.tmp 10), 3, none⟩, ⟨some 67, .move (.tmp 8), 3, none⟩, ⟨some 68, .binOp .lss 3 (.tmp 66) (.tmp 67) 3, 4, none⟩]) (.cond (.tmp 68) (.skip) (.exit 0))) (q_w_FnPatchLater_c1)
@[simp] theorem q_w_FnPatchLater_l0_run : type_of% (run_is q_w_FnPatchLater_l0.eq_1) := run_is q_w_FnPatchLater_l0.eq_1
def q_w_FnPatchLater_c2 : QCode := .ops [⟨some 92, .move (.tmp 15), 3, none⟩, ⟨some 93, .binOp .add 3 (.tmp 92) (.const (.int .i64 1)) 3, 3, none⟩, ⟨some 15, .assign (.tmp 93), 3, none⟩]
@[simp] theorem q_w_FnPatchLater_c2_run : type_of% (run_is q_w_FnPatchLater_c2.eq_1) := run_is q_w_FnPatchLater_c2.eq_1
def q_w_FnPatchLater_c3 : QCode := .seq (.block 3 (.ops [⟨some 94, .move (.tmp 14), 4, none⟩, ⟨some 95, .move (.tmp 94), 4, none⟩, ⟨some 96, .move (.tmp 7), 32, some (95, false)⟩, ⟨some 97, .indexAddr 32 (.tmp 96) (.const (.int .i64 0)), 0, some (95, false)⟩, ⟨some 98, .fieldAddr 46 (.tmp 97) 1, 0, some (95, false)⟩, ⟨some 99, .load 36 (.tmp 98), 36, some (95, false)⟩, ⟨some 100, .move (.tmp 15), 3, some (95, false)⟩, ⟨some 101, .indexAddr 36 (.tmp 99) (.tmp 100), 0, some (95, false)⟩, ⟨some 102, .load 9 (.tmp 101), 9, some (95, false)⟩, ⟨some 103, .index 9 (.tmp 102) (.const (.int .i64 0)), 5, some (95, false)⟩, ⟨some 104, .binOp .neq 5 (.tmp 103) (.const (.int .u8 43)) 5, 4, some (95, false)⟩, ⟨some 105, .pick (.tmp 95) (.const (.bool true)) (.tmp 104), 4, none⟩, ⟨some 14, .assign (.tmp 105), 4, none⟩])) (q_w_FnPatchLater_c2)
@[simp] theorem q_w_FnPatchLater_c3_run : type_of% (run_is q_w_FnPatchLater_c3.eq_1) := run_is q_w_FnPatchLater_c3.eq_1
def q_w_FnPatchLater_l1 : QCode := .seq (.seq (.ops [⟨some 85, .move (.tmp 15), 3, none⟩, ⟨some 86, .move (.tmp 7), 32, none⟩, ⟨some 87, .indexAddr 32 (.tmp 86) (.const (.int .i64 0)), 0, none⟩, ⟨some 88, .fieldAddr 46 (.tmp 87) 1, 0, none⟩, ⟨some 89, .load 36 (.tmp 88), 36, none⟩, ⟨some 90, .call { callee := .builtin .len, args := #[.tmp 89], argTypes := #[36] }, 3, none⟩, ⟨some 91, .binOp .lss 3 (.tmp 85) (.tmp 90) 3, 4, none⟩]) (.cond (.tmp 91) (.skip) (.exit 2))) (q_w_FnPatchLater_c3)
@[simp] theorem q_w_FnPatchLater_l1_run : type_of% (run_is q_w_FnPatchLater_l1.eq_1) := run_is q_w_FnPatchLater_l1.eq_1
def q_w_FnPatchLater_c4 : QCode := .seq (.ops [⟨some 108, .move (.tmp 14), 4, none⟩, ⟨some 109, .unOp .not 4 (.tmp 108), 4, none⟩, ⟨some 110, .move (.tmp 109), 4, none⟩, ⟨some 111, .move (.tmp 11), 36, some (110, false)⟩, ⟨some 112, .call { callee := .builtin .len, args := #[.tmp 111], argTypes := #[36] }, 3, some (110, false)⟩, ⟨some 113, .move (.tmp 8), 3, some (110, false)⟩, ⟨some 114, .move (.tmp 6), 36, some (110, false)⟩, ⟨some 115, .call { callee := .builtin .len, args := #[.tmp 114], argTypes := #[36] }, 3, some (110, false)⟩, ⟨some 116, .binOp .add 3 (.tmp 113) (.tmp 115) 3, 3, some (110, false)⟩, ⟨some 117, .binOp .eql 3 (.tmp 112) (.tmp 116) 3, 4, some (110, false)⟩, ⟨some 118, .move (.tmp 117), 4, some (110, false)⟩, ⟨some 119, .move (.tmp 12), 47, some (118, true)⟩, ⟨some 120, .call { callee := .builtin .len, args := #[.tmp 119], argTypes := #[47] }, 3, some (118, true)⟩, ⟨some 121, .binOp .eql 3 (.tmp 120) (.const (.int .i64 1)) 3, 4, some (118, true)⟩, ⟨some 122, .pick (.tmp 118) (.tmp 121) (.const (.bool false)), 4, some (110, false)⟩, ⟨some 123, .move (.tmp 122), 4, some (110, false)⟩, ⟨some 124, .move (.tmp 12), 47, some (123, true)⟩, ⟨some 125, .indexAddr 47 (.tmp 124) (.const (.int .i64 0)), 0, some (123, true)⟩, ⟨some 126, .load 3 (.tmp 125), 3, some (123, true)⟩, ⟨some 127, .move (.tmp 8), 3, some (123, true)⟩, ⟨some 128, .binOp .leq 3 (.tmp 126) (.tmp 127) 3, 4, some (123, true)⟩, ⟨some 129, .pick (.tmp 123) (.tmp 128) (.const (.bool false)), 4, some (110, false)⟩, ⟨some 130, .pick (.tmp 110) (.const (.bool true)) (.tmp 129), 4, none⟩, ⟨some 4, .assign (.tmp 130), 4, none⟩]) (.ret)
@[simp] theorem q_w_FnPatchLater_c4_run : type_of% (run_is q_w_FnPatchLater_c4.eq_1) := run_is q_w_FnPatchLater_c4.eq_1
def q_w_FnPatchLater_c5 : QCode := .seq (.seq (.ops [⟨some 106, .move (.tmp 13), 4, none⟩, ⟨some 107, .unOp .not 4 (.tmp 106), 4, none⟩]) (.cond (.tmp 107) (.seq (.ops [⟨some 4, .assign (.const (.bool false)), 4, none⟩]) (.ret)) (.skip))) (q_w_FnPatchLater_c4)
@[simp] theorem q_w_FnPatchLater_c5_run : type_of% (run_is q_w_FnPatchLater_c5.eq_1) := run_is q_w_FnPatchLater_c5.eq_1
def q_w_FnPatchLater_c6 : QCode := .seq (.ops [⟨some 75, .buildSlice 36 0 #[], 36, none⟩, ⟨some 76, .move (.tmp 9), 36, none⟩, ⟨some 77, .call { callee := .builtin .append, args := #[.tmp 75, .tmp 76], argTypes := #[36, 36] }, 36, none⟩, ⟨some 78, .move (.tmp 5), 36, none⟩, ⟨some 79, .call { callee := .builtin .append, args := #[.tmp 77, .tmp 78], argTypes := #[36, 36] }, 36, none⟩, ⟨some 80, .move (.tmp 7), 32, none⟩, ⟨some 81, .call { callee := .value (.func 29), args := #[.tmp 79, .tmp 80, .const (.int .i64 0)], argTypes := #[36, 32, 3] }, 48, none⟩, ⟨some 74, .move (.tmp 81), 48, none⟩, ⟨some 82, .extract (.tmp 74) 0, 36, none⟩, ⟨some 83, .extract (.tmp 74) 1, 47, none⟩, ⟨some 84, .extract (.tmp 74) 2, 4, none⟩, ⟨some 11, .assign (.tmp 82), 36, none⟩, ⟨some 12, .assign (.tmp 83), 47, none⟩, ⟨some 13, .assign (.tmp 84), 4, none⟩]) (.seq (.ops [⟨some 14, .assign (.const (.bool false)), 4, none⟩]) (.seq (.seq (.ops [⟨some 15, .assign (.const (.int .i64 0)), 3, none⟩]) (.block 2 (.loop q_w_FnPatchLater_l1))) (q_w_FnPatchLater_c5)))
@[simp] theorem q_w_FnPatchLater_c6_run : type_of% (run_is q_w_FnPatchLater_c6.eq_1) := run_is q_w_FnPatchLater_c6.eq_1
def q_w_FnPatchLater_c7 : QCode := .seq (.ops [⟨some 65, .buildSlice 36 0 #[], 36, none⟩, ⟨some 9, .assign (.tmp 65), 36, none⟩]) (.seq (.seq (.ops [⟨some 10, .assign (.const (.int .i64 0)), 3, none⟩]) (.block 0 (.loop q_w_FnPatchLater_l0))) (q_w_FnPatchLater_c6))
@[simp] theorem q_w_FnPatchLater_c7_run : type_of% (run_is q_w_FnPatchLater_c7.eq_1) := run_is q_w_FnPatchLater_c7.eq_1
def q_w_FnPatchLater_c8 : QCode := .seq (.ops [⟨some 25, .move (.tmp 0), 42, none⟩, ⟨some 26, .call { callee := .value (.func 27), args := #[.tmp 25], argTypes := #[42] }, 43, none⟩, ⟨some 24, .move (.tmp 26), 43, none⟩, ⟨some 27, .extract (.tmp 24) 0, 36, none⟩, ⟨some 28, .extract (.tmp 24) 1, 36, none⟩, ⟨some 5, .assign (.tmp 27), 36, none⟩, ⟨some 6, .assign (.tmp 28), 36, none⟩]) (.seq (.ops [⟨some 29, .move (.tmp 5), 36, none⟩, ⟨some 30, .move (.tmp 6), 36, none⟩, ⟨some 31, .call { callee := .value (.func 22), args := #[.tmp 29, .tmp 30], argTypes := #[36, 36] }, 32, none⟩, ⟨some 7, .assign (.tmp 31), 32, none⟩]) (.seq (.ops [⟨some 32, .move (.tmp 1), 42, none⟩, ⟨some 33, .call { callee := .builtin .len, args := #[.tmp 32], argTypes := #[42] }, 3, none⟩, ⟨some 34, .binOp .rem 3 (.tmp 33) (.const (.int .i64 9)) 3, 3, none⟩, ⟨some 8, .assign (.tmp 34), 3, none⟩]) (.seq (.seq (.ops [⟨some 35, .move (.tmp 7), 32, none⟩, ⟨some 36, .move (.tmp 5), 36, none⟩, ⟨some 37, .move (.tmp 6), 36, none⟩, ⟨some 38, .call { callee := .value (.func 20), args := #[.tmp 36, .tmp 37], argTypes := #[36, 36] }, 32, none⟩, ⟨some 39, .call { callee := .value (.func 28), args := #[.tmp 35, .tmp 38], argTypes := #[32, 32] }, 4, none⟩, ⟨some 40, .unOp .not 4 (.tmp 39), 4, none⟩, ⟨some 41, .move (.tmp 40), 4, none⟩, ⟨some 42, .move (.tmp 7), 32, some (41, false)⟩, ⟨some 43, .call { callee := .builtin .len, args := #[.tmp 42], argTypes := #[32] }, 3, some (41, false)⟩, ⟨some 44, .binOp .eql 3 (.tmp 43) (.const (.int .i64 0)) 3, 4, some (41, false)⟩, ⟨some 45, .pick (.tmp 41) (.const (.bool true)) (.tmp 44), 4, none⟩, ⟨some 46, .move (.tmp 45), 4, none⟩, ⟨some 47, .move (.tmp 5), 36, some (46, false)⟩, ⟨some 48, .call { callee := .builtin .len, args := #[.tmp 47], argTypes := #[36] }, 3, some (46, false)⟩, ⟨some 49, .move (.tmp 8), 3, some (46, false)⟩, ⟨some 50, .binOp .add 3 (.tmp 48) (.tmp 49) 3, 3, some (46, false)⟩, ⟨some 51, .binOp .gtr 3 (.tmp 50) (.const (.int .i64 30)) 3, 4, some (46, false)⟩, ⟨some 52, .pick (.tmp 46) (.const (.bool true)) (.tmp 51), 4, none⟩, ⟨some 53, .move (.tmp 52), 4, none⟩, ⟨some 54, .move (.tmp 6), 36, some (53, false)⟩, ⟨some 55, .call { callee := .builtin .len, args := #[.tmp 54], argTypes := #[36] }, 3, some (53, false)⟩, ⟨some 56, .move (.tmp 8), 3, some (53, false)⟩, ⟨some 57, .binOp .add 3 (.tmp 55) (.tmp 56) 3, 3, some (53, false)⟩, ⟨some 58, .binOp .gtr 3 (.tmp 57) (.const (.int .i64 30)) 3, 4, some (53, false)⟩, ⟨some 59, .pick (.tmp 53) (.const (.bool true)) (.tmp 58), 4, none⟩]) (.cond (.tmp 59) (.seq (.ops [⟨some 60, .move (.tmp 7), 32, none⟩, ⟨some 61, .move (.tmp 5), 36, none⟩, ⟨some 62, .move (.tmp 6), 36, none⟩, ⟨some 63, .call { callee := .value (.func 20), args := #[.tmp 61, .tmp 62], argTypes := #[36, 36] }, 32, none⟩, ⟨some 64, .call { callee := .value (.func 28), args := #[.tmp 60, .tmp 63], argTypes := #[32, 32] }, 4, none⟩, ⟨some 4, .assign (.tmp 64), 4, none⟩]) (.ret)) (.skip))) (q_w_FnPatchLater_c7))))
@[simp] theorem q_w_FnPatchLater_c8_run : type_of% (run_is q_w_FnPatchLater_c8.eq_1) := run_is q_w_FnPatchLater_c8.eq_1
@[simp] def q_w_FnPatchLater : QFn := ⟨131, [(.tmp 4, 4)], .seq (.ops [⟨some 4, .assign (.const (.bool false)), 4, none⟩]) (.seq (.seq (.ops [⟨some 16, .move (.tmp 0), 42, none⟩, ⟨some 17, .call { callee := .builtin .len, args := #[.tmp 16], argTypes := #[42] }, 3, none⟩, ⟨some 18, .binOp .gtr 3 (.tmp 17) (.const (.int .i64 1048576)) 3, 4, none⟩, ⟨some 19, .move (.tmp 18), 4, none⟩, ⟨some 20, .move (.tmp 1), 42, some (19, false)⟩, ⟨some 21, .call { callee := .builtin .len, args := #[.tmp 20], argTypes := #[42] }, 3, some (19, false)⟩, ⟨some 22, .binOp .gtr 3 (.tmp 21) (.const (.int .i64 1048576)) 3, 4, some (19, false)⟩, ⟨some 23, .pick (.tmp 19) (.const (.bool true)) (.tmp 22), 4, none⟩]) (.cond (.tmp 23) (.seq (.ops [⟨some 4, .assign (.const (.bool true)), 4, none⟩]) (.ret)) (.skip))) (q_w_FnPatchLater_c8))⟩
theorem conv_w_FnPatchLater : convF Try.f7 = some q_w_FnPatchLater := by kernel_rfl
/-! 14 w_szHunkS -/
abbrev fn_w_szHunkS : FuncId := 14
def q_w_szHunkS_c0 : QCode := .ops [⟨some 16, .move (.tmp 5), 3, none⟩, ⟨some 17, .binOp .add 3 (.tmp 16) (.const (.int .i64 1)) 3, 3, none⟩, ⟨some 5, .assign (.tmp 17), 3, none⟩]
@[simp] theorem q_w_szHunkS_c0_run : type_of% (run_is q_w_szHunkS_c0.eq_1) := run_is q_w_szHunkS_c0.eq_1
def q_w_szHunkS_c1 : QCode := .seq (.block 1 (.seq (.ops [⟨some 18, .move (.tmp 0), 29, none⟩, ⟨some 19, .move (.tmp 5), 3, none⟩, ⟨some 20, .indexAddr 29 (.tmp 18) (.tmp 19), 0, none⟩, ⟨some 21, .load 68 (.tmp 20), 68, none⟩, ⟨some 22, .move (.tmp 1), 3, none⟩, ⟨some 23, .call { callee := .value (.func 46), args := #[.tmp 21, .tmp 22], argTypes := #[68, 3] }, 3, none⟩, ⟨some 1, .assign (.tmp 23), 3, none⟩]) (.seq (.ops [⟨some 24, .move (.tmp 1), 3, none⟩, ⟨some 25, .binOp .lss 3 (.tmp 24) (.const (.int .i64 0)) 3, 4, none⟩]) (.cond (.tmp 25) (.seq (.ops [⟨some 4, .assign (.const (.int .i64 (-1))), 3, none⟩]) (.ret)) (.skip))))) (q_w_szHunkS_c0)
@[simp] theorem q_w_szHunkS_c1_run : type_of% (run_is q_w_szHunkS_c1.eq_1) := run_is q_w_szHunkS_c1.eq_1
def q_w_szHunkS_l0 : QCode := .seq (.seq (.ops [⟨some 12, .move (.tmp 5), 3, none⟩, ⟨some 13, .move (.tmp 0), 29, none⟩, ⟨some 14, .call { callee := .builtin .len, args := #[.tmp 13], argTypes := #[29] }, 3, none⟩, ⟨some 15, .binOp .lss 3 (.tmp 12) (.tmp 14) 3, 4, none⟩]) (.cond (.tmp 15) (.skip) (.exit 0))) (q_w_szHunkS_c1)
@[simp] theorem q_w_szHunkS_l0_run : type_of% (run_is q_w_szHunkS_l0.eq_1) := run_is q_w_szHunkS_l0.eq_1
def q_w_szHunkS_c2 : QCode := .seq (.ops [⟨some 26, .move (.tmp 1), 3, none⟩, ⟨some 4, .assign (.tmp 26), 3, none⟩]) (.ret)
@[simp] theorem q_w_szHunkS_c2_run : type_of% (run_is q_w_szHunkS_c2.eq_1) := run_is q_w_szHunkS_c2.eq_1
def q_w_szHunkS_c3 : QCode := .seq (.seq (.ops [⟨some 5, .assign (.const (.int .i64 0)), 3, none⟩]) (.block 0 (.loop q_w_szHunkS_l0))) (q_w_szHunkS_c2)
@[simp] theorem q_w_szHunkS_c3_run : type_of% (run_is q_w_szHunkS_c3.eq_1) := run_is q_w_szHunkS_c3.eq_1
@[simp] def q_w_szHunkS : QFn := ⟨27, [(.tmp 4, 3)], .seq (.ops [⟨some 4, .assign (.const (.int .i64 0)), 3, none⟩]) (.seq (.ops [⟨some 6, .move (.tmp 1), 3, none⟩, ⟨some 7, .move (.tmp 0), 29, none⟩, ⟨some 8, .call { callee := .builtin .len, args := #[.tmp 7], argTypes := #[29] }, 3, none⟩, ⟨some 9, .binOp .sub 3 (.tmp 6) (.tmp 8) 3, 3, none⟩, ⟨some 1, .assign (.tmp 9), 3, none⟩]) (.seq (.seq (.ops [⟨some 10, .move (.tmp 1), 3, none⟩, ⟨some 11, .binOp .lss 3 (.tmp 10) (.const (.int .i64 0)) 3, 4, none⟩]) (.cond (.tmp 11) (.seq (.ops [⟨some 4, .assign (.const (.int .i64 (-1))), 3, none⟩]) (.ret)) (.skip))) (q_w_szHunkS_c3)))⟩
theorem conv_w_szHunkS : convF Try.f14 = some q_w_szHunkS := by kernel_rfl
/-! 15 s_HunksOk -/
abbrev fn_s_HunksOk : FuncId := 15
def q_s_HunksOk_c0 : QCode := .ops [⟨some 8, .move (.tmp 3), 3, none⟩, ⟨some 9, .binOp .add 3 (.tmp 8) (.const (.int .i64 1)) 3, 3, none⟩, ⟨some 3, .assign (.tmp 9), 3, none⟩]
@[simp] theorem q_s_HunksOk_c0_run : type_of% (run_is q_s_HunksOk_c0.eq_1) := run_is q_s_HunksOk_c0.eq_1
def q_s_HunksOk_c1 : QCode := .seq (.block 1 (.seq (.draw [⟨some 10, .move (.tmp 0), 32, none⟩, ⟨some 11, .move (.tmp 3), 3, none⟩, ⟨some 12, .indexAddr 32 (.tmp 10) (.tmp 11), 0, none⟩, ⟨some 13, .load 46 (.tmp 12), 46, none⟩, ⟨some 14, .call { callee := .value (.func 47), args := #[.tmp 13], argTypes := #[46] }, 4, none⟩, ⟨some 15, .unOp .not 4 (.tmp 14), 4, none⟩, ⟨some 16, .move (.tmp 15), 4, none⟩, ⟨some 17, .move (.tmp 3), 3, some (16, false)⟩, ⟨some 18, .binOp .gtr 3 (.tmp 17) (.const (.int .i64 0)) 3, 4, some (16, false)⟩, ⟨some 19, .move (.tmp 18), 4, some (16, false)⟩, ⟨some 20, .move (.tmp 0), 32, some (19, true)⟩, ⟨some 21, .move (.tmp 3), 3, some (19, true)⟩, ⟨some 22, .indexAddr 32 (.tmp 20) (.tmp 21), 0, some (19, true)⟩, ⟨some 23, .fieldAddr 46 (.tmp 22) 0, 0, some (19, true)⟩, ⟨some 24, .load 3 (.tmp 23), 3, some (19, true)⟩, ⟨some 25, .move (.tmp 0), 32, some (19, true)⟩, ⟨some 26, .move (.tmp 3), 3, some (19, true)⟩, ⟨some 27, .binOp .sub 3 (.tmp 26) (.const (.int .i64 1)) 3, 3, some (19, true)⟩, ⟨some 28, .indexAddr 32 (.tmp 25) (.tmp 27), 0, some (19, true)⟩, ⟨some 29, .fieldAddr 46 (.tmp 28) 0, 0, some (19, true)⟩, ⟨some 30, .load 3 (.tmp 29), 3, some (19, true)⟩, ⟨some 31, .move (.tmp 0), 32, some (19, true)⟩, ⟨some 32, .move (.tmp 3), 3, some (19, true)⟩, ⟨some 33, .binOp .sub 3 (.tmp 32) (.const (.int .i64 1)) 3, 3, some (19, true)⟩, ⟨some 34, .indexAddr 32 (.tmp 31) (.tmp 33), 0, some (19, true)⟩, ⟨some 35, .load 46 (.tmp 34), 46, some (19, true)⟩, ⟨some 36, .call { callee := .value (.func 48), args := #[.tmp 35], argTypes := #[46] }, 36, some (19, true)⟩, ⟨some 37, .call { callee := .builtin .len, args := #[.tmp 36], argTypes := #[36] }, 3, some (19, true)⟩, ⟨some 38, .binOp .add 3 (.tmp 30) (.tmp 37) 3, 3, some (19, true)⟩] [⟨some 39, .binOp .lss 3 (.tmp 24) (.tmp 38) 3, 4, some (19, true)⟩, ⟨some 40, .pick (.tmp 19) (.tmp 39) (.const (.bool false)), 4, some (16, false)⟩, ⟨some 41, .pick (.tmp 16) (.const (.bool true)) (.tmp 40), 4, none⟩]) (.cond (.tmp 41) (.seq (.ops [⟨some 2, .assign (.const (.bool false)), 4, none⟩]) (.ret)) (.skip)))) (q_s_HunksOk_c0)
@[simp] theorem q_s_HunksOk_c1_run : type_of% (run_is q_s_HunksOk_c1.eq_1) := run_is q_s_HunksOk_c1.eq_1
def q_s_HunksOk_l0 : QCode := .seq (.seq (.ops [⟨some 4, .move (.tmp 3), 3, none⟩, ⟨some 5, .move (.tmp 0), 32, none⟩, ⟨some 6, .call { callee := .builtin .len, args := #[.tmp 5], argTypes := #[32] }, 3, none⟩, ⟨some 7, .binOp .lss 3 (.tmp 4) (.tmp 6) 3, 4, none⟩]) (.cond (.tmp 7) (.skip) (.exit 0))) (q_s_HunksOk_c1)
@[simp] theorem q_s_HunksOk_l0_run : type_of% (run_is q_s_HunksOk_l0.eq_1) := run_is q_s_HunksOk_l0.eq_1
def q_s_HunksOk_c2 : QCode := .seq (.ops [⟨some 42, .move (.tmp 0), 32, none⟩, ⟨some 43, .call { callee := .builtin .len, args := #[.tmp 42], argTypes := #[32] }, 3, none⟩, ⟨some 44, .binOp .leq 3 (.tmp 43) (.const (.int .i64 4)) 3, 4, none⟩, ⟨some 2, .assign (.tmp 44), 4, none⟩]) (.ret)
@[simp] theorem q_s_HunksOk_c2_run : type_of% (run_is q_s_HunksOk_c2.eq_1) := run_is q_s_HunksOk_c2.eq_1
@[simp] def q_s_HunksOk : QFn := ⟨45, [(.tmp 2, 4)], .seq (.ops [⟨some 2, .assign (.const (.bool false)), 4, none⟩]) (.seq (.seq (.ops [⟨some 3, .assign (.const (.int .i64 0)), 3, none⟩]) (.block 0 (.loop q_s_HunksOk_l0))) (q_s_HunksOk_c2))⟩
theorem conv_s_HunksOk : convF Try.f15 = some q_s_HunksOk := by kernel_rfl
/-! 16 w_toHunkS -/
abbrev fn_w_toHunkS : FuncId := 16
def q_w_toHunkS_c0 : QCode := .ops [⟨some 12, .move (.tmp 4), 3, none⟩, ⟨some 13, .binOp .add 3 (.tmp 12) (.const (.int .i64 1)) 3, 3, none⟩, ⟨some 4, .assign (.tmp 13), 3, none⟩]
@[simp] theorem q_w_toHunkS_c0_run : type_of% (run_is q_w_toHunkS_c0.eq_1) := run_is q_w_toHunkS_c0.eq_1
def q_w_toHunkS_c1 : QCode := .seq (.block 1 (.ops [⟨some 14, .move (.tmp 3), 32, none⟩, ⟨some 15, .move (.tmp 4), 3, none⟩, ⟨some 16, .move (.tmp 0), 29, none⟩, ⟨some 17, .move (.tmp 4), 3, none⟩, ⟨some 18, .indexAddr 29 (.tmp 16) (.tmp 17), 0, none⟩, ⟨some 19, .load 68 (.tmp 18), 68, none⟩, ⟨some 20, .call { callee := .value (.func 49), args := #[.tmp 19], argTypes := #[68] }, 46, none⟩, ⟨some 21, .indexAddr 32 (.tmp 14) (.tmp 15), 0, none⟩, ⟨none, .store 46 (.tmp 21) (.tmp 20), 0, none⟩])) (q_w_toHunkS_c0)
@[simp] theorem q_w_toHunkS_c1_run : type_of% (run_is q_w_toHunkS_c1.eq_1) := run_is q_w_toHunkS_c1.eq_1
def q_w_toHunkS_l0 : QCode := .seq (.seq (.ops [⟨some 8, .move (.tmp 4), 3, none⟩, ⟨some 9, .move (.tmp 0), 29, none⟩, ⟨some 10, .call { callee := .builtin .len, args := #[.tmp 9], argTypes := #[29] }, 3, none⟩, ⟨some 11, .binOp .lss 3 (.tmp 8) (.tmp 10) 3, 4, none⟩]) (.cond (.tmp 11) (.skip) (.exit 0))) (q_w_toHunkS_c1)
@[simp] theorem q_w_toHunkS_l0_run : type_of% (run_is q_w_toHunkS_l0.eq_1) := run_is q_w_toHunkS_l0.eq_1
def q_w_toHunkS_c2 : QCode := .seq (.ops [⟨some 22, .move (.tmp 3), 32, none⟩, ⟨some 2, .assign (.tmp 22), 32, none⟩]) (.ret)
@[simp] theorem q_w_toHunkS_c2_run : type_of% (run_is q_w_toHunkS_c2.eq_1) := run_is q_w_toHunkS_c2.eq_1
@[simp] def q_w_toHunkS : QFn := ⟨23, [(.tmp 2, 32)], .seq (.ops [⟨some 2, .assign (.const (.slice none 0 0)), 32, none⟩]) (.seq (.ops [⟨some 5, .move (.tmp 0), 29, none⟩, ⟨some 6, .call { callee := .builtin .len, args := #[.tmp 5], argTypes := #[29] }, 3, none⟩, ⟨some 7, .makeSlice 32 (.tmp 6) (.tmp 6), 32, none⟩, ⟨some 3, .assign (.tmp 7), 32, none⟩]) (.seq (.seq (.ops [⟨some 4, .assign (.const (.int .i64 0)), 3, none⟩]) (.block 0 (.loop q_w_toHunkS_l0))) (q_w_toHunkS_c2)))⟩
theorem conv_w_toHunkS : convF Try.f16 = some q_w_toHunkS := by kernel_rfl
/-! 17 i_HunksOk -/
abbrev fn_i_HunksOk : FuncId := 17
def q_i_HunksOk_c0 : QCode := .seq (.ops [⟨some 43, .fieldAddr 46 (.tmp 5) 1, 0, none⟩, ⟨some 44, .load 36 (.tmp 43), 36, none⟩, ⟨some 45, .call { callee := .value (.func 52), args := #[.tmp 44], argTypes := #[36] }, 43, none⟩, ⟨some 42, .move (.tmp 45), 43, none⟩, ⟨some 46, .extract (.tmp 42) 0, 36, none⟩, ⟨some 47, .extract (.tmp 42) 1, 36, none⟩, ⟨some 6, .assign (.tmp 46), 36, none⟩, ⟨some 7, .assign (.tmp 47), 36, none⟩]) (.ops [⟨some 48, .fieldAddr 46 (.tmp 5) 0, 0, none⟩, ⟨some 49, .load 3 (.tmp 48), 3, none⟩, ⟨some 50, .move (.tmp 6), 36, none⟩, ⟨some 51, .call { callee := .builtin .len, args := #[.tmp 50], argTypes := #[36] }, 3, none⟩, ⟨some 52, .binOp .add 3 (.tmp 49) (.tmp 51) 3, 3, none⟩, ⟨some 3, .assign (.tmp 52), 3, none⟩])
@[simp] theorem q_i_HunksOk_c0_run : type_of% (run_is q_i_HunksOk_c0.eq_1) := run_is q_i_HunksOk_c0.eq_1
def q_i_HunksOk_c1 : QCode := .seq (.seq (.ops [⟨some 38, .fieldAddr 46 (.tmp 5) 1, 0, none⟩, ⟨some 39, .load 36 (.tmp 38), 36, none⟩, ⟨some 40, .call { callee := .value (.func 50), args := #[.tmp 39, .func 51], argTypes := #[36, 58] }, 4, none⟩, ⟨some 41, .unOp .not 4 (.tmp 40), 4, none⟩]) (.cond (.tmp 41) (.seq (.ops [⟨some 2, .assign (.const (.bool false)), 4, none⟩]) (.ret)) (.skip))) (q_i_HunksOk_c0)
@[simp] theorem q_i_HunksOk_c1_run : type_of% (run_is q_i_HunksOk_c1.eq_1) := run_is q_i_HunksOk_c1.eq_1
def q_i_HunksOk_c2 : QCode := .ops [⟨some 53, .binOp .add 3 (.tmp 13) (.const (.int .i64 1)) 3, 3, none⟩, ⟨some 13, .move (.tmp 53), 3, none⟩]
@[simp] theorem q_i_HunksOk_c2_run : type_of% (run_is q_i_HunksOk_c2.eq_1) := run_is q_i_HunksOk_c2.eq_1
def q_i_HunksOk_c3 : QCode := .seq (.block 1 (.seq (.ops [⟨some 15, .indexAddr 32 (.tmp 11) (.tmp 13), 0, none⟩, ⟨some 16, .load 46 (.tmp 15), 46, none⟩, ⟨some 5, .alloc 46, 0, none⟩, ⟨none, .store 46 (.tmp 5) (.tmp 16), 0, none⟩]) (.seq (.seq (.ops [⟨some 17, .fieldAddr 46 (.tmp 5) 0, 0, none⟩, ⟨some 18, .load 3 (.tmp 17), 3, none⟩, ⟨some 19, .move (.tmp 3), 3, none⟩, ⟨some 20, .binOp .lss 3 (.tmp 18) (.tmp 19) 3, 4, none⟩, ⟨some 21, .move (.tmp 20), 4, none⟩, ⟨some 22, .fieldAddr 46 (.tmp 5) 0, 0, some (21, false)⟩, ⟨some 23, .load 3 (.tmp 22), 3, some (21, false)⟩, ⟨some 24, .binOp .gtr 3 (.tmp 23) (.const (.int .i64 999)) 3, 4, some (21, false)⟩, ⟨some 25, .pick (.tmp 21) (.const (.bool true)) (.tmp 24), 4, none⟩, ⟨some 26, .move (.tmp 25), 4, none⟩, ⟨some 27, .fieldAddr 46 (.tmp 5) 1, 0, some (26, false)⟩, ⟨some 28, .load 36 (.tmp 27), 36, some (26, false)⟩, ⟨some 29, .call { callee := .builtin .len, args := #[.tmp 28], argTypes := #[36] }, 3, some (26, false)⟩, ⟨some 30, .binOp .lss 3 (.tmp 29) (.const (.int .i64 1)) 3, 4, some (26, false)⟩, ⟨some 31, .pick (.tmp 26) (.const (.bool true)) (.tmp 30), 4, none⟩, ⟨some 32, .move (.tmp 31), 4, none⟩, ⟨some 33, .fieldAddr 46 (.tmp 5) 1, 0, some (32, false)⟩, ⟨some 34, .load 36 (.tmp 33), 36, some (32, false)⟩, ⟨some 35, .call { callee := .builtin .len, args := #[.tmp 34], argTypes := #[36] }, 3, some (32, false)⟩, ⟨some 36, .binOp .gtr 3 (.tmp 35) (.const (.int .i64 30)) 3, 4, some (32, false)⟩, ⟨some 37, .pick (.tmp 32) (.const (.bool true)) (.tmp 36), 4, none⟩]) (.cond (.tmp 37) (.seq (.ops [⟨some 2, .assign (.const (.bool false)), 4, none⟩]) (.ret)) (.skip))) (q_i_HunksOk_c1)))) (q_i_HunksOk_c2)
@[simp] theorem q_i_HunksOk_c3_run : type_of% (run_is q_i_HunksOk_c3.eq_1) := run_is q_i_HunksOk_c3.eq_1
def q_i_HunksOk_l0 : QCode := .seq (.ops [⟨some 14, .binOp .lss 3 (.tmp 13) (.tmp 12) 3, 0, none⟩]) (.seq (.cond (.tmp 14) (.skip) (.exit 0)) (q_i_HunksOk_c3))
@[simp] theorem q_i_HunksOk_l0_run : type_of% (run_is q_i_HunksOk_l0.eq_1) := run_is q_i_HunksOk_l0.eq_1
def q_i_HunksOk_c4 : QCode := .seq (.ops [⟨some 2, .assign (.const (.bool true)), 4, none⟩]) (.ret)
@[simp] theorem q_i_HunksOk_c4_run : type_of% (run_is q_i_HunksOk_c4.eq_1) := run_is q_i_HunksOk_c4.eq_1
def q_i_HunksOk_c5 : QCode := .seq (.ops [⟨some 3, .assign (.const (.int .i64 1)), 3, none⟩]) (.seq (.seq (.ops [⟨some 11, .move (.tmp 0), 32, none⟩, ⟨some 12, .call { callee := .builtin .len, args := #[.tmp 11], argTypes := #[32] }, 3, none⟩, ⟨some 13, .move (.const (.int .i64 0)), 3, none⟩]) (.block 0 (.loop q_i_HunksOk_l0))) (q_i_HunksOk_c4))
@[simp] theorem q_i_HunksOk_c5_run : type_of% (run_is q_i_HunksOk_c5.eq_1) := run_is q_i_HunksOk_c5.eq_1
@[simp] def q_i_HunksOk : QFn := ⟨54, [(.tmp 2, 4)], .seq (.ops [⟨some 2, .assign (.const (.bool false)), 4, none⟩]) (.seq (.seq (.ops [⟨some 8, .move (.tmp 0), 32, none⟩, ⟨some 9, .call { callee := .builtin .len, args := #[.tmp 8], argTypes := #[32] }, 3, none⟩, ⟨some 10, .binOp .gtr 3 (.tmp 9) (.const (.int .i64 4)) 3, 4, none⟩]) (.cond (.tmp 10) (.seq (.ops [⟨some 2, .assign (.const (.bool false)), 4, none⟩]) (.ret)) (.skip))) (q_i_HunksOk_c5))⟩
theorem conv_i_HunksOk : convF Try.f17 = some q_i_HunksOk := by kernel_rfl
/-! 18 w_eqHunkS -/
abbrev fn_w_eqHunkS : FuncId := 18
def q_w_eqHunkS_c0 : QCode := .ops [⟨some 15, .move (.tmp 5), 3, none⟩, ⟨some 16, .binOp .add 3 (.tmp 15) (.const (.int .i64 1)) 3, 3, none⟩, ⟨some 5, .assign (.tmp 16), 3, none⟩]
@[simp] theorem q_w_eqHunkS_c0_run : type_of% (run_is q_w_eqHunkS_c0.eq_1) := run_is q_w_eqHunkS_c0.eq_1
def q_w_eqHunkS_c1 : QCode := .seq (.block 1 (.seq (.draw [⟨some 17, .move (.tmp 0), 32, none⟩, ⟨some 18, .move (.tmp 5), 3, none⟩, ⟨some 19, .indexAddr 32 (.tmp 17) (.tmp 18), 0, none⟩, ⟨some 20, .load 46 (.tmp 19), 46, none⟩, ⟨some 21, .move (.tmp 1), 32, none⟩, ⟨some 22, .move (.tmp 5), 3, none⟩, ⟨some 23, .indexAddr 32 (.tmp 21) (.tmp 22), 0, none⟩, ⟨some 24, .load 46 (.tmp 23), 46, none⟩] [⟨some 25, .call { callee := .value (.func 53), args := #[.tmp 20, .tmp 24], argTypes := #[46, 46] }, 4, none⟩, ⟨some 26, .unOp .not 4 (.tmp 25), 4, none⟩]) (.cond (.tmp 26) (.seq (.ops [⟨some 4, .assign (.const (.bool false)), 4, none⟩]) (.ret)) (.skip)))) (q_w_eqHunkS_c0)
@[simp] theorem q_w_eqHunkS_c1_run : type_of% (run_is q_w_eqHunkS_c1.eq_1) := run_is q_w_eqHunkS_c1.eq_1
def q_w_eqHunkS_l0 : QCode := .seq (.seq (.ops [⟨some 11, .move (.tmp 5), 3, none⟩, ⟨some 12, .move (.tmp 0), 32, none⟩, ⟨some 13, .call { callee := .builtin .len, args := #[.tmp 12], argTypes := #[32] }, 3, none⟩, ⟨some 14, .binOp .lss 3 (.tmp 11) (.tmp 13) 3, 4, none⟩]) (.cond (.tmp 14) (.skip) (.exit 0))) (q_w_eqHunkS_c1)
@[simp] theorem q_w_eqHunkS_l0_run : type_of% (run_is q_w_eqHunkS_l0.eq_1) := run_is q_w_eqHunkS_l0.eq_1
def q_w_eqHunkS_c2 : QCode := .seq (.ops [⟨some 4, .assign (.const (.bool true)), 4, none⟩]) (.ret)
@[simp] theorem q_w_eqHunkS_c2_run : type_of% (run_is q_w_eqHunkS_c2.eq_1) := run_is q_w_eqHunkS_c2.eq_1
def q_w_eqHunkS_c3 : QCode := .seq (.seq (.ops [⟨some 5, .assign (.const (.int .i64 0)), 3, none⟩]) (.block 0 (.loop q_w_eqHunkS_l0))) (q_w_eqHunkS_c2)
@[simp] theorem q_w_eqHunkS_c3_run : type_of% (run_is q_w_eqHunkS_c3.eq_1) := run_is q_w_eqHunkS_c3.eq_1
@[simp] def q_w_eqHunkS : QFn := ⟨27, [(.tmp 4, 4)], .seq (.ops [⟨some 4, .assign (.const (.bool false)), 4, none⟩]) (.seq (.seq (.ops [⟨some 6, .move (.tmp 0), 32, none⟩, ⟨some 7, .call { callee := .builtin .len, args := #[.tmp 6], argTypes := #[32] }, 3, none⟩, ⟨some 8, .move (.tmp 1), 32, none⟩, ⟨some 9, .call { callee := .builtin .len, args := #[.tmp 8], argTypes := #[32] }, 3, none⟩, ⟨some 10, .binOp .neq 3 (.tmp 7) (.tmp 9) 3, 4, none⟩]) (.cond (.tmp 10) (.seq (.ops [⟨some 4, .assign (.const (.bool false)), 4, none⟩]) (.ret)) (.skip))) (q_w_eqHunkS_c3))⟩
theorem conv_w_eqHunkS : convF Try.f18 = some q_w_eqHunkS := by kernel_rfl
/-! 19 w_szStringS -/
abbrev fn_w_szStringS : FuncId := 19
def q_w_szStringS_c0 : QCode := .ops [⟨some 16, .move (.tmp 5), 3, none⟩, ⟨some 17, .binOp .add 3 (.tmp 16) (.const (.int .i64 1)) 3, 3, none⟩, ⟨some 5, .assign (.tmp 17), 3, none⟩]
@[simp] theorem q_w_szStringS_c0_run : type_of% (run_is q_w_szStringS_c0.eq_1) := run_is q_w_szStringS_c0.eq_1
def q_w_szStringS_c1 : QCode := .seq (.block 1 (.seq (.ops [⟨some 18, .move (.tmp 1), 3, none⟩, ⟨some 19, .move (.tmp 0), 36, none⟩, ⟨some 20, .move (.tmp 5), 3, none⟩, ⟨some 21, .indexAddr 36 (.tmp 19) (.tmp 20), 0, none⟩, ⟨some 22, .load 9 (.tmp 21), 9, none⟩, ⟨some 23, .call { callee := .builtin .len, args := #[.tmp 22], argTypes := #[9] }, 3, none⟩, ⟨some 24, .binOp .sub 3 (.tmp 18) (.tmp 23) 3, 3, none⟩, ⟨some 1, .assign (.tmp 24), 3, none⟩]) (.seq (.ops [⟨some 25, .move (.tmp 1), 3, none⟩, ⟨some 26, .binOp .lss 3 (.tmp 25) (.const (.int .i64 0)) 3, 4, none⟩]) (.cond (.tmp 26) (.seq (.ops [⟨some 4, .assign (.const (.int .i64 (-1))), 3, none⟩]) (.ret)) (.skip))))) (q_w_szStringS_c0)
@[simp] theorem q_w_szStringS_c1_run : type_of% (run_is q_w_szStringS_c1.eq_1) := run_is q_w_szStringS_c1.eq_1
def q_w_szStringS_l0 : QCode := .seq (.seq (.ops [⟨some 12, .move (.tmp 5), 3, none⟩, ⟨some 13, .move (.tmp 0), 36, none⟩, ⟨some 14, .call { callee := .builtin .len, args := #[.tmp 13], argTypes := #[36] }, 3, none⟩, ⟨some 15, .binOp .lss 3 (.tmp 12) (.tmp 14) 3, 4, none⟩]) (.cond (.tmp 15) (.skip) (.exit 0))) (q_w_szStringS_c1)
@[simp] theorem q_w_szStringS_l0_run : type_of% (run_is q_w_szStringS_l0.eq_1) := run_is q_w_szStringS_l0.eq_1
def q_w_szStringS_c2 : QCode := .seq (.ops [⟨some 27, .move (.tmp 1), 3, none⟩, ⟨some 4, .assign (.tmp 27), 3, none⟩]) (.ret)
@[simp] theorem q_w_szStringS_c2_run : type_of% (run_is q_w_szStringS_c2.eq_1) := run_is q_w_szStringS_c2.eq_1
def q_w_szStringS_c3 : QCode := .seq (.seq (.ops [⟨some 5, .assign (.const (.int .i64 0)), 3, none⟩]) (.block 0 (.loop q_w_szStringS_l0))) (q_w_szStringS_c2)
@[simp] theorem q_w_szStringS_c3_run : type_of% (run_is q_w_szStringS_c3.eq_1) := run_is q_w_szStringS_c3.eq_1
@[simp] def q_w_szStringS : QFn := ⟨28, [(.tmp 4, 3)], .seq (.ops [⟨some 4, .assign (.const (.int .i64 0)), 3, none⟩]) (.seq (.ops [⟨some 6, .move (.tmp 1), 3, none⟩, ⟨some 7, .move (.tmp 0), 36, none⟩, ⟨some 8, .call { callee := .builtin .len, args := #[.tmp 7], argTypes := #[36] }, 3, none⟩, ⟨some 9, .binOp .sub 3 (.tmp 6) (.tmp 8) 3, 3, none⟩, ⟨some 1, .assign (.tmp 9), 3, none⟩]) (.seq (.seq (.ops [⟨some 10, .move (.tmp 1), 3, none⟩, ⟨some 11, .binOp .lss 3 (.tmp 10) (.const (.int .i64 0)) 3, 4, none⟩]) (.cond (.tmp 11) (.seq (.ops [⟨some 4, .assign (.const (.int .i64 (-1))), 3, none⟩]) (.ret)) (.skip))) (q_w_szStringS_c3)))⟩
theorem conv_w_szStringS : convF Try.f19 = some q_w_szStringS := by kernel_rfl
/-! 20 s_DiffOf -/
abbrev fn_s_DiffOf : FuncId := 20
def q_s_DiffOf_c0 : QCode := .block 1 (.ops [⟨some 55, .move (.tmp 5), 3, none⟩, ⟨some 56, .binOp .add 3 (.tmp 55) (.const (.int .i64 1)) 3, 3, none⟩, ⟨some 5, .assign (.tmp 56), 3, none⟩])
@[simp] theorem q_s_DiffOf_c0_run : type_of% (run_is q_s_DiffOf_c0.eq_1) := run_is q_s_DiffOf_c0.eq_1
def q_s_DiffOf_l0 : QCode := .seq (.seq (.draw [⟨some 34, .move (.tmp 5), 3, none⟩, ⟨some 35, .move (.tmp 0), 36, none⟩, ⟨some 36, .call { callee := .builtin .len, args := #[.tmp 35], argTypes := #[36] }, 3, none⟩, ⟨some 37, .binOp .lss 3 (.tmp 34) (.tmp 36) 3, 4, none⟩, ⟨some 38, .move (.tmp 37), 4, none⟩, ⟨some 39, .move (.tmp 5), 3, some (38, true)⟩, ⟨some 40, .move (.tmp 1), 36, some (38, true)⟩, ⟨some 41, .call { callee := .builtin .len, args := #[.tmp 40], argTypes := #[36] }, 3, some (38, true)⟩, ⟨some 42, .binOp .lss 3 (.tmp 39) (.tmp 41) 3, 4, some (38, true)⟩, ⟨some 43, .pick (.tmp 38) (.tmp 42) (.const (.bool false)), 4, none⟩, ⟨some 44, .move (.tmp 43), 4, none⟩, ⟨some 45, .move (.tmp 0), 36, some (44, true)⟩, ⟨some 46, .move (.tmp 5), 3, some (44, true)⟩, ⟨some 47, .indexAddr 36 (.tmp 45) (.tmp 46), 0, some (44, true)⟩, ⟨some 48, .load 9 (.tmp 47), 9, some (44, true)⟩, ⟨some 49, .move (.tmp 1), 36, some (44, true)⟩, ⟨some 50, .move (.tmp 5), 3, some (44, true)⟩, ⟨some 51, .indexAddr 36 (.tmp 49) (.tmp 50), 0, some (44, true)⟩, ⟨some 52, .load 9 (.tmp 51), 9, some (44, true)⟩] [⟨some 53, .binOp .eql 9 (.tmp 48) (.tmp 52) 9, 4, some (44, true)⟩, ⟨some 54, .pick (.tmp 44) (.tmp 53) (.const (.bool false)), 4, none⟩]) (.cond (.tmp 54) (.skip) (.exit 0))) (q_s_DiffOf_c0)
@[simp] theorem q_s_DiffOf_l0_run : type_of% (run_is q_s_DiffOf_l0.eq_1) := run_is q_s_DiffOf_l0.eq_1
def q_s_DiffOf_c1 : QCode := .block 3 (.ops [⟨some 90, .move (.tmp 6), 3, none⟩, ⟨some 91, .binOp .add 3 (.tmp 90) (.const (.int .i64 1)) 3, 3, none⟩, ⟨some 6, .assign (.tmp 91), 3, none⟩])
@[simp] theorem q_s_DiffOf_c1_run : type_of% (run_is q_s_DiffOf_c1.eq_1) := run_is q_s_DiffOf_c1.eq_1
def q_s_DiffOf_l1 : QCode := .seq (.seq (.draw [⟨some 57, .move (.tmp 6), 3, none⟩, ⟨some 58, .move (.tmp 0), 36, none⟩, ⟨some 59, .call { callee := .builtin .len, args := #[.tmp 58], argTypes := #[36] }, 3, none⟩, ⟨some 60, .move (.tmp 5), 3, none⟩, ⟨some 61, .binOp .sub 3 (.tmp 59) (.tmp 60) 3, 3, none⟩, ⟨some 62, .binOp .lss 3 (.tmp 57) (.tmp 61) 3, 4, none⟩, ⟨some 63, .move (.tmp 62), 4, none⟩, ⟨some 64, .move (.tmp 6), 3, some (63, true)⟩, ⟨some 65, .move (.tmp 1), 36, some (63, true)⟩, ⟨some 66, .call { callee := .builtin .len, args := #[.tmp 65], argTypes := #[36] }, 3, some (63, true)⟩, ⟨some 67, .move (.tmp 5), 3, some (63, true)⟩, ⟨some 68, .binOp .sub 3 (.tmp 66) (.tmp 67) 3, 3, some (63, true)⟩, ⟨some 69, .binOp .lss 3 (.tmp 64) (.tmp 68) 3, 4, some (63, true)⟩, ⟨some 70, .pick (.tmp 63) (.tmp 69) (.const (.bool false)), 4, none⟩, ⟨some 71, .move (.tmp 70), 4, none⟩, ⟨some 72, .move (.tmp 0), 36, some (71, true)⟩, ⟨some 73, .move (.tmp 0), 36, some (71, true)⟩, ⟨some 74, .call { callee := .builtin .len, args := #[.tmp 73], argTypes := #[36] }, 3, some (71, true)⟩, ⟨some 75, .binOp .sub 3 (.tmp 74) (.const (.int .i64 1)) 3, 3, some (71, true)⟩, ⟨some 76, .move (.tmp 6), 3, some (71, true)⟩, ⟨some 77, .binOp .sub 3 (.tmp 75) (.tmp 76) 3, 3, some (71, true)⟩, ⟨some 78, .indexAddr 36 (.tmp 72) (.tmp 77), 0, some (71, true)⟩, ⟨some 79, .load 9 (.tmp 78), 9, some (71, true)⟩, ⟨some 80, .move (.tmp 1), 36, some (71, true)⟩, ⟨some 81, .move (.tmp 1), 36, some (71, true)⟩, ⟨some 82, .call { callee := .builtin .len, args := #[.tmp 81], argTypes := #[36] }, 3, some (71, true)⟩, ⟨some 83, .binOp .sub 3 (.tmp 82) (.const (.int .i64 1)) 3, 3, some (71, true)⟩, ⟨some 84, .move (.tmp 6), 3, some (71, true)⟩, ⟨some 85, .binOp .sub 3 (.tmp 83) (.tmp 84) 3, 3, some (71, true)⟩, ⟨some 86, .indexAddr 36 (.tmp 80) (.tmp 85), 0, some (71, true)⟩, ⟨some 87, .load 9 (.tmp 86), 9, some (71, true)⟩] [⟨some 88, .binOp .eql 9 (.tmp 79) (.tmp 87) 9, 4, some (71, true)⟩, ⟨some 89, .pick (.tmp 71) (.tmp 88) (.const (.bool false)), 4, none⟩]) (.cond (.tmp 89) (.skip) (.exit 2))) (q_s_DiffOf_c1)
@[simp] theorem q_s_DiffOf_l1_run : type_of% (run_is q_s_DiffOf_l1.eq_1) := run_is q_s_DiffOf_l1.eq_1
def q_s_DiffOf_c2 : QCode := .ops [⟨some 103, .move (.tmp 9), 3, none⟩, ⟨some 104, .binOp .add 3 (.tmp 103) (.const (.int .i64 1)) 3, 3, none⟩, ⟨some 9, .assign (.tmp 104), 3, none⟩]
@[simp] theorem q_s_DiffOf_c2_run : type_of% (run_is q_s_DiffOf_c2.eq_1) := run_is q_s_DiffOf_c2.eq_1
def q_s_DiffOf_c3 : QCode := .seq (.block 5 (.draw [⟨some 105, .fieldAddr 46 (.tmp 8) 1, 0, none⟩, ⟨some 106, .load 36 (.tmp 105), 36, none⟩, ⟨some 107, .move (.tmp 0), 36, none⟩, ⟨some 108, .move (.tmp 9), 3, none⟩, ⟨some 109, .indexAddr 36 (.tmp 107) (.tmp 108), 0, none⟩, ⟨some 110, .load 9 (.tmp 109), 9, none⟩, ⟨some 111, .binOp .add 9 (.const (.string { data := #[32] })) (.tmp 110) 9, 9, none⟩, ⟨some 112, .buildSlice 36 1 #[(0, .tmp 111)], 36, none⟩] [⟨some 113, .call { callee := .builtin .append, args := #[.tmp 106, .tmp 112], argTypes := #[36, 36] }, 36, none⟩, ⟨some 114, .fieldAddr 46 (.tmp 8) 1, 0, none⟩, ⟨none, .store 36 (.tmp 114) (.tmp 113), 0, none⟩])) (q_s_DiffOf_c2)
@[simp] theorem q_s_DiffOf_c3_run : type_of% (run_is q_s_DiffOf_c3.eq_1) := run_is q_s_DiffOf_c3.eq_1
def q_s_DiffOf_l2 : QCode := .seq (.seq (.ops [⟨some 100, .move (.tmp 9), 3, none⟩, ⟨some 101, .move (.tmp 5), 3, none⟩, ⟨some 102, .binOp .lss 3 (.tmp 100) (.tmp 101) 3, 4, none⟩]) (.cond (.tmp 102) (.skip) (.exit 4))) (q_s_DiffOf_c3)
@[simp] theorem q_s_DiffOf_l2_run : type_of% (run_is q_s_DiffOf_l2.eq_1) := run_is q_s_DiffOf_l2.eq_1
def q_s_DiffOf_c4 : QCode := .ops [⟨some 122, .move (.tmp 10), 3, none⟩, ⟨some 123, .binOp .add 3 (.tmp 122) (.const (.int .i64 1)) 3, 3, none⟩, ⟨some 10, .assign (.tmp 123), 3, none⟩]
@[simp] theorem q_s_DiffOf_c4_run : type_of% (run_is q_s_DiffOf_c4.eq_1) := run_is q_s_DiffOf_c4.eq_1
def q_s_DiffOf_c5 : QCode := .seq (.block 7 (.draw [⟨some 124, .fieldAddr 46 (.tmp 8) 1, 0, none⟩, ⟨some 125, .load 36 (.tmp 124), 36, none⟩, ⟨some 126, .move (.tmp 0), 36, none⟩, ⟨some 127, .move (.tmp 10), 3, none⟩, ⟨some 128, .indexAddr 36 (.tmp 126) (.tmp 127), 0, none⟩, ⟨some 129, .load 9 (.tmp 128), 9, none⟩, ⟨some 130, .binOp .add 9 (.const (.string { data := #[45] })) (.tmp 129) 9, 9, none⟩, ⟨some 131, .buildSlice 36 1 #[(0, .tmp 130)], 36, none⟩] [⟨some 132, .call { callee := .builtin .append, args := #[.tmp 125, .tmp 131], argTypes := #[36, 36] }, 36, none⟩, ⟨some 133, .fieldAddr 46 (.tmp 8) 1, 0, none⟩, ⟨none, .store 36 (.tmp 133) (.tmp 132), 0, none⟩])) (q_s_DiffOf_c4)
@[simp] theorem q_s_DiffOf_c5_run : type_of% (run_is q_s_DiffOf_c5.eq_1) := run_is q_s_DiffOf_c5.eq_1
def q_s_DiffOf_l3 : QCode := .seq (.seq (.ops [⟨some 116, .move (.tmp 10), 3, none⟩, ⟨some 117, .move (.tmp 0), 36, none⟩, ⟨some 118, .call { callee := .builtin .len, args := #[.tmp 117], argTypes := #[36] }, 3, none⟩, ⟨some 119, .move (.tmp 6), 3, none⟩, ⟨some 120, .binOp .sub 3 (.tmp 118) (.tmp 119) 3, 3, none⟩, ⟨some 121, .binOp .lss 3 (.tmp 116) (.tmp 120) 3, 4, none⟩]) (.cond (.tmp 121) (.skip) (.exit 6))) (q_s_DiffOf_c5)
@[simp] theorem q_s_DiffOf_l3_run : type_of% (run_is q_s_DiffOf_l3.eq_1) := run_is q_s_DiffOf_l3.eq_1
def q_s_DiffOf_c6 : QCode := .ops [⟨some 141, .move (.tmp 11), 3, none⟩, ⟨some 142, .binOp .add 3 (.tmp 141) (.const (.int .i64 1)) 3, 3, none⟩, ⟨some 11, .assign (.tmp 142), 3, none⟩]
@[simp] theorem q_s_DiffOf_c6_run : type_of% (run_is q_s_DiffOf_c6.eq_1) := run_is q_s_DiffOf_c6.eq_1
def q_s_DiffOf_c7 : QCode := .seq (.block 9 (.draw [⟨some 143, .fieldAddr 46 (.tmp 8) 1, 0, none⟩, ⟨some 144, .load 36 (.tmp 143), 36, none⟩, ⟨some 145, .move (.tmp 1), 36, none⟩, ⟨some 146, .move (.tmp 11), 3, none⟩, ⟨some 147, .indexAddr 36 (.tmp 145) (.tmp 146), 0, none⟩, ⟨some 148, .load 9 (.tmp 147), 9, none⟩, ⟨some 149, .binOp .add 9 (.const (.string { data := #[43] })) (.tmp 148) 9, 9, none⟩, ⟨some 150, .buildSlice 36 1 #[(0, .tmp 149)], 36, none⟩] [⟨some 151, .call { callee := .builtin .append, args := #[.tmp 144, .tmp 150], argTypes := #[36, 36] }, 36, none⟩, ⟨some 152, .fieldAddr 46 (.tmp 8) 1, 0, none⟩, ⟨none, .store 36 (.tmp 152) (.tmp 151), 0, none⟩])) (q_s_DiffOf_c6)
@[simp] theorem q_s_DiffOf_c7_run : type_of% (run_is q_s_DiffOf_c7.eq_1) := run_is q_s_DiffOf_c7.eq_1
def q_s_DiffOf_l4 : QCode := .seq (.seq (.ops [⟨some 135, .move (.tmp 11), 3, none⟩, ⟨some 136, .move (.tmp 1), 36, none⟩, ⟨some 137, .call { callee := .builtin .len, args := #[.tmp 136], argTypes := #[36] }, 3, none⟩, ⟨some 138, .move (.tmp 6), 3, none⟩, ⟨some 139, .binOp .sub 3 (.tmp 137) (.tmp 138) 3, 3, none⟩, ⟨some 140, .binOp .lss 3 (.tmp 135) (.tmp 139) 3, 4, none⟩]) (.cond (.tmp 140) (.skip) (.exit 8))) (q_s_DiffOf_c7)
@[simp] theorem q_s_DiffOf_l4_run : type_of% (run_is q_s_DiffOf_l4.eq_1) := run_is q_s_DiffOf_l4.eq_1
def q_s_DiffOf_c8 : QCode := .ops [⟨some 170, .move (.tmp 12), 3, none⟩, ⟨some 171, .binOp .add 3 (.tmp 170) (.const (.int .i64 1)) 3, 3, none⟩, ⟨some 12, .assign (.tmp 171), 3, none⟩]
@[simp] theorem q_s_DiffOf_c8_run : type_of% (run_is q_s_DiffOf_c8.eq_1) := run_is q_s_DiffOf_c8.eq_1
def q_s_DiffOf_c9 : QCode := .seq (.block 11 (.draw [⟨some 172, .fieldAddr 46 (.tmp 8) 1, 0, none⟩, ⟨some 173, .load 36 (.tmp 172), 36, none⟩, ⟨some 174, .move (.tmp 0), 36, none⟩, ⟨some 175, .move (.tmp 12), 3, none⟩, ⟨some 176, .indexAddr 36 (.tmp 174) (.tmp 175), 0, none⟩, ⟨some 177, .load 9 (.tmp 176), 9, none⟩, ⟨some 178, .binOp .add 9 (.const (.string { data := #[32] })) (.tmp 177) 9, 9, none⟩, ⟨some 179, .buildSlice 36 1 #[(0, .tmp 178)], 36, none⟩] [⟨some 180, .call { callee := .builtin .append, args := #[.tmp 173, .tmp 179], argTypes := #[36, 36] }, 36, none⟩, ⟨some 181, .fieldAddr 46 (.tmp 8) 1, 0, none⟩, ⟨none, .store 36 (.tmp 181) (.tmp 180), 0, none⟩])) (q_s_DiffOf_c8)
@[simp] theorem q_s_DiffOf_c9_run : type_of% (run_is q_s_DiffOf_c9.eq_1) := run_is q_s_DiffOf_c9.eq_1
def q_s_DiffOf_l5 : QCode := .seq (.seq (.ops [⟨some 157, .move (.tmp 12), 3, none⟩, ⟨some 158, .move (.tmp 0), 36, none⟩, ⟨some 159, .call { callee := .builtin .len, args := #[.tmp 158], argTypes := #[36] }, 3, none⟩, ⟨some 160, .binOp .lss 3 (.tmp 157) (.tmp 159) 3, 4, none⟩, ⟨some 161, .move (.tmp 160), 4, none⟩, ⟨some 162, .move (.tmp 12), 3, some (161, true)⟩, ⟨some 163, .move (.tmp 0), 36, some (161, true)⟩, ⟨some 164, .call { callee := .builtin .len, args := #[.tmp 163], argTypes := #[36] }, 3, some (161, true)⟩, ⟨some 165, .move (.tmp 6), 3, some (161, true)⟩, ⟨some 166, .binOp .sub 3 (.tmp 164) (.tmp 165) 3, 3, some (161, true)⟩, ⟨some 167, .binOp .add 3 (.tmp 166) (.const (.int .i64 2)) 3, 3, some (161, true)⟩, ⟨some 168, .binOp .lss 3 (.tmp 162) (.tmp 167) 3, 4, some (161, true)⟩, ⟨some 169, .pick (.tmp 161) (.tmp 168) (.const (.bool false)), 4, none⟩]) (.cond (.tmp 169) (.skip) (.exit 10))) (q_s_DiffOf_c9)
@[simp] theorem q_s_DiffOf_l5_run : type_of% (run_is q_s_DiffOf_l5.eq_1) := run_is q_s_DiffOf_l5.eq_1
def q_s_DiffOf_c10 : QCode := .seq (.ops [⟨some 186, .load 46 (.tmp 8), 46, none⟩, ⟨some 187, .buildSlice 32 1 #[(0, .tmp 186)], 32, none⟩, ⟨some 4, .assign (.tmp 187), 32, none⟩]) (.ret)
@[simp] theorem q_s_DiffOf_c10_run : type_of% (run_is q_s_DiffOf_c10.eq_1) := run_is q_s_DiffOf_c10.eq_1
def q_s_DiffOf_c11 : QCode := .seq (.seq (.ops [⟨some 182, .load 46 (.tmp 8), 46, none⟩, ⟨some 183, .call { callee := .value (.func 47), args := #[.tmp 182], argTypes := #[46] }, 4, none⟩, ⟨some 184, .unOp .not 4 (.tmp 183), 4, none⟩]) (.cond (.tmp 184) (.seq (.ops [⟨some 185, .buildSlice 32 0 #[], 32, none⟩, ⟨some 4, .assign (.tmp 185), 32, none⟩]) (.ret)) (.skip))) (q_s_DiffOf_c10)
@[simp] theorem q_s_DiffOf_c11_run : type_of% (run_is q_s_DiffOf_c11.eq_1) := run_is q_s_DiffOf_c11.eq_1
def q_s_DiffOf_c12 : QCode := .seq (.seq (.ops [⟨some 153, .move (.tmp 0), 36, none⟩, ⟨some 154, .call { callee := .builtin .len, args := #[.tmp 153], argTypes := #[36] }, 3, none⟩, ⟨some 155, .move (.tmp 6), 3, none⟩, ⟨some 156, .binOp .sub 3 (.tmp 154) (.tmp 155) 3, 3, none⟩, ⟨some 12, .assign (.tmp 156), 3, none⟩]) (.block 10 (.loop q_s_DiffOf_l5))) (q_s_DiffOf_c11)
@[simp] theorem q_s_DiffOf_c12_run : type_of% (run_is q_s_DiffOf_c12.eq_1) := run_is q_s_DiffOf_c12.eq_1
def q_s_DiffOf_c13 : QCode := .seq (.seq (.ops [⟨some 134, .move (.tmp 5), 3, none⟩, ⟨some 11, .assign (.tmp 134), 3, none⟩]) (.block 8 (.loop q_s_DiffOf_l4))) (q_s_DiffOf_c12)
@[simp] theorem q_s_DiffOf_c13_run : type_of% (run_is q_s_DiffOf_c13.eq_1) := run_is q_s_DiffOf_c13.eq_1
def q_s_DiffOf_c14 : QCode := .seq (.seq (.ops [⟨some 115, .move (.tmp 5), 3, none⟩, ⟨some 10, .assign (.tmp 115), 3, none⟩]) (.block 6 (.loop q_s_DiffOf_l3))) (q_s_DiffOf_c13)
@[simp] theorem q_s_DiffOf_c14_run : type_of% (run_is q_s_DiffOf_c14.eq_1) := run_is q_s_DiffOf_c14.eq_1
def q_s_DiffOf_c15 : QCode := .seq (.ops [⟨some 96, .move (.tmp 7), 3, none⟩, ⟨some 97, .binOp .add 3 (.tmp 96) (.const (.int .i64 1)) 3, 3, none⟩, ⟨some 98, .build 46 #[(0, .tmp 97)], 46, none⟩, ⟨some 8, .alloc 46, 0, none⟩, ⟨none, .store 46 (.tmp 8) (.tmp 98), 0, none⟩]) (.seq (.seq (.ops [⟨some 99, .move (.tmp 7), 3, none⟩, ⟨some 9, .assign (.tmp 99), 3, none⟩]) (.block 4 (.loop q_s_DiffOf_l2))) (q_s_DiffOf_c14))
@[simp] theorem q_s_DiffOf_c15_run : type_of% (run_is q_s_DiffOf_c15.eq_1) := run_is q_s_DiffOf_c15.eq_1
def q_s_DiffOf_c16 : QCode := .seq (.ops [⟨some 92, .move (.tmp 5), 3, none⟩, ⟨some 93, .binOp .sub 3 (.tmp 92) (.const (.int .i64 2)) 3, 3, none⟩, ⟨some 7, .assign (.tmp 93), 3, none⟩]) (.seq (.seq (.ops [⟨some 94, .move (.tmp 7), 3, none⟩, ⟨some 95, .binOp .lss 3 (.tmp 94) (.const (.int .i64 0)) 3, 4, none⟩]) (.cond (.tmp 95) (.ops [⟨some 7, .assign (.const (.int .i64 0)), 3, none⟩]) (.skip))) (q_s_DiffOf_c15))
@[simp] theorem q_s_DiffOf_c16_run : type_of% (run_is q_s_DiffOf_c16.eq_1) := run_is q_s_DiffOf_c16.eq_1
def q_s_DiffOf_c17 : QCode := .seq (.ops [⟨some 6, .assign (.const (.int .i64 0)), 3, none⟩]) (.seq (.block 2 (.loop q_s_DiffOf_l1)) (q_s_DiffOf_c16))
@[simp] theorem q_s_DiffOf_c17_run : type_of% (run_is q_s_DiffOf_c17.eq_1) := run_is q_s_DiffOf_c17.eq_1
def q_s_DiffOf_c18 : QCode := .seq (.ops [⟨some 5, .assign (.const (.int .i64 0)), 3, none⟩]) (.seq (.block 0 (.loop q_s_DiffOf_l0)) (q_s_DiffOf_c17))
@[simp] theorem q_s_DiffOf_c18_run : type_of% (run_is q_s_DiffOf_c18.eq_1) := run_is q_s_DiffOf_c18.eq_1
@[simp] def q_s_DiffOf : QFn := ⟨188, [(.tmp 4, 32)], .seq (.ops [⟨some 4, .assign (.const (.slice none 0 0)), 32, none⟩]) (.seq (.seq (.ops [⟨some 13, .move (.tmp 0), 36, none⟩, ⟨some 14, .call { callee := .value (.func 54), args := #[.tmp 13], argTypes := #[36] }, 4, none⟩, ⟨some 15, .unOp .not 4 (.tmp 14), 4, none⟩, ⟨some 16, .move (.tmp 15), 4, none⟩, ⟨some 17, .move (.tmp 1), 36, some (16, false)⟩, ⟨some 18, .call { callee := .value (.func 54), args := #[.tmp 17], argTypes := #[36] }, 4, some (16, false)⟩, ⟨some 19, .unOp .not 4 (.tmp 18), 4, some (16, false)⟩, ⟨some 20, .pick (.tmp 16) (.const (.bool true)) (.tmp 19), 4, none⟩, ⟨some 21, .move (.tmp 20), 4, none⟩, ⟨some 22, .move (.tmp 0), 36, some (21, false)⟩, ⟨some 23, .call { callee := .builtin .len, args := #[.tmp 22], argTypes := #[36] }, 3, some (21, false)⟩, ⟨some 24, .move (.tmp 1), 36, some (21, false)⟩, ⟨some 25, .call { callee := .builtin .len, args := #[.tmp 24], argTypes := #[36] }, 3, some (21, false)⟩, ⟨some 26, .binOp .eql 3 (.tmp 23) (.tmp 25) 3, 4, some (21, false)⟩, ⟨some 27, .move (.tmp 26), 4, some (21, false)⟩, ⟨some 28, .move (.tmp 0), 36, some (27, true)⟩, ⟨some 29, .move (.tmp 1), 36, some (27, true)⟩, ⟨some 30, .call { callee := .value (.func 55), args := #[.tmp 28, .const (.int .i64 0), .tmp 29], argTypes := #[36, 3, 36] }, 4, some (27, true)⟩, ⟨some 31, .pick (.tmp 27) (.tmp 30) (.const (.bool false)), 4, some (21, false)⟩, ⟨some 32, .pick (.tmp 21) (.const (.bool true)) (.tmp 31), 4, none⟩]) (.cond (.tmp 32) (.seq (.ops [⟨some 33, .buildSlice 32 0 #[], 32, none⟩, ⟨some 4, .assign (.tmp 33), 32, none⟩]) (.ret)) (.skip))) (q_s_DiffOf_c18))⟩
theorem conv_s_DiffOf : convF Try.f20 = some q_s_DiffOf := by kernel_rfl
/-! 21 w_toStringS -/
abbrev fn_w_toStringS : FuncId := 21
def q_w_toStringS_c0 : QCode := .ops [⟨some 12, .move (.tmp 4), 3, none⟩, ⟨some 13, .binOp .add 3 (.tmp 12) (.const (.int .i64 1)) 3, 3, none⟩, ⟨some 4, .assign (.tmp 13), 3, none⟩]
@[simp] theorem q_w_toStringS_c0_run : type_of% (run_is q_w_toStringS_c0.eq_1) := run_is q_w_toStringS_c0.eq_1
def q_w_toStringS_c1 : QCode := .seq (.block 1 (.ops [⟨some 14, .move (.tmp 3), 36, none⟩, ⟨some 15, .move (.tmp 4), 3, none⟩, ⟨some 16, .move (.tmp 0), 36, none⟩, ⟨some 17, .move (.tmp 4), 3, none⟩, ⟨some 18, .indexAddr 36 (.tmp 16) (.tmp 17), 0, none⟩, ⟨some 19, .load 9 (.tmp 18), 9, none⟩, ⟨some 20, .indexAddr 36 (.tmp 14) (.tmp 15), 0, none⟩, ⟨none, .store 9 (.tmp 20) (.tmp 19), 0, none⟩])) (q_w_toStringS_c0)
@[simp] theorem q_w_toStringS_c1_run : type_of% (run_is q_w_toStringS_c1.eq_1) := run_is q_w_toStringS_c1.eq_1
def q_w_toStringS_l0 : QCode := .seq (.seq (.ops [⟨some 8, .move (.tmp 4), 3, none⟩, ⟨some 9, .move (.tmp 0), 36, none⟩, ⟨some 10, .call { callee := .builtin .len, args := #[.tmp 9], argTypes := #[36] }, 3, none⟩, ⟨some 11, .binOp .lss 3 (.tmp 8) (.tmp 10) 3, 4, none⟩]) (.cond (.tmp 11) (.skip) (.exit 0))) (q_w_toStringS_c1)
@[simp] theorem q_w_toStringS_l0_run : type_of% (run_is q_w_toStringS_l0.eq_1) := run_is q_w_toStringS_l0.eq_1
def q_w_toStringS_c2 : QCode := .seq (.ops [⟨some 21, .move (.tmp 3), 36, none⟩, ⟨some 2, .assign (.tmp 21), 36, none⟩]) (.ret)
@[simp] theorem q_w_toStringS_c2_run : type_of% (run_is q_w_toStringS_c2.eq_1) := run_is q_w_toStringS_c2.eq_1
@[simp] def q_w_toStringS : QFn := ⟨22, [(.tmp 2, 36)], .seq (.ops [⟨some 2, .assign (.const (.slice none 0 0)), 36, none⟩]) (.seq (.ops [⟨some 5, .move (.tmp 0), 36, none⟩, ⟨some 6, .call { callee := .builtin .len, args := #[.tmp 5], argTypes := #[36] }, 3, none⟩, ⟨some 7, .makeSlice 36 (.tmp 6) (.tmp 6), 36, none⟩, ⟨some 3, .assign (.tmp 7), 36, none⟩]) (.seq (.seq (.ops [⟨some 4, .assign (.const (.int .i64 0)), 3, none⟩]) (.block 0 (.loop q_w_toStringS_l0))) (q_w_toStringS_c2)))⟩
theorem conv_w_toStringS : convF Try.f21 = some q_w_toStringS := by kernel_rfl
/-! 22 i_DiffOf -/
abbrev fn_i_DiffOf : FuncId := 22
def q_i_DiffOf_c0 : QCode := .block 1 (.ops [⟨some 44, .move (.tmp 6), 3, none⟩, ⟨some 45, .binOp .add 3 (.tmp 44) (.const (.int .i64 1)) 3, 3, none⟩, ⟨some 6, .assign (.tmp 45), 3, none⟩])
@[simp] theorem q_i_DiffOf_c0_run : type_of% (run_is q_i_DiffOf_c0.eq_1) := run_is q_i_DiffOf_c0.eq_1
def q_i_DiffOf_l0 : QCode := .seq (.seq (.draw [⟨some 30, .move (.tmp 6), 3, none⟩, ⟨some 31, .move (.tmp 5), 3, none⟩, ⟨some 32, .binOp .lss 3 (.tmp 30) (.tmp 31) 3, 4, none⟩, ⟨some 33, .move (.tmp 32), 4, none⟩, ⟨some 34, .move (.tmp 0), 36, some (33, true)⟩, ⟨some 35, .move (.tmp 6), 3, some (33, true)⟩, ⟨some 36, .indexAddr 36 (.tmp 34) (.tmp 35), 0, some (33, true)⟩, ⟨some 37, .load 9 (.tmp 36), 9, some (33, true)⟩, ⟨some 38, .move (.tmp 1), 36, some (33, true)⟩, ⟨some 39, .move (.tmp 6), 3, some (33, true)⟩, ⟨some 40, .indexAddr 36 (.tmp 38) (.tmp 39), 0, some (33, true)⟩, ⟨some 41, .load 9 (.tmp 40), 9, some (33, true)⟩] [⟨some 42, .binOp .eql 9 (.tmp 37) (.tmp 41) 9, 4, some (33, true)⟩, ⟨some 43, .pick (.tmp 33) (.tmp 42) (.const (.bool false)), 4, none⟩]) (.cond (.tmp 43) (.skip) (.exit 0))) (q_i_DiffOf_c0)
@[simp] theorem q_i_DiffOf_l0_run : type_of% (run_is q_i_DiffOf_l0.eq_1) := run_is q_i_DiffOf_l0.eq_1
def q_i_DiffOf_c1 : QCode := .block 3 (.ops [⟨some 70, .move (.tmp 7), 3, none⟩, ⟨some 71, .binOp .add 3 (.tmp 70) (.const (.int .i64 1)) 3, 3, none⟩, ⟨some 7, .assign (.tmp 71), 3, none⟩])
@[simp] theorem q_i_DiffOf_c1_run : type_of% (run_is q_i_DiffOf_c1.eq_1) := run_is q_i_DiffOf_c1.eq_1
def q_i_DiffOf_l1 : QCode := .seq (.seq (.draw [⟨some 46, .move (.tmp 7), 3, none⟩, ⟨some 47, .move (.tmp 5), 3, none⟩, ⟨some 48, .move (.tmp 6), 3, none⟩, ⟨some 49, .binOp .sub 3 (.tmp 47) (.tmp 48) 3, 3, none⟩, ⟨some 50, .binOp .lss 3 (.tmp 46) (.tmp 49) 3, 4, none⟩, ⟨some 51, .move (.tmp 50), 4, none⟩, ⟨some 52, .move (.tmp 0), 36, some (51, true)⟩, ⟨some 53, .move (.tmp 0), 36, some (51, true)⟩, ⟨some 54, .call { callee := .builtin .len, args := #[.tmp 53], argTypes := #[36] }, 3, some (51, true)⟩, ⟨some 55, .binOp .sub 3 (.tmp 54) (.const (.int .i64 1)) 3, 3, some (51, true)⟩, ⟨some 56, .move (.tmp 7), 3, some (51, true)⟩, ⟨some 57, .binOp .sub 3 (.tmp 55) (.tmp 56) 3, 3, some (51, true)⟩, ⟨some 58, .indexAddr 36 (.tmp 52) (.tmp 57), 0, some (51, true)⟩, ⟨some 59, .load 9 (.tmp 58), 9, some (51, true)⟩, ⟨some 60, .move (.tmp 1), 36, some (51, true)⟩, ⟨some 61, .move (.tmp 1), 36, some (51, true)⟩, ⟨some 62, .call { callee := .builtin .len, args := #[.tmp 61], argTypes := #[36] }, 3, some (51, true)⟩, ⟨some 63, .binOp .sub 3 (.tmp 62) (.const (.int .i64 1)) 3, 3, some (51, true)⟩, ⟨some 64, .move (.tmp 7), 3, some (51, true)⟩, ⟨some 65, .binOp .sub 3 (.tmp 63) (.tmp 64) 3, 3, some (51, true)⟩, ⟨some 66, .indexAddr 36 (.tmp 60) (.tmp 65), 0, some (51, true)⟩, ⟨some 67, .load 9 (.tmp 66), 9, some (51, true)⟩] [⟨some 68, .binOp .eql 9 (.tmp 59) (.tmp 67) 9, 4, some (51, true)⟩, ⟨some 69, .pick (.tmp 51) (.tmp 68) (.const (.bool false)), 4, none⟩]) (.cond (.tmp 69) (.skip) (.exit 2))) (q_i_DiffOf_c1)
@[simp] theorem q_i_DiffOf_l1_run : type_of% (run_is q_i_DiffOf_l1.eq_1) := run_is q_i_DiffOf_l1.eq_1
def q_i_DiffOf_c2 : QCode := .seq (.ops [⟨some 120, .move (.tmp 11), 32, none⟩, ⟨some 4, .assign (.tmp 120), 32, none⟩]) (.ret)
@[simp] theorem q_i_DiffOf_c2_run : type_of% (run_is q_i_DiffOf_c2.eq_1) := run_is q_i_DiffOf_c2.eq_1
def q_i_DiffOf_c3 : QCode := .seq (.ops [⟨some 72, .move (.tmp 6), 3, none⟩, ⟨some 73, .binOp .sub 3 (.tmp 72) (.const (.int .i64 2)) 3, 3, none⟩, ⟨some 74, .call { callee := .builtin .max, args := #[.tmp 73, .const (.int .i64 0)], argTypes := #[3, 3] }, 3, none⟩, ⟨some 8, .assign (.tmp 74), 3, none⟩]) (.seq (.ops [⟨some 75, .move (.tmp 0), 36, none⟩, ⟨some 76, .call { callee := .builtin .len, args := #[.tmp 75], argTypes := #[36] }, 3, none⟩, ⟨some 77, .move (.tmp 7), 3, none⟩, ⟨some 78, .binOp .sub 3 (.tmp 76) (.tmp 77) 3, 3, none⟩, ⟨some 9, .assign (.tmp 78), 3, none⟩]) (.seq (.ops [⟨some 79, .move (.tmp 0), 36, none⟩, ⟨some 80, .move (.tmp 8), 3, none⟩, ⟨some 81, .move (.tmp 6), 3, none⟩, ⟨some 82, .slice 36 (.tmp 79) (some (.tmp 80)) (some (.tmp 81)) none, 36, none⟩, ⟨some 83, .call { callee := .value (.func 58), args := #[.const (.string { data := #[32] }), .tmp 82], argTypes := #[9, 36] }, 36, none⟩, ⟨some 10, .assign (.tmp 83), 36, none⟩]) (.seq (.ops [⟨some 84, .move (.tmp 10), 36, none⟩, ⟨some 85, .move (.tmp 0), 36, none⟩, ⟨some 86, .move (.tmp 6), 3, none⟩, ⟨some 87, .move (.tmp 9), 3, none⟩, ⟨some 88, .slice 36 (.tmp 85) (some (.tmp 86)) (some (.tmp 87)) none, 36, none⟩, ⟨some 89, .call { callee := .value (.func 58), args := #[.const (.string { data := #[45] }), .tmp 88], argTypes := #[9, 36] }, 36, none⟩, ⟨some 90, .call { callee := .builtin .append, args := #[.tmp 84, .tmp 89], argTypes := #[36, 36] }, 36, none⟩, ⟨some 10, .assign (.tmp 90), 36, none⟩]) (.seq (.ops [⟨some 91, .move (.tmp 10), 36, none⟩, ⟨some 92, .move (.tmp 1), 36, none⟩, ⟨some 93, .move (.tmp 6), 3, none⟩, ⟨some 94, .move (.tmp 1), 36, none⟩, ⟨some 95, .call { callee := .builtin .len, args := #[.tmp 94], argTypes := #[36] }, 3, none⟩, ⟨some 96, .move (.tmp 7), 3, none⟩, ⟨some 97, .binOp .sub 3 (.tmp 95) (.tmp 96) 3, 3, none⟩, ⟨some 98, .slice 36 (.tmp 92) (some (.tmp 93)) (some (.tmp 97)) none, 36, none⟩, ⟨some 99, .call { callee := .value (.func 58), args := #[.const (.string { data := #[43] }), .tmp 98], argTypes := #[9, 36] }, 36, none⟩, ⟨some 100, .call { callee := .builtin .append, args := #[.tmp 91, .tmp 99], argTypes := #[36, 36] }, 36, none⟩, ⟨some 10, .assign (.tmp 100), 36, none⟩]) (.seq (.ops [⟨some 101, .move (.tmp 10), 36, none⟩, ⟨some 102, .move (.tmp 0), 36, none⟩, ⟨some 103, .move (.tmp 9), 3, none⟩, ⟨some 104, .move (.tmp 9), 3, none⟩, ⟨some 105, .binOp .add 3 (.tmp 104) (.const (.int .i64 2)) 3, 3, none⟩, ⟨some 106, .move (.tmp 0), 36, none⟩, ⟨some 107, .call { callee := .builtin .len, args := #[.tmp 106], argTypes := #[36] }, 3, none⟩, ⟨some 108, .call { callee := .builtin .min, args := #[.tmp 105, .tmp 107], argTypes := #[3, 3] }, 3, none⟩, ⟨some 109, .slice 36 (.tmp 102) (some (.tmp 103)) (some (.tmp 108)) none, 36, none⟩, ⟨some 110, .call { callee := .value (.func 58), args := #[.const (.string { data := #[32] }), .tmp 109], argTypes := #[9, 36] }, 36, none⟩, ⟨some 111, .call { callee := .builtin .append, args := #[.tmp 101, .tmp 110], argTypes := #[36, 36] }, 36, none⟩, ⟨some 10, .assign (.tmp 111), 36, none⟩]) (.seq (.ops [⟨some 112, .move (.tmp 8), 3, none⟩, ⟨some 113, .binOp .add 3 (.tmp 112) (.const (.int .i64 1)) 3, 3, none⟩, ⟨some 114, .move (.tmp 10), 36, none⟩, ⟨some 115, .build 46 #[(0, .tmp 113), (1, .tmp 114)], 46, none⟩, ⟨some 116, .buildSlice 32 1 #[(0, .tmp 115)], 32, none⟩, ⟨some 11, .assign (.tmp 116), 32, none⟩]) (.seq (.seq (.ops [⟨some 117, .move (.tmp 11), 32, none⟩, ⟨some 118, .call { callee := .value (.func 17), args := #[.tmp 117], argTypes := #[32] }, 4, none⟩, ⟨some 119, .unOp .not 4 (.tmp 118), 4, none⟩]) (.cond (.tmp 119) (.seq (.ops [⟨some 4, .assign (.const (.slice none 0 0)), 32, none⟩]) (.ret)) (.skip))) (q_i_DiffOf_c2))))))))
@[simp] theorem q_i_DiffOf_c3_run : type_of% (run_is q_i_DiffOf_c3.eq_1) := run_is q_i_DiffOf_c3.eq_1
def q_i_DiffOf_c4 : QCode := .seq (.ops [⟨some 7, .assign (.const (.int .i64 0)), 3, none⟩]) (.seq (.block 2 (.loop q_i_DiffOf_l1)) (q_i_DiffOf_c3))
@[simp] theorem q_i_DiffOf_c4_run : type_of% (run_is q_i_DiffOf_c4.eq_1) := run_is q_i_DiffOf_c4.eq_1
def q_i_DiffOf_c5 : QCode := .seq (.ops [⟨some 25, .move (.tmp 0), 36, none⟩, ⟨some 26, .call { callee := .builtin .len, args := #[.tmp 25], argTypes := #[36] }, 3, none⟩, ⟨some 27, .move (.tmp 1), 36, none⟩, ⟨some 28, .call { callee := .builtin .len, args := #[.tmp 27], argTypes := #[36] }, 3, none⟩, ⟨some 29, .call { callee := .builtin .min, args := #[.tmp 26, .tmp 28], argTypes := #[3, 3] }, 3, none⟩, ⟨some 5, .assign (.tmp 29), 3, none⟩]) (.seq (.ops [⟨some 6, .assign (.const (.int .i64 0)), 3, none⟩]) (.seq (.block 0 (.loop q_i_DiffOf_l0)) (q_i_DiffOf_c4)))
@[simp] theorem q_i_DiffOf_c5_run : type_of% (run_is q_i_DiffOf_c5.eq_1) := run_is q_i_DiffOf_c5.eq_1
@[simp] def q_i_DiffOf : QFn := ⟨121, [(.tmp 4, 32)], .seq (.ops [⟨some 4, .assign (.const (.slice none 0 0)), 32, none⟩]) (.seq (.seq (.ops [⟨some 12, .move (.tmp 0), 36, none⟩, ⟨some 13, .call { callee := .value (.func 56), args := #[.tmp 12], argTypes := #[36] }, 4, none⟩, ⟨some 14, .unOp .not 4 (.tmp 13), 4, none⟩, ⟨some 15, .move (.tmp 14), 4, none⟩, ⟨some 16, .move (.tmp 1), 36, some (15, false)⟩, ⟨some 17, .call { callee := .value (.func 56), args := #[.tmp 16], argTypes := #[36] }, 4, some (15, false)⟩, ⟨some 18, .unOp .not 4 (.tmp 17), 4, some (15, false)⟩, ⟨some 19, .pick (.tmp 15) (.const (.bool true)) (.tmp 18), 4, none⟩, ⟨some 20, .move (.tmp 19), 4, none⟩, ⟨some 21, .move (.tmp 0), 36, some (20, false)⟩, ⟨some 22, .move (.tmp 1), 36, some (20, false)⟩, ⟨some 23, .call { callee := .value (.func 57), args := #[.tmp 21, .tmp 22], argTypes := #[36, 36] }, 4, some (20, false)⟩, ⟨some 24, .pick (.tmp 20) (.const (.bool true)) (.tmp 23), 4, none⟩]) (.cond (.tmp 24) (.seq (.ops [⟨some 4, .assign (.const (.slice none 0 0)), 32, none⟩]) (.ret)) (.skip))) (q_i_DiffOf_c5))⟩
theorem conv_i_DiffOf : convF Try.f22 = some q_i_DiffOf := by kernel_rfl
/-! 23 w_eqStringS -/
abbrev fn_w_eqStringS : FuncId := 23
def q_w_eqStringS_c0 : QCode := .ops [⟨some 15, .move (.tmp 5), 3, none⟩, ⟨some 16, .binOp .add 3 (.tmp 15) (.const (.int .i64 1)) 3, 3, none⟩, ⟨some 5, .assign (.tmp 16), 3, none⟩]
@[simp] theorem q_w_eqStringS_c0_run : type_of% (run_is q_w_eqStringS_c0.eq_1) := run_is q_w_eqStringS_c0.eq_1
def q_w_eqStringS_c1 : QCode := .seq (.block 1 (.seq (.draw [⟨some 17, .move (.tmp 0), 36, none⟩, ⟨some 18, .move (.tmp 5), 3, none⟩, ⟨some 19, .indexAddr 36 (.tmp 17) (.tmp 18), 0, none⟩, ⟨some 20, .load 9 (.tmp 19), 9, none⟩, ⟨some 21, .move (.tmp 1), 36, none⟩, ⟨some 22, .move (.tmp 5), 3, none⟩, ⟨some 23, .indexAddr 36 (.tmp 21) (.tmp 22), 0, none⟩, ⟨some 24, .load 9 (.tmp 23), 9, none⟩] [⟨some 25, .binOp .neq 9 (.tmp 20) (.tmp 24) 9, 4, none⟩]) (.cond (.tmp 25) (.seq (.ops [⟨some 4, .assign (.const (.bool false)), 4, none⟩]) (.ret)) (.skip)))) (q_w_eqStringS_c0)
@[simp] theorem q_w_eqStringS_c1_run : type_of% (run_is q_w_eqStringS_c1.eq_1) := run_is q_w_eqStringS_c1.eq_1
def q_w_eqStringS_l0 : QCode := .seq (.seq (.ops [⟨some 11, .move (.tmp 5), 3, none⟩, ⟨some 12, .move (.tmp 0), 36, none⟩, ⟨some 13, .call { callee := .builtin .len, args := #[.tmp 12], argTypes := #[36] }, 3, none⟩, ⟨some 14, .binOp .lss 3 (.tmp 11) (.tmp 13) 3, 4, none⟩]) (.cond (.tmp 14) (.skip) (.exit 0))) (q_w_eqStringS_c1)
@[simp] theorem q_w_eqStringS_l0_run : type_of% (run_is q_w_eqStringS_l0.eq_1) := run_is q_w_eqStringS_l0.eq_1
def q_w_eqStringS_c2 : QCode := .seq (.ops [⟨some 4, .assign (.const (.bool true)), 4, none⟩]) (.ret)
@[simp] theorem q_w_eqStringS_c2_run : type_of% (run_is q_w_eqStringS_c2.eq_1) := run_is q_w_eqStringS_c2.eq_1
def q_w_eqStringS_c3 : QCode := .seq (.seq (.ops [⟨some 5, .assign (.const (.int .i64 0)), 3, none⟩]) (.block 0 (.loop q_w_eqStringS_l0))) (q_w_eqStringS_c2)
@[simp] theorem q_w_eqStringS_c3_run : type_of% (run_is q_w_eqStringS_c3.eq_1) := run_is q_w_eqStringS_c3.eq_1
@[simp] def q_w_eqStringS : QFn := ⟨26, [(.tmp 4, 4)], .seq (.ops [⟨some 4, .assign (.const (.bool false)), 4, none⟩]) (.seq (.seq (.ops [⟨some 6, .move (.tmp 0), 36, none⟩, ⟨some 7, .call { callee := .builtin .len, args := #[.tmp 6], argTypes := #[36] }, 3, none⟩, ⟨some 8, .move (.tmp 1), 36, none⟩, ⟨some 9, .call { callee := .builtin .len, args := #[.tmp 8], argTypes := #[36] }, 3, none⟩, ⟨some 10, .binOp .neq 3 (.tmp 7) (.tmp 9) 3, 4, none⟩]) (.cond (.tmp 10) (.seq (.ops [⟨some 4, .assign (.const (.bool false)), 4, none⟩]) (.ret)) (.skip))) (q_w_eqStringS_c3))⟩
theorem conv_w_eqStringS : convF Try.f23 = some q_w_eqStringS := by kernel_rfl
/-! 24 w_markStringS -/
abbrev fn_w_markStringS : FuncId := 24
def q_w_markStringS_c0 : QCode := .ops [⟨some 10, .move (.tmp 5), 3, none⟩, ⟨some 11, .binOp .add 3 (.tmp 10) (.const (.int .i64 1)) 3, 3, none⟩, ⟨some 5, .assign (.tmp 11), 3, none⟩]
@[simp] theorem q_w_markStringS_c0_run : type_of% (run_is q_w_markStringS_c0.eq_1) := run_is q_w_markStringS_c0.eq_1
def q_w_markStringS_c1 : QCode := .seq (.block 1 (.seq (.ops [⟨some 12, .move (.tmp 0), 36, none⟩, ⟨some 13, .move (.tmp 5), 3, none⟩, ⟨some 14, .move (.tmp 1), 3, none⟩, ⟨some 15, .call { callee := .value (.func 59), args := #[.tmp 14], argTypes := #[3] }, 9, none⟩, ⟨some 16, .indexAddr 36 (.tmp 12) (.tmp 13), 0, none⟩, ⟨none, .store 9 (.tmp 16) (.tmp 15), 0, none⟩]) (.ops [⟨some 17, .move (.tmp 1), 3, none⟩, ⟨some 18, .binOp .add 3 (.tmp 17) (.const (.int .i64 1)) 3, 3, none⟩, ⟨some 1, .assign (.tmp 18), 3, none⟩]))) (q_w_markStringS_c0)
@[simp] theorem q_w_markStringS_c1_run : type_of% (run_is q_w_markStringS_c1.eq_1) := run_is q_w_markStringS_c1.eq_1
def q_w_markStringS_l0 : QCode := .seq (.seq (.ops [⟨some 6, .move (.tmp 5), 3, none⟩, ⟨some 7, .move (.tmp 0), 36, none⟩, ⟨some 8, .call { callee := .builtin .len, args := #[.tmp 7], argTypes := #[36] }, 3, none⟩, ⟨some 9, .binOp .lss 3 (.tmp 6) (.tmp 8) 3, 4, none⟩]) (.cond (.tmp 9) (.skip) (.exit 0))) (q_w_markStringS_c1)
@[simp] theorem q_w_markStringS_l0_run : type_of% (run_is q_w_markStringS_l0.eq_1) := run_is q_w_markStringS_l0.eq_1
def q_w_markStringS_c2 : QCode := .seq (.ops [⟨some 19, .move (.tmp 1), 3, none⟩, ⟨some 4, .assign (.tmp 19), 3, none⟩]) (.ret)
@[simp] theorem q_w_markStringS_c2_run : type_of% (run_is q_w_markStringS_c2.eq_1) := run_is q_w_markStringS_c2.eq_1
@[simp] def q_w_markStringS : QFn := ⟨20, [(.tmp 4, 3)], .seq (.ops [⟨some 4, .assign (.const (.int .i64 0)), 3, none⟩]) (.seq (.seq (.ops [⟨some 5, .assign (.const (.int .i64 0)), 3, none⟩]) (.block 0 (.loop q_w_markStringS_l0))) (q_w_markStringS_c2))⟩
theorem conv_w_markStringS : convF Try.f24 = some q_w_markStringS := by kernel_rfl
/-! 25 w_markHunkS -/
abbrev fn_w_markHunkS : FuncId := 25
def q_w_markHunkS_c0 : QCode := .ops [⟨some 10, .move (.tmp 5), 3, none⟩, ⟨some 11, .binOp .add 3 (.tmp 10) (.const (.int .i64 1)) 3, 3, none⟩, ⟨some 5, .assign (.tmp 11), 3, none⟩]
@[simp] theorem q_w_markHunkS_c0_run : type_of% (run_is q_w_markHunkS_c0.eq_1) := run_is q_w_markHunkS_c0.eq_1
def q_w_markHunkS_c1 : QCode := .seq (.block 1 (.seq (.ops [⟨some 12, .move (.tmp 0), 32, none⟩, ⟨some 13, .move (.tmp 5), 3, none⟩, ⟨some 14, .move (.tmp 1), 3, none⟩, ⟨some 15, .indexAddr 32 (.tmp 12) (.tmp 13), 0, none⟩, ⟨some 16, .fieldAddr 46 (.tmp 15) 0, 0, none⟩, ⟨none, .store 3 (.tmp 16) (.tmp 14), 0, none⟩]) (.seq (.ops [⟨some 17, .move (.tmp 1), 3, none⟩, ⟨some 18, .binOp .add 3 (.tmp 17) (.const (.int .i64 1)) 3, 3, none⟩, ⟨some 1, .assign (.tmp 18), 3, none⟩]) (.ops [⟨some 19, .move (.tmp 0), 32, none⟩, ⟨some 20, .move (.tmp 5), 3, none⟩, ⟨some 21, .indexAddr 32 (.tmp 19) (.tmp 20), 0, none⟩, ⟨some 22, .fieldAddr 46 (.tmp 21) 1, 0, none⟩, ⟨some 23, .load 36 (.tmp 22), 36, none⟩, ⟨some 24, .move (.tmp 1), 3, none⟩, ⟨some 25, .call { callee := .value (.func 24), args := #[.tmp 23, .tmp 24], argTypes := #[36, 3] }, 3, none⟩, ⟨some 1, .assign (.tmp 25), 3, none⟩])))) (q_w_markHunkS_c0)
@[simp] theorem q_w_markHunkS_c1_run : type_of% (run_is q_w_markHunkS_c1.eq_1) := run_is q_w_markHunkS_c1.eq_1
def q_w_markHunkS_l0 : QCode := .seq (.seq (.ops [⟨some 6, .move (.tmp 5), 3, none⟩, ⟨some 7, .move (.tmp 0), 32, none⟩, ⟨some 8, .call { callee := .builtin .len, args := #[.tmp 7], argTypes := #[32] }, 3, none⟩, ⟨some 9, .binOp .lss 3 (.tmp 6) (.tmp 8) 3, 4, none⟩]) (.cond (.tmp 9) (.skip) (.exit 0))) (q_w_markHunkS_c1)
@[simp] theorem q_w_markHunkS_l0_run : type_of% (run_is q_w_markHunkS_l0.eq_1) := run_is q_w_markHunkS_l0.eq_1
def q_w_markHunkS_c2 : QCode := .seq (.ops [⟨some 26, .move (.tmp 1), 3, none⟩, ⟨some 4, .assign (.tmp 26), 3, none⟩]) (.ret)
@[simp] theorem q_w_markHunkS_c2_run : type_of% (run_is q_w_markHunkS_c2.eq_1) := run_is q_w_markHunkS_c2.eq_1
@[simp] def q_w_markHunkS : QFn := ⟨27, [(.tmp 4, 3)], .seq (.ops [⟨some 4, .assign (.const (.int .i64 0)), 3, none⟩]) (.seq (.seq (.ops [⟨some 5, .assign (.const (.int .i64 0)), 3, none⟩]) (.block 0 (.loop q_w_markHunkS_l0))) (q_w_markHunkS_c2))⟩
theorem conv_w_markHunkS : convF Try.f25 = some q_w_markHunkS := by kernel_rfl
/-! 26 w_heldHunkS -/
abbrev fn_w_heldHunkS : FuncId := 26
def q_w_heldHunkS_c0 : QCode := .seq (.ops [⟨some 19, .move (.tmp 1), 3, none⟩, ⟨some 20, .binOp .add 3 (.tmp 19) (.const (.int .i64 1)) 3, 3, none⟩, ⟨some 1, .assign (.tmp 20), 3, none⟩]) (.seq (.ops [⟨some 21, .move (.tmp 0), 32, none⟩, ⟨some 22, .move (.tmp 5), 3, none⟩, ⟨some 23, .indexAddr 32 (.tmp 21) (.tmp 22), 0, none⟩, ⟨some 24, .fieldAddr 46 (.tmp 23) 1, 0, none⟩, ⟨some 25, .load 36 (.tmp 24), 36, none⟩, ⟨some 26, .move (.tmp 1), 3, none⟩, ⟨some 27, .call { callee := .value (.func 34), args := #[.tmp 25, .tmp 26], argTypes := #[36, 3] }, 3, none⟩, ⟨some 1, .assign (.tmp 27), 3, none⟩]) (.seq (.ops [⟨some 28, .move (.tmp 1), 3, none⟩, ⟨some 29, .binOp .lss 3 (.tmp 28) (.const (.int .i64 0)) 3, 4, none⟩]) (.cond (.tmp 29) (.seq (.ops [⟨some 4, .assign (.const (.int .i64 (-1))), 3, none⟩]) (.ret)) (.skip))))
@[simp] theorem q_w_heldHunkS_c0_run : type_of% (run_is q_w_heldHunkS_c0.eq_1) := run_is q_w_heldHunkS_c0.eq_1
def q_w_heldHunkS_c1 : QCode := .ops [⟨some 10, .move (.tmp 5), 3, none⟩, ⟨some 11, .binOp .add 3 (.tmp 10) (.const (.int .i64 1)) 3, 3, none⟩, ⟨some 5, .assign (.tmp 11), 3, none⟩]
@[simp] theorem q_w_heldHunkS_c1_run : type_of% (run_is q_w_heldHunkS_c1.eq_1) := run_is q_w_heldHunkS_c1.eq_1
def q_w_heldHunkS_c2 : QCode := .seq (.block 1 (.seq (.seq (.ops [⟨some 12, .move (.tmp 0), 32, none⟩, ⟨some 13, .move (.tmp 5), 3, none⟩, ⟨some 14, .indexAddr 32 (.tmp 12) (.tmp 13), 0, none⟩, ⟨some 15, .fieldAddr 46 (.tmp 14) 0, 0, none⟩, ⟨some 16, .load 3 (.tmp 15), 3, none⟩, ⟨some 17, .move (.tmp 1), 3, none⟩, ⟨some 18, .binOp .neq 3 (.tmp 16) (.tmp 17) 3, 4, none⟩]) (.cond (.tmp 18) (.seq (.ops [⟨some 4, .assign (.const (.int .i64 (-1))), 3, none⟩]) (.ret)) (.skip))) (q_w_heldHunkS_c0))) (q_w_heldHunkS_c1)
@[simp] theorem q_w_heldHunkS_c2_run : type_of% (run_is q_w_heldHunkS_c2.eq_1) := run_is q_w_heldHunkS_c2.eq_1
def q_w_heldHunkS_l0 : QCode := .seq (.seq (.ops [⟨some 6, .move (.tmp 5), 3, none⟩, ⟨some 7, .move (.tmp 0), 32, none⟩, ⟨some 8, .call { callee := .builtin .len, args := #[.tmp 7], argTypes := #[32] }, 3, none⟩, ⟨some 9, .binOp .lss 3 (.tmp 6) (.tmp 8) 3, 4, none⟩]) (.cond (.tmp 9) (.skip) (.exit 0))) (q_w_heldHunkS_c2)
@[simp] theorem q_w_heldHunkS_l0_run : type_of% (run_is q_w_heldHunkS_l0.eq_1) := run_is q_w_heldHunkS_l0.eq_1
def q_w_heldHunkS_c3 : QCode := .seq (.ops [⟨some 30, .move (.tmp 1), 3, none⟩, ⟨some 4, .assign (.tmp 30), 3, none⟩]) (.ret)
@[simp] theorem q_w_heldHunkS_c3_run : type_of% (run_is q_w_heldHunkS_c3.eq_1) := run_is q_w_heldHunkS_c3.eq_1
@[simp] def q_w_heldHunkS : QFn := ⟨31, [(.tmp 4, 3)], .seq (.ops [⟨some 4, .assign (.const (.int .i64 0)), 3, none⟩]) (.seq (.seq (.ops [⟨some 5, .assign (.const (.int .i64 0)), 3, none⟩]) (.block 0 (.loop q_w_heldHunkS_l0))) (q_w_heldHunkS_c3))⟩
theorem conv_w_heldHunkS : convF Try.f26 = some q_w_heldHunkS := by kernel_rfl
/-! 27 s_DrawDiffOf -/
abbrev fn_s_DrawDiffOf : FuncId := 27
def q_s_DrawDiffOf_c0 : QCode := .block 2 (.ops [⟨some 27, .move (.tmp 5), 36, none⟩, ⟨some 28, .buildSlice 36 1 #[(0, .const (.string { data := #[109] }))], 36, none⟩, ⟨some 29, .call { callee := .builtin .append, args := #[.tmp 27, .tmp 28], argTypes := #[36, 36] }, 36, none⟩, ⟨some 5, .assign (.tmp 29), 36, none⟩])
@[simp] theorem q_s_DrawDiffOf_c0_run : type_of% (run_is q_s_DrawDiffOf_c0.eq_1) := run_is q_s_DrawDiffOf_c0.eq_1
def q_s_DrawDiffOf_l0 : QCode := .seq (.seq (.ops [⟨some 21, .move (.tmp 5), 36, none⟩, ⟨some 22, .call { callee := .builtin .len, args := #[.tmp 21], argTypes := #[36] }, 3, none⟩, ⟨some 23, .move (.tmp 4), 79, none⟩, ⟨some 24, .call { callee := .value (.func 62), args := #[.tmp 23, .const (.int .i64 2)], argTypes := #[79, 3] }, 3, none⟩, ⟨some 25, .binOp .add 3 (.const (.int .i64 30)) (.tmp 24) 3, 3, none⟩, ⟨some 26, .binOp .lss 3 (.tmp 22) (.tmp 25) 3, 4, none⟩]) (.cond (.tmp 26) (.skip) (.exit 1))) (q_s_DrawDiffOf_c0)
@[simp] theorem q_s_DrawDiffOf_l0_run : type_of% (run_is q_s_DrawDiffOf_l0.eq_1) := run_is q_s_DrawDiffOf_l0.eq_1
def q_s_DrawDiffOf_c1 : QCode := .seq (.ops [⟨some 30, .move (.tmp 5), 36, none⟩, ⟨some 31, .move (.tmp 4), 79, none⟩, ⟨some 32, .move (.tmp 5), 36, none⟩, ⟨some 33, .call { callee := .value (.func 63), args := #[.tmp 31, .tmp 32], argTypes := #[79, 36] }, 36, none⟩, ⟨some 2, .assign (.tmp 30), 36, none⟩, ⟨some 3, .assign (.tmp 33), 36, none⟩]) (.ret)
@[simp] theorem q_s_DrawDiffOf_c1_run : type_of% (run_is q_s_DrawDiffOf_c1.eq_1) := run_is q_s_DrawDiffOf_c1.eq_1
@[simp] def q_s_DrawDiffOf : QFn := ⟨34, [(.tmp 2, 36), (.tmp 3, 36)], .seq (.ops [⟨some 2, .assign (.const (.slice none 0 0)), 36, none⟩, ⟨some 3, .assign (.const (.slice none 0 0)), 36, none⟩]) (.seq (.ops [⟨some 6, .move (.tmp 0), 42, none⟩, ⟨some 7, .call { callee := .value (.func 60), args := #[.tmp 6], argTypes := #[42] }, 79, none⟩, ⟨some 4, .assign (.tmp 7), 79, none⟩]) (.seq (.ops [⟨some 8, .move (.tmp 4), 79, none⟩, ⟨some 9, .call { callee := .value (.func 61), args := #[.tmp 8], argTypes := #[79] }, 36, none⟩, ⟨some 5, .assign (.tmp 9), 36, none⟩]) (.seq (.seq (.ops [⟨some 10, .move (.tmp 4), 79, none⟩, ⟨some 11, .call { callee := .value (.func 62), args := #[.tmp 10, .const (.int .i64 14)], argTypes := #[79, 3] }, 3, none⟩]) (.block 0 (.seq (.ops [⟨some 13, .binOp .eql 3 (.tmp 11) (.const (.int .i64 0)) 3, 4, none⟩, ⟨some 12, .assign (.tmp 13), 4, none⟩]) (.cond (.tmp 12) (.seq (.ops [⟨some 14, .move (.tmp 5), 36, none⟩, ⟨some 15, .move (.tmp 4), 79, none⟩, ⟨some 16, .call { callee := .value (.func 61), args := #[.tmp 15], argTypes := #[79] }, 36, none⟩, ⟨some 17, .buildSlice 36 1 #[(0, .const (.string { data := #[1] }))], 36, none⟩, ⟨some 18, .call { callee := .builtin .append, args := #[.tmp 16, .tmp 17], argTypes := #[36, 36] }, 36, none⟩, ⟨some 2, .assign (.tmp 14), 36, none⟩, ⟨some 3, .assign (.tmp 18), 36, none⟩]) (.ret)) (.seq (.ops [⟨some 20, .binOp .eql 3 (.tmp 11) (.const (.int .i64 1)) 3, 4, none⟩, ⟨some 19, .assign (.tmp 20), 4, none⟩]) (.cond (.tmp 19) (.block 1 (.loop q_s_DrawDiffOf_l0)) (.skip))))))) (q_s_DrawDiffOf_c1))))⟩
theorem conv_s_DrawDiffOf : convF Try.f27 = some q_s_DrawDiffOf := by kernel_rfl
/-! 28 w_jsHunks -/
abbrev fn_w_jsHunks : FuncId := 28
def q_w_jsHunks_c0 : QCode := .ops [⟨some 15, .move (.tmp 5), 3, none⟩, ⟨some 16, .binOp .add 3 (.tmp 15) (.const (.int .i64 1)) 3, 3, none⟩, ⟨some 5, .assign (.tmp 16), 3, none⟩]
@[simp] theorem q_w_jsHunks_c0_run : type_of% (run_is q_w_jsHunks_c0.eq_1) := run_is q_w_jsHunks_c0.eq_1
def q_w_jsHunks_c1 : QCode := .seq (.block 1 (.seq (.draw [⟨some 17, .move (.tmp 0), 32, none⟩, ⟨some 18, .move (.tmp 5), 3, none⟩, ⟨some 19, .indexAddr 32 (.tmp 17) (.tmp 18), 0, none⟩, ⟨some 20, .fieldAddr 46 (.tmp 19) 0, 0, none⟩, ⟨some 21, .load 3 (.tmp 20), 3, none⟩, ⟨some 22, .move (.tmp 1), 32, none⟩, ⟨some 23, .move (.tmp 5), 3, none⟩, ⟨some 24, .indexAddr 32 (.tmp 22) (.tmp 23), 0, none⟩, ⟨some 25, .fieldAddr 46 (.tmp 24) 0, 0, none⟩, ⟨some 26, .load 3 (.tmp 25), 3, none⟩, ⟨some 27, .binOp .neq 3 (.tmp 21) (.tmp 26) 3, 4, none⟩, ⟨some 28, .move (.tmp 27), 4, none⟩, ⟨some 29, .move (.tmp 0), 32, some (28, false)⟩, ⟨some 30, .move (.tmp 5), 3, some (28, false)⟩, ⟨some 31, .indexAddr 32 (.tmp 29) (.tmp 30), 0, some (28, false)⟩, ⟨some 32, .fieldAddr 46 (.tmp 31) 1, 0, some (28, false)⟩, ⟨some 33, .load 36 (.tmp 32), 36, some (28, false)⟩, ⟨some 34, .move (.tmp 1), 32, some (28, false)⟩, ⟨some 35, .move (.tmp 5), 3, some (28, false)⟩, ⟨some 36, .indexAddr 32 (.tmp 34) (.tmp 35), 0, some (28, false)⟩, ⟨some 37, .fieldAddr 46 (.tmp 36) 1, 0, some (28, false)⟩, ⟨some 38, .load 36 (.tmp 37), 36, some (28, false)⟩] [⟨some 39, .call { callee := .value (.func 30), args := #[.tmp 33, .tmp 38], argTypes := #[36, 36] }, 4, some (28, false)⟩, ⟨some 40, .unOp .not 4 (.tmp 39), 4, some (28, false)⟩, ⟨some 41, .pick (.tmp 28) (.const (.bool true)) (.tmp 40), 4, none⟩]) (.cond (.tmp 41) (.seq (.ops [⟨some 4, .assign (.const (.bool false)), 4, none⟩]) (.ret)) (.skip)))) (q_w_jsHunks_c0)
@[simp] theorem q_w_jsHunks_c1_run : type_of% (run_is q_w_jsHunks_c1.eq_1) := run_is q_w_jsHunks_c1.eq_1
def q_w_jsHunks_l0 : QCode := .seq (.seq (.ops [⟨some 11, .move (.tmp 5), 3, none⟩, ⟨some 12, .move (.tmp 0), 32, none⟩, ⟨some 13, .call { callee := .builtin .len, args := #[.tmp 12], argTypes := #[32] }, 3, none⟩, ⟨some 14, .binOp .lss 3 (.tmp 11) (.tmp 13) 3, 4, none⟩]) (.cond (.tmp 14) (.skip) (.exit 0))) (q_w_jsHunks_c1)
@[simp] theorem q_w_jsHunks_l0_run : type_of% (run_is q_w_jsHunks_l0.eq_1) := run_is q_w_jsHunks_l0.eq_1
def q_w_jsHunks_c2 : QCode := .seq (.ops [⟨some 4, .assign (.const (.bool true)), 4, none⟩]) (.ret)
@[simp] theorem q_w_jsHunks_c2_run : type_of% (run_is q_w_jsHunks_c2.eq_1) := run_is q_w_jsHunks_c2.eq_1
def q_w_jsHunks_c3 : QCode := .seq (.seq (.ops [⟨some 5, .assign (.const (.int .i64 0)), 3, none⟩]) (.block 0 (.loop q_w_jsHunks_l0))) (q_w_jsHunks_c2)
@[simp] theorem q_w_jsHunks_c3_run : type_of% (run_is q_w_jsHunks_c3.eq_1) := run_is q_w_jsHunks_c3.eq_1
@[simp] def q_w_jsHunks : QFn := ⟨42, [(.tmp 4, 4)], .seq (.ops [⟨some 4, .assign (.const (.bool false)), 4, none⟩]) (.seq (.seq (.ops [⟨some 6, .move (.tmp 0), 32, none⟩, ⟨some 7, .call { callee := .builtin .len, args := #[.tmp 6], argTypes := #[32] }, 3, none⟩, ⟨some 8, .move (.tmp 1), 32, none⟩, ⟨some 9, .call { callee := .builtin .len, args := #[.tmp 8], argTypes := #[32] }, 3, none⟩, ⟨some 10, .binOp .neq 3 (.tmp 7) (.tmp 9) 3, 4, none⟩]) (.cond (.tmp 10) (.seq (.ops [⟨some 4, .assign (.const (.bool false)), 4, none⟩]) (.ret)) (.skip))) (q_w_jsHunks_c3))⟩
theorem conv_w_jsHunks : convF Try.f28 = some q_w_jsHunks := by kernel_rfl
/-! 29 i_Patch -/
abbrev fn_i_Patch : FuncId := 29
def q_i_Patch_c0 : QCode := .ops [⟨some 43, .binOp .add 3 (.tmp 33) (.const (.int .i64 1)) 3, 3, none⟩, ⟨some 33, .move (.tmp 43), 3, none⟩]
@[simp] theorem q_i_Patch_c0_run : type_of% (run_is q_i_Patch_c0.eq_1) := run_is q_i_Patch_c0.eq_1
def q_i_Patch_c1 : QCode := .seq (.block 1 (.seq (.ops [⟨some 35, .indexAddr 32 (.tmp 31) (.tmp 33), 0, none⟩, ⟨some 36, .load 46 (.tmp 35), 46, none⟩, ⟨some 11, .alloc 46, 0, none⟩, ⟨none, .store 46 (.tmp 11) (.tmp 36), 0, none⟩]) (.seq (.ops [⟨some 37, .load 46 (.tmp 11), 46, none⟩, ⟨some 38, .move (.tmp 2), 3, none⟩, ⟨some 39, .call { callee := .value (.func 65), args := #[.tmp 9, .tmp 37, .tmp 38], argTypes := #[85, 46, 3] }, 4, none⟩, ⟨some 40, .unOp .not 4 (.tmp 39), 4, none⟩]) (.cond (.tmp 40) (.seq (.ops [⟨some 41, .move (.tmp 0), 36, none⟩, ⟨some 42, .call { callee := .value (.func 64), args := #[.tmp 41], argTypes := #[36] }, 36, none⟩, ⟨some 6, .assign (.tmp 42), 36, none⟩, ⟨some 7, .assign (.const (.slice none 0 0)), 47, none⟩, ⟨some 8, .assign (.const (.bool false)), 4, none⟩]) (.ret)) (.skip))))) (q_i_Patch_c0)
@[simp] theorem q_i_Patch_c1_run : type_of% (run_is q_i_Patch_c1.eq_1) := run_is q_i_Patch_c1.eq_1
def q_i_Patch_l0 : QCode := .seq (.ops [⟨some 34, .binOp .lss 3 (.tmp 33) (.tmp 32) 3, 0, none⟩]) (.seq (.cond (.tmp 34) (.skip) (.exit 0)) (q_i_Patch_c1))
@[simp] theorem q_i_Patch_l0_run : type_of% (run_is q_i_Patch_l0.eq_1) := run_is q_i_Patch_l0.eq_1
def q_i_Patch_c2 : QCode := .seq (.draw [⟨some 50, .fieldAddr 85 (.tmp 9) 0, 0, none⟩, ⟨some 51, .load 36 (.tmp 50), 36, none⟩, ⟨some 52, .fieldAddr 85 (.tmp 9) 3, 0, none⟩, ⟨some 53, .load 47 (.tmp 52), 47, none⟩, ⟨some 6, .assign (.tmp 51), 36, none⟩] [⟨some 7, .assign (.tmp 53), 47, none⟩, ⟨some 8, .assign (.const (.bool true)), 4, none⟩]) (.ret)
@[simp] theorem q_i_Patch_c2_run : type_of% (run_is q_i_Patch_c2.eq_1) := run_is q_i_Patch_c2.eq_1
def q_i_Patch_c3 : QCode := .seq (.seq (.ops [⟨some 44, .fieldAddr 85 (.tmp 9) 0, 0, none⟩, ⟨some 45, .load 36 (.tmp 44), 36, none⟩, ⟨some 46, .call { callee := .value (.func 56), args := #[.tmp 45], argTypes := #[36] }, 4, none⟩, ⟨some 47, .unOp .not 4 (.tmp 46), 4, none⟩]) (.cond (.tmp 47) (.seq (.ops [⟨some 48, .move (.tmp 0), 36, none⟩, ⟨some 49, .call { callee := .value (.func 64), args := #[.tmp 48], argTypes := #[36] }, 36, none⟩, ⟨some 6, .assign (.tmp 49), 36, none⟩, ⟨some 7, .assign (.const (.slice none 0 0)), 47, none⟩, ⟨some 8, .assign (.const (.bool false)), 4, none⟩]) (.ret)) (.skip))) (q_i_Patch_c2)
@[simp] theorem q_i_Patch_c3_run : type_of% (run_is q_i_Patch_c3.eq_1) := run_is q_i_Patch_c3.eq_1
def q_i_Patch_c4 : QCode := .seq (.ops [⟨some 28, .move (.tmp 0), 36, none⟩, ⟨some 29, .call { callee := .value (.func 64), args := #[.tmp 28], argTypes := #[36] }, 36, none⟩, ⟨some 30, .build 85 #[(0, .tmp 29)], 85, none⟩, ⟨some 9, .alloc 85, 0, none⟩, ⟨none, .store 85 (.tmp 9) (.tmp 30), 0, none⟩]) (.seq (.seq (.ops [⟨some 31, .move (.tmp 1), 32, none⟩, ⟨some 32, .call { callee := .builtin .len, args := #[.tmp 31], argTypes := #[32] }, 3, none⟩, ⟨some 33, .move (.const (.int .i64 0)), 3, none⟩]) (.block 0 (.loop q_i_Patch_l0))) (q_i_Patch_c3))
@[simp] theorem q_i_Patch_c4_run : type_of% (run_is q_i_Patch_c4.eq_1) := run_is q_i_Patch_c4.eq_1
@[simp] def q_i_Patch : QFn := ⟨54, [(.tmp 6, 36), (.tmp 7, 47), (.tmp 8, 4)], .seq (.ops [⟨some 6, .assign (.const (.slice none 0 0)), 36, none⟩, ⟨some 7, .assign (.const (.slice none 0 0)), 47, none⟩, ⟨some 8, .assign (.const (.bool false)), 4, none⟩]) (.seq (.seq (.ops [⟨some 12, .move (.tmp 0), 36, none⟩, ⟨some 13, .call { callee := .value (.func 56), args := #[.tmp 12], argTypes := #[36] }, 4, none⟩, ⟨some 14, .unOp .not 4 (.tmp 13), 4, none⟩, ⟨some 15, .move (.tmp 14), 4, none⟩, ⟨some 16, .move (.tmp 1), 32, some (15, false)⟩, ⟨some 17, .call { callee := .value (.func 17), args := #[.tmp 16], argTypes := #[32] }, 4, some (15, false)⟩, ⟨some 18, .unOp .not 4 (.tmp 17), 4, some (15, false)⟩, ⟨some 19, .pick (.tmp 15) (.const (.bool true)) (.tmp 18), 4, none⟩, ⟨some 20, .move (.tmp 19), 4, none⟩, ⟨some 21, .move (.tmp 2), 3, some (20, false)⟩, ⟨some 22, .binOp .lss 3 (.tmp 21) (.const (.int .i64 0)) 3, 4, some (20, false)⟩, ⟨some 23, .pick (.tmp 20) (.const (.bool true)) (.tmp 22), 4, none⟩, ⟨some 24, .move (.tmp 23), 4, none⟩, ⟨some 25, .move (.tmp 2), 3, some (24, false)⟩, ⟨some 26, .binOp .gtr 3 (.tmp 25) (.const (.int .i64 2)) 3, 4, some (24, false)⟩, ⟨some 27, .pick (.tmp 24) (.const (.bool true)) (.tmp 26), 4, none⟩]) (.cond (.tmp 27) (.seq (.ops [⟨some 6, .assign (.const (.slice none 0 0)), 36, none⟩, ⟨some 7, .assign (.const (.slice none 0 0)), 47, none⟩, ⟨some 8, .assign (.const (.bool false)), 4, none⟩]) (.ret)) (.skip))) (q_i_Patch_c4))⟩
theorem conv_i_Patch : convF Try.f29 = some q_i_Patch := by kernel_rfl
/-! 30 w_jsTexts -/
abbrev fn_w_jsTexts : FuncId := 30
def q_w_jsTexts_c0 : QCode := .ops [⟨some 15, .move (.tmp 5), 3, none⟩, ⟨some 16, .binOp .add 3 (.tmp 15) (.const (.int .i64 1)) 3, 3, none⟩, ⟨some 5, .assign (.tmp 16), 3, none⟩]
@[simp] theorem q_w_jsTexts_c0_run : type_of% (run_is q_w_jsTexts_c0.eq_1) := run_is q_w_jsTexts_c0.eq_1
def q_w_jsTexts_c1 : QCode := .seq (.block 1 (.seq (.draw [⟨some 17, .move (.tmp 0), 36, none⟩, ⟨some 18, .move (.tmp 5), 3, none⟩, ⟨some 19, .indexAddr 36 (.tmp 17) (.tmp 18), 0, none⟩, ⟨some 20, .load 9 (.tmp 19), 9, none⟩, ⟨some 21, .move (.tmp 1), 36, none⟩, ⟨some 22, .move (.tmp 5), 3, none⟩, ⟨some 23, .indexAddr 36 (.tmp 21) (.tmp 22), 0, none⟩, ⟨some 24, .load 9 (.tmp 23), 9, none⟩] [⟨some 25, .binOp .neq 9 (.tmp 20) (.tmp 24) 9, 4, none⟩]) (.cond (.tmp 25) (.seq (.ops [⟨some 4, .assign (.const (.bool false)), 4, none⟩]) (.ret)) (.skip)))) (q_w_jsTexts_c0)
@[simp] theorem q_w_jsTexts_c1_run : type_of% (run_is q_w_jsTexts_c1.eq_1) := run_is q_w_jsTexts_c1.eq_1
def q_w_jsTexts_l0 : QCode := .seq (.seq (.ops [⟨some 11, .move (.tmp 5), 3, none⟩, ⟨some 12, .move (.tmp 0), 36, none⟩, ⟨some 13, .call { callee := .builtin .len, args := #[.tmp 12], argTypes := #[36] }, 3, none⟩, ⟨some 14, .binOp .lss 3 (.tmp 11) (.tmp 13) 3, 4, none⟩]) (.cond (.tmp 14) (.skip) (.exit 0))) (q_w_jsTexts_c1)
@[simp] theorem q_w_jsTexts_l0_run : type_of% (run_is q_w_jsTexts_l0.eq_1) := run_is q_w_jsTexts_l0.eq_1
def q_w_jsTexts_c2 : QCode := .seq (.ops [⟨some 4, .assign (.const (.bool true)), 4, none⟩]) (.ret)
@[simp] theorem q_w_jsTexts_c2_run : type_of% (run_is q_w_jsTexts_c2.eq_1) := run_is q_w_jsTexts_c2.eq_1
def q_w_jsTexts_c3 : QCode := .seq (.seq (.ops [⟨some 5, .assign (.const (.int .i64 0)), 3, none⟩]) (.block 0 (.loop q_w_jsTexts_l0))) (q_w_jsTexts_c2)
@[simp] theorem q_w_jsTexts_c3_run : type_of% (run_is q_w_jsTexts_c3.eq_1) := run_is q_w_jsTexts_c3.eq_1
@[simp] def q_w_jsTexts : QFn := ⟨26, [(.tmp 4, 4)], .seq (.ops [⟨some 4, .assign (.const (.bool false)), 4, none⟩]) (.seq (.seq (.ops [⟨some 6, .move (.tmp 0), 36, none⟩, ⟨some 7, .call { callee := .builtin .len, args := #[.tmp 6], argTypes := #[36] }, 3, none⟩, ⟨some 8, .move (.tmp 1), 36, none⟩, ⟨some 9, .call { callee := .builtin .len, args := #[.tmp 8], argTypes := #[36] }, 3, none⟩, ⟨some 10, .binOp .neq 3 (.tmp 7) (.tmp 9) 3, 4, none⟩]) (.cond (.tmp 10) (.seq (.ops [⟨some 4, .assign (.const (.bool false)), 4, none⟩]) (.ret)) (.skip))) (q_w_jsTexts_c3))⟩
theorem conv_w_jsTexts : convF Try.f30 = some q_w_jsTexts := by kernel_rfl
/-! 31 s_Patch -/
abbrev fn_s_Patch : FuncId := 31
def q_s_Patch_c0 : QCode := .seq (.ops [⟨some 63, .move (.tmp 14), 36, none⟩, ⟨some 9, .assign (.tmp 63), 36, none⟩]) (.seq (.ops [⟨some 64, .move (.tmp 15), 3, none⟩, ⟨some 11, .assign (.tmp 64), 3, none⟩]) (.seq (.draw [⟨some 65, .move (.tmp 12), 3, none⟩, ⟨some 66, .move (.tmp 16), 3, none⟩, ⟨some 67, .binOp .add 3 (.tmp 65) (.tmp 66) 3, 3, none⟩, ⟨some 68, .move (.tmp 1), 32, none⟩, ⟨some 69, .move (.tmp 13), 3, none⟩, ⟨some 70, .indexAddr 32 (.tmp 68) (.tmp 69), 0, none⟩, ⟨some 71, .load 46 (.tmp 70), 46, none⟩, ⟨some 72, .call { callee := .value (.func 68), args := #[.tmp 71], argTypes := #[46] }, 36, none⟩, ⟨some 73, .call { callee := .builtin .len, args := #[.tmp 72], argTypes := #[36] }, 3, none⟩, ⟨some 74, .binOp .add 3 (.tmp 67) (.tmp 73) 3, 3, none⟩, ⟨some 75, .move (.tmp 1), 32, none⟩, ⟨some 76, .move (.tmp 13), 3, none⟩, ⟨some 77, .indexAddr 32 (.tmp 75) (.tmp 76), 0, none⟩, ⟨some 78, .load 46 (.tmp 77), 46, none⟩, ⟨some 79, .call { callee := .value (.func 48), args := #[.tmp 78], argTypes := #[46] }, 36, none⟩, ⟨some 80, .call { callee := .builtin .len, args := #[.tmp 79], argTypes := #[36] }, 3, none⟩] [⟨some 81, .binOp .sub 3 (.tmp 74) (.tmp 80) 3, 3, none⟩, ⟨some 12, .assign (.tmp 81), 3, none⟩]) (.ops [⟨some 82, .move (.tmp 10), 47, none⟩, ⟨some 83, .move (.tmp 16), 3, none⟩, ⟨some 84, .buildSlice 47 1 #[(0, .tmp 83)], 47, none⟩, ⟨some 85, .call { callee := .builtin .append, args := #[.tmp 82, .tmp 84], argTypes := #[47, 47] }, 47, none⟩, ⟨some 10, .assign (.tmp 85), 47, none⟩])))
@[simp] theorem q_s_Patch_c0_run : type_of% (run_is q_s_Patch_c0.eq_1) := run_is q_s_Patch_c0.eq_1
def q_s_Patch_c1 : QCode := .ops [⟨some 41, .move (.tmp 13), 3, none⟩, ⟨some 42, .binOp .add 3 (.tmp 41) (.const (.int .i64 1)) 3, 3, none⟩, ⟨some 13, .assign (.tmp 42), 3, none⟩]
@[simp] theorem q_s_Patch_c1_run : type_of% (run_is q_s_Patch_c1.eq_1) := run_is q_s_Patch_c1.eq_1
def q_s_Patch_c2 : QCode := .seq (.block 1 (.seq (.ops [⟨some 44, .move (.tmp 9), 36, none⟩, ⟨some 45, .move (.tmp 1), 32, none⟩, ⟨some 46, .move (.tmp 13), 3, none⟩, ⟨some 47, .indexAddr 32 (.tmp 45) (.tmp 46), 0, none⟩, ⟨some 48, .load 46 (.tmp 47), 46, none⟩, ⟨some 49, .move (.tmp 11), 3, none⟩, ⟨some 50, .move (.tmp 12), 3, none⟩, ⟨some 51, .move (.tmp 2), 3, none⟩, ⟨some 52, .call { callee := .value (.func 67), args := #[.tmp 44, .tmp 48, .tmp 49, .tmp 50, .tmp 51], argTypes := #[36, 46, 3, 3, 3] }, 88, none⟩, ⟨some 43, .move (.tmp 52), 88, none⟩, ⟨some 53, .extract (.tmp 43) 0, 36, none⟩, ⟨some 54, .extract (.tmp 43) 1, 3, none⟩, ⟨some 55, .extract (.tmp 43) 2, 3, none⟩, ⟨some 56, .extract (.tmp 43) 3, 4, none⟩, ⟨some 14, .assign (.tmp 53), 36, none⟩, ⟨some 15, .assign (.tmp 54), 3, none⟩, ⟨some 16, .assign (.tmp 55), 3, none⟩, ⟨some 17, .assign (.tmp 56), 4, none⟩]) (.seq (.seq (.ops [⟨some 57, .move (.tmp 17), 4, none⟩, ⟨some 58, .unOp .not 4 (.tmp 57), 4, none⟩]) (.cond (.tmp 58) (.seq (.ops [⟨some 59, .buildSlice 36 0 #[], 36, none⟩, ⟨some 60, .move (.tmp 0), 36, none⟩, ⟨some 61, .call { callee := .builtin .append, args := #[.tmp 59, .tmp 60], argTypes := #[36, 36] }, 36, none⟩, ⟨some 62, .buildSlice 47 0 #[], 47, none⟩, ⟨some 6, .assign (.tmp 61), 36, none⟩, ⟨some 7, .assign (.tmp 62), 47, none⟩, ⟨some 8, .assign (.const (.bool false)), 4, none⟩]) (.ret)) (.skip))) (q_s_Patch_c0)))) (q_s_Patch_c1)
@[simp] theorem q_s_Patch_c2_run : type_of% (run_is q_s_Patch_c2.eq_1) := run_is q_s_Patch_c2.eq_1
def q_s_Patch_l0 : QCode := .seq (.seq (.ops [⟨some 37, .move (.tmp 13), 3, none⟩, ⟨some 38, .move (.tmp 1), 32, none⟩, ⟨some 39, .call { callee := .builtin .len, args := #[.tmp 38], argTypes := #[32] }, 3, none⟩, ⟨some 40, .binOp .lss 3 (.tmp 37) (.tmp 39) 3, 4, none⟩]) (.cond (.tmp 40) (.skip) (.exit 0))) (q_s_Patch_c2)
@[simp] theorem q_s_Patch_l0_run : type_of% (run_is q_s_Patch_l0.eq_1) := run_is q_s_Patch_l0.eq_1
def q_s_Patch_c3 : QCode := .seq (.ops [⟨some 93, .move (.tmp 9), 36, none⟩, ⟨some 94, .move (.tmp 10), 47, none⟩, ⟨some 6, .assign (.tmp 93), 36, none⟩, ⟨some 7, .assign (.tmp 94), 47, none⟩, ⟨some 8, .assign (.const (.bool true)), 4, none⟩]) (.ret)
@[simp] theorem q_s_Patch_c3_run : type_of% (run_is q_s_Patch_c3.eq_1) := run_is q_s_Patch_c3.eq_1
def q_s_Patch_c4 : QCode := .seq (.seq (.ops [⟨some 86, .move (.tmp 9), 36, none⟩, ⟨some 87, .call { callee := .value (.func 54), args := #[.tmp 86], argTypes := #[36] }, 4, none⟩, ⟨some 88, .unOp .not 4 (.tmp 87), 4, none⟩]) (.cond (.tmp 88) (.seq (.ops [⟨some 89, .buildSlice 36 0 #[], 36, none⟩, ⟨some 90, .move (.tmp 0), 36, none⟩, ⟨some 91, .call { callee := .builtin .append, args := #[.tmp 89, .tmp 90], argTypes := #[36, 36] }, 36, none⟩, ⟨some 92, .buildSlice 47 0 #[], 47, none⟩, ⟨some 6, .assign (.tmp 91), 36, none⟩, ⟨some 7, .assign (.tmp 92), 47, none⟩, ⟨some 8, .assign (.const (.bool false)), 4, none⟩]) (.ret)) (.skip))) (q_s_Patch_c3)
@[simp] theorem q_s_Patch_c4_run : type_of% (run_is q_s_Patch_c4.eq_1) := run_is q_s_Patch_c4.eq_1
def q_s_Patch_c5 : QCode := .seq (.ops [⟨some 33, .buildSlice 36 0 #[], 36, none⟩, ⟨some 34, .move (.tmp 0), 36, none⟩, ⟨some 35, .call { callee := .builtin .append, args := #[.tmp 33, .tmp 34], argTypes := #[36, 36] }, 36, none⟩, ⟨some 9, .assign (.tmp 35), 36, none⟩]) (.seq (.ops [⟨some 36, .buildSlice 47 0 #[], 47, none⟩, ⟨some 10, .assign (.tmp 36), 47, none⟩]) (.seq (.ops [⟨some 11, .assign (.const (.int .i64 0)), 3, none⟩]) (.seq (.ops [⟨some 12, .assign (.const (.int .i64 0)), 3, none⟩]) (.seq (.seq (.ops [⟨some 13, .assign (.const (.int .i64 0)), 3, none⟩]) (.block 0 (.loop q_s_Patch_l0))) (q_s_Patch_c4)))))
@[simp] theorem q_s_Patch_c5_run : type_of% (run_is q_s_Patch_c5.eq_1) := run_is q_s_Patch_c5.eq_1
@[simp] def q_s_Patch : QFn := ⟨95, [(.tmp 6, 36), (.tmp 7, 47), (.tmp 8, 4)], .seq (.ops [⟨some 6, .assign (.const (.slice none 0 0)), 36, none⟩, ⟨some 7, .assign (.const (.slice none 0 0)), 47, none⟩, ⟨some 8, .assign (.const (.bool false)), 4, none⟩]) (.seq (.seq (.ops [⟨some 18, .move (.tmp 0), 36, none⟩, ⟨some 19, .call { callee := .value (.func 54), args := #[.tmp 18], argTypes := #[36] }, 4, none⟩, ⟨some 20, .unOp .not 4 (.tmp 19), 4, none⟩, ⟨some 21, .move (.tmp 20), 4, none⟩, ⟨some 22, .move (.tmp 1), 32, some (21, false)⟩, ⟨some 23, .call { callee := .value (.func 15), args := #[.tmp 22], argTypes := #[32] }, 4, some (21, false)⟩, ⟨some 24, .unOp .not 4 (.tmp 23), 4, some (21, false)⟩, ⟨some 25, .pick (.tmp 21) (.const (.bool true)) (.tmp 24), 4, none⟩, ⟨some 26, .move (.tmp 25), 4, none⟩, ⟨some 27, .move (.tmp 2), 3, some (26, false)⟩, ⟨some 28, .call { callee := .value (.func 66), args := #[.tmp 27, .const (.int .i64 0), .const (.int .i64 2)], argTypes := #[3, 3, 3] }, 4, some (26, false)⟩, ⟨some 29, .unOp .not 4 (.tmp 28), 4, some (26, false)⟩, ⟨some 30, .pick (.tmp 26) (.const (.bool true)) (.tmp 29), 4, none⟩]) (.cond (.tmp 30) (.seq (.ops [⟨some 31, .buildSlice 36 0 #[], 36, none⟩, ⟨some 32, .buildSlice 47 0 #[], 47, none⟩, ⟨some 6, .assign (.tmp 31), 36, none⟩, ⟨some 7, .assign (.tmp 32), 47, none⟩, ⟨some 8, .assign (.const (.bool false)), 4, none⟩]) (.ret)) (.skip))) (q_s_Patch_c5))⟩
theorem conv_s_Patch : convF Try.f31 = some q_s_Patch := by kernel_rfl
abbrev fn_w_markIntS : FuncId := 33
/-! 34 w_heldStringS -/
abbrev fn_w_heldStringS : FuncId := 34
def q_w_heldStringS_c0 : QCode := .ops [⟨some 19, .move (.tmp 1), 3, none⟩, ⟨some 20, .binOp .add 3 (.tmp 19) (.const (.int .i64 1)) 3, 3, none⟩, ⟨some 1, .assign (.tmp 20), 3, none⟩]
@[simp] theorem q_w_heldStringS_c0_run : type_of% (run_is q_w_heldStringS_c0.eq_1) := run_is q_w_heldStringS_c0.eq_1
def q_w_heldStringS_c1 : QCode := .ops [⟨some 10, .move (.tmp 5), 3, none⟩, ⟨some 11, .binOp .add 3 (.tmp 10) (.const (.int .i64 1)) 3, 3, none⟩, ⟨some 5, .assign (.tmp 11), 3, none⟩]
@[simp] theorem q_w_heldStringS_c1_run : type_of% (run_is q_w_heldStringS_c1.eq_1) := run_is q_w_heldStringS_c1.eq_1
def q_w_heldStringS_c2 : QCode := .seq (.block 1 (.seq (.seq (.draw [⟨some 12, .move (.tmp 0), 36, none⟩, ⟨some 13, .move (.tmp 5), 3, none⟩, ⟨some 14, .indexAddr 36 (.tmp 12) (.tmp 13), 0, none⟩, ⟨some 15, .load 9 (.tmp 14), 9, none⟩, ⟨some 16, .move (.tmp 1), 3, none⟩, ⟨some 17, .call { callee := .value (.func 59), args := #[.tmp 16], argTypes := #[3] }, 9, none⟩] [⟨some 18, .binOp .neq 9 (.tmp 15) (.tmp 17) 9, 4, none⟩]) (.cond (.tmp 18) (.seq (.ops [⟨some 4, .assign (.const (.int .i64 (-1))), 3, none⟩]) (.ret)) (.skip))) (q_w_heldStringS_c0))) (q_w_heldStringS_c1)
@[simp] theorem q_w_heldStringS_c2_run : type_of% (run_is q_w_heldStringS_c2.eq_1) := run_is q_w_heldStringS_c2.eq_1
def q_w_heldStringS_l0 : QCode := .seq (.seq (.ops [⟨some 6, .move (.tmp 5), 3, none⟩, ⟨some 7, .move (.tmp 0), 36, none⟩, ⟨some 8, .call { callee := .builtin .len, args := #[.tmp 7], argTypes := #[36] }, 3, none⟩, ⟨some 9, .binOp .lss 3 (.tmp 6) (.tmp 8) 3, 4, none⟩]) (.cond (.tmp 9) (.skip) (.exit 0))) (q_w_heldStringS_c2)
@[simp] theorem q_w_heldStringS_l0_run : type_of% (run_is q_w_heldStringS_l0.eq_1) := run_is q_w_heldStringS_l0.eq_1
def q_w_heldStringS_c3 : QCode := .seq (.ops [⟨some 21, .move (.tmp 1), 3, none⟩, ⟨some 4, .assign (.tmp 21), 3, none⟩]) (.ret)
@[simp] theorem q_w_heldStringS_c3_run : type_of% (run_is q_w_heldStringS_c3.eq_1) := run_is q_w_heldStringS_c3.eq_1
@[simp] def q_w_heldStringS : QFn := ⟨22, [(.tmp 4, 3)], .seq (.ops [⟨some 4, .assign (.const (.int .i64 0)), 3, none⟩]) (.seq (.seq (.ops [⟨some 5, .assign (.const (.int .i64 0)), 3, none⟩]) (.block 0 (.loop q_w_heldStringS_l0))) (q_w_heldStringS_c3))⟩
theorem conv_w_heldStringS : convF Try.f34 = some q_w_heldStringS := by kernel_rfl
/-! 46 w_szHunk -/
abbrev fn_w_szHunk : FuncId := 46
def q_w_szHunk_c0 : QCode := .seq (.ops [⟨some 11, .move (.tmp 1), 3, none⟩, ⟨some 4, .assign (.tmp 11), 3, none⟩]) (.ret)
@[simp] theorem q_w_szHunk_c0_run : type_of% (run_is q_w_szHunk_c0.eq_1) := run_is q_w_szHunk_c0.eq_1
@[simp] def q_w_szHunk : QFn := ⟨12, [(.tmp 4, 3)], .seq (.ops [⟨some 2, .box 68 (.tmp 0), 0, none⟩, ⟨some 4, .assign (.const (.int .i64 0)), 3, none⟩]) (.seq (.ops [⟨some 5, .fieldAddr 68 (.tmp 2) 1, 0, none⟩, ⟨some 6, .load 36 (.tmp 5), 36, none⟩, ⟨some 7, .move (.tmp 1), 3, none⟩, ⟨some 8, .call { callee := .value (.func 19), args := #[.tmp 6, .tmp 7], argTypes := #[36, 3] }, 3, none⟩, ⟨some 1, .assign (.tmp 8), 3, none⟩]) (.seq (.seq (.ops [⟨some 9, .move (.tmp 1), 3, none⟩, ⟨some 10, .binOp .lss 3 (.tmp 9) (.const (.int .i64 0)) 3, 4, none⟩]) (.cond (.tmp 10) (.seq (.ops [⟨some 4, .assign (.const (.int .i64 (-1))), 3, none⟩]) (.ret)) (.skip))) (q_w_szHunk_c0)))⟩
theorem conv_w_szHunk : convF Try.f46 = some q_w_szHunk := by kernel_rfl
/-! 47 s_l5Hunk -/
abbrev fn_s_l5Hunk : FuncId := 47
def q_s_l5Hunk_c0 : QCode := .ops [⟨some 10, .move (.tmp 3), 3, none⟩, ⟨some 11, .binOp .add 3 (.tmp 10) (.const (.int .i64 1)) 3, 3, none⟩, ⟨some 3, .assign (.tmp 11), 3, none⟩]
@[simp] theorem q_s_l5Hunk_c0_run : type_of% (run_is q_s_l5Hunk_c0.eq_1) := run_is q_s_l5Hunk_c0.eq_1
def q_s_l5Hunk_c1 : QCode := .seq (.block 1 (.seq (.ops [⟨some 12, .fieldAddr 46 (.tmp 1) 1, 0, none⟩, ⟨some 13, .load 36 (.tmp 12), 36, none⟩, ⟨some 14, .move (.tmp 3), 3, none⟩, ⟨some 15, .indexAddr 36 (.tmp 13) (.tmp 14), 0, none⟩, ⟨some 16, .load 9 (.tmp 15), 9, none⟩, ⟨some 4, .assign (.tmp 16), 9, none⟩]) (.seq (.ops [⟨some 17, .move (.tmp 4), 9, none⟩, ⟨some 18, .binOp .eql 9 (.tmp 17) (.const (.string { data := #[] })) 9, 4, none⟩, ⟨some 19, .move (.tmp 18), 4, none⟩, ⟨some 20, .move (.tmp 4), 9, some (19, false)⟩, ⟨some 21, .index 9 (.tmp 20) (.const (.int .i64 0)), 5, some (19, false)⟩, ⟨some 22, .binOp .neq 5 (.tmp 21) (.const (.int .u8 32)) 5, 4, some (19, false)⟩, ⟨some 23, .move (.tmp 22), 4, some (19, false)⟩, ⟨some 24, .move (.tmp 4), 9, some (23, true)⟩, ⟨some 25, .index 9 (.tmp 24) (.const (.int .i64 0)), 5, some (23, true)⟩, ⟨some 26, .binOp .neq 5 (.tmp 25) (.const (.int .u8 45)) 5, 4, some (23, true)⟩, ⟨some 27, .pick (.tmp 23) (.tmp 26) (.const (.bool false)), 4, some (19, false)⟩, ⟨some 28, .move (.tmp 27), 4, some (19, false)⟩, ⟨some 29, .move (.tmp 4), 9, some (28, true)⟩, ⟨some 30, .index 9 (.tmp 29) (.const (.int .i64 0)), 5, some (28, true)⟩, ⟨some 31, .binOp .neq 5 (.tmp 30) (.const (.int .u8 43)) 5, 4, some (28, true)⟩, ⟨some 32, .pick (.tmp 28) (.tmp 31) (.const (.bool false)), 4, some (19, false)⟩, ⟨some 33, .pick (.tmp 19) (.const (.bool true)) (.tmp 32), 4, none⟩, ⟨some 34, .move (.tmp 33), 4, none⟩, ⟨some 35, .move (.tmp 4), 9, some (34, false)⟩, ⟨some 36, .slice 9 (.tmp 35) (some (.const (.int .i64 1))) none none, 9, some (34, false)⟩, ⟨some 37, .call { callee := .value (.func 73), args := #[.tmp 36], argTypes := #[9] }, 4, some (34, false)⟩, ⟨some 38, .unOp .not 4 (.tmp 37), 4, some (34, false)⟩, ⟨some 39, .pick (.tmp 34) (.const (.bool true)) (.tmp 38), 4, none⟩]) (.cond (.tmp 39) (.seq (.ops [⟨some 2, .assign (.const (.bool false)), 4, none⟩]) (.ret)) (.skip))))) (q_s_l5Hunk_c0)
@[simp] theorem q_s_l5Hunk_c1_run : type_of% (run_is q_s_l5Hunk_c1.eq_1) := run_is q_s_l5Hunk_c1.eq_1
def q_s_l5Hunk_l0 : QCode := .seq (.seq (.ops [⟨some 5, .move (.tmp 3), 3, none⟩, ⟨some 6, .fieldAddr 46 (.tmp 1) 1, 0, none⟩, ⟨some 7, .load 36 (.tmp 6), 36, none⟩, ⟨some 8, .call { callee := .builtin .len, args := #[.tmp 7], argTypes := #[36] }, 3, none⟩, ⟨some 9, .binOp .lss 3 (.tmp 5) (.tmp 8) 3, 4, none⟩]) (.cond (.tmp 9) (.skip) (.exit 0))) (q_s_l5Hunk_c1)
@[simp] theorem q_s_l5Hunk_l0_run : type_of% (run_is q_s_l5Hunk_l0.eq_1) := run_is q_s_l5Hunk_l0.eq_1
def q_s_l5Hunk_c2 : QCode := .seq (.ops [⟨some 40, .fieldAddr 46 (.tmp 1) 1, 0, none⟩, ⟨some 41, .load 36 (.tmp 40), 36, none⟩, ⟨some 42, .call { callee := .builtin .len, args := #[.tmp 41], argTypes := #[36] }, 3, none⟩, ⟨some 43, .call { callee := .value (.func 66), args := #[.tmp 42, .const (.int .i64 1), .const (.int .i64 30)], argTypes := #[3, 3, 3] }, 4, none⟩, ⟨some 44, .move (.tmp 43), 4, none⟩, ⟨some 45, .fieldAddr 46 (.tmp 1) 0, 0, some (44, true)⟩, ⟨some 46, .load 3 (.tmp 45), 3, some (44, true)⟩, ⟨some 47, .call { callee := .value (.func 66), args := #[.tmp 46, .const (.int .i64 1), .const (.int .i64 999)], argTypes := #[3, 3, 3] }, 4, some (44, true)⟩, ⟨some 48, .pick (.tmp 44) (.tmp 47) (.const (.bool false)), 4, none⟩, ⟨some 2, .assign (.tmp 48), 4, none⟩]) (.ret)
@[simp] theorem q_s_l5Hunk_c2_run : type_of% (run_is q_s_l5Hunk_c2.eq_1) := run_is q_s_l5Hunk_c2.eq_1
@[simp] def q_s_l5Hunk : QFn := ⟨49, [(.tmp 2, 4)], .seq (.ops [⟨some 1, .box 46 (.tmp 0), 0, none⟩, ⟨some 2, .assign (.const (.bool false)), 4, none⟩]) (.seq (.seq (.ops [⟨some 3, .assign (.const (.int .i64 0)), 3, none⟩]) (.block 0 (.loop q_s_l5Hunk_l0))) (q_s_l5Hunk_c2))⟩
theorem conv_s_l5Hunk : convF Try.f47 = some q_s_l5Hunk := by kernel_rfl
/-! 48 s_l5Old -/
abbrev fn_s_l5Old : FuncId := 48
def q_s_l5Old_c0 : QCode := .ops [⟨some 11, .move (.tmp 4), 3, none⟩, ⟨some 12, .binOp .add 3 (.tmp 11) (.const (.int .i64 1)) 3, 3, none⟩, ⟨some 4, .assign (.tmp 12), 3, none⟩]
@[simp] theorem q_s_l5Old_c0_run : type_of% (run_is q_s_l5Old_c0.eq_1) := run_is q_s_l5Old_c0.eq_1
def q_s_l5Old_c1 : QCode := .seq (.block 1 (.seq (.ops [⟨some 13, .fieldAddr 46 (.tmp 1) 1, 0, none⟩, ⟨some 14, .load 36 (.tmp 13), 36, none⟩, ⟨some 15, .move (.tmp 4), 3, none⟩, ⟨some 16, .indexAddr 36 (.tmp 14) (.tmp 15), 0, none⟩, ⟨some 17, .load 9 (.tmp 16), 9, none⟩, ⟨some 18, .index 9 (.tmp 17) (.const (.int .i64 0)), 5, none⟩, ⟨some 19, .binOp .neq 5 (.tmp 18) (.const (.int .u8 43)) 5, 4, none⟩]) (.cond (.tmp 19) (.ops [⟨some 20, .move (.tmp 3), 36, none⟩, ⟨some 21, .fieldAddr 46 (.tmp 1) 1, 0, none⟩, ⟨some 22, .load 36 (.tmp 21), 36, none⟩, ⟨some 23, .move (.tmp 4), 3, none⟩, ⟨some 24, .indexAddr 36 (.tmp 22) (.tmp 23), 0, none⟩, ⟨some 25, .load 9 (.tmp 24), 9, none⟩, ⟨some 26, .slice 9 (.tmp 25) (some (.const (.int .i64 1))) none none, 9, none⟩, ⟨some 27, .buildSlice 36 1 #[(0, .tmp 26)], 36, none⟩, ⟨some 28, .call { callee := .builtin .append, args := #[.tmp 20, .tmp 27], argTypes := #[36, 36] }, 36, none⟩, ⟨some 3, .assign (.tmp 28), 36, none⟩]) (.skip)))) (q_s_l5Old_c0)
@[simp] theorem q_s_l5Old_c1_run : type_of% (run_is q_s_l5Old_c1.eq_1) := run_is q_s_l5Old_c1.eq_1
def q_s_l5Old_l0 : QCode := .seq (.seq (.ops [⟨some 6, .move (.tmp 4), 3, none⟩, ⟨some 7, .fieldAddr 46 (.tmp 1) 1, 0, none⟩, ⟨some 8, .load 36 (.tmp 7), 36, none⟩, ⟨some 9, .call { callee := .builtin .len, args := #[.tmp 8], argTypes := #[36] }, 3, none⟩, ⟨some 10, .binOp .lss 3 (.tmp 6) (.tmp 9) 3, 4, none⟩]) (.cond (.tmp 10) (.skip) (.exit 0))) (q_s_l5Old_c1)
@[simp] theorem q_s_l5Old_l0_run : type_of% (run_is q_s_l5Old_l0.eq_1) := run_is q_s_l5Old_l0.eq_1
def q_s_l5Old_c2 : QCode := .seq (.ops [⟨some 29, .move (.tmp 3), 36, none⟩, ⟨some 2, .assign (.tmp 29), 36, none⟩]) (.ret)
@[simp] theorem q_s_l5Old_c2_run : type_of% (run_is q_s_l5Old_c2.eq_1) := run_is q_s_l5Old_c2.eq_1
@[simp] def q_s_l5Old : QFn := ⟨30, [(.tmp 2, 36)], .seq (.ops [⟨some 1, .box 46 (.tmp 0), 0, none⟩, ⟨some 2, .assign (.const (.slice none 0 0)), 36, none⟩]) (.seq (.ops [⟨some 5, .buildSlice 36 0 #[], 36, none⟩, ⟨some 3, .assign (.tmp 5), 36, none⟩]) (.seq (.seq (.ops [⟨some 4, .assign (.const (.int .i64 0)), 3, none⟩]) (.block 0 (.loop q_s_l5Old_l0))) (q_s_l5Old_c2)))⟩
theorem conv_s_l5Old : convF Try.f48 = some q_s_l5Old := by kernel_rfl
/-! 49 w_toHunk -/
abbrev fn_w_toHunk : FuncId := 49
@[simp] def q_w_toHunk : QFn := ⟨12, [(.cell 2 46, 46)], .seq (.ops [⟨some 1, .box 68 (.tmp 0), 0, none⟩, ⟨some 2, .alloc 46, 0, none⟩]) (.seq (.ops [⟨some 3, .alloc 46, 0, none⟩]) (.seq (.ops [⟨some 4, .fieldAddr 68 (.tmp 1) 0, 0, none⟩, ⟨some 5, .load 3 (.tmp 4), 3, none⟩, ⟨some 6, .fieldAddr 46 (.tmp 3) 0, 0, none⟩, ⟨none, .store 3 (.tmp 6) (.tmp 5), 0, none⟩]) (.seq (.ops [⟨some 7, .fieldAddr 68 (.tmp 1) 1, 0, none⟩, ⟨some 8, .load 36 (.tmp 7), 36, none⟩, ⟨some 9, .call { callee := .value (.func 21), args := #[.tmp 8], argTypes := #[36] }, 36, none⟩, ⟨some 10, .fieldAddr 46 (.tmp 3) 1, 0, none⟩, ⟨none, .store 36 (.tmp 10) (.tmp 9), 0, none⟩]) (.seq (.ops [⟨some 11, .load 46 (.tmp 3), 46, none⟩, ⟨none, .store 46 (.tmp 2) (.tmp 11), 0, none⟩]) (.ret)))))⟩
theorem conv_w_toHunk : convF Try.f49 = some q_w_toHunk := by kernel_rfl
/-! 50 i_all_string -/
abbrev fn_i_all_string : FuncId := 50
def q_i_all_string_c0 : QCode := .ops [⟨some 17, .binOp .add 3 (.tmp 9) (.const (.int .i64 1)) 3, 3, none⟩, ⟨some 9, .move (.tmp 17), 3, none⟩]
@[simp] theorem q_i_all_string_c0_run : type_of% (run_is q_i_all_string_c0.eq_1) := run_is q_i_all_string_c0.eq_1
def q_i_all_string_c1 : QCode := .seq (.block 1 (.seq (.ops [⟨some 11, .indexAddr 36 (.tmp 7) (.tmp 9), 0, none⟩, ⟨some 12, .load 9 (.tmp 11), 9, none⟩, ⟨some 6, .assign (.tmp 12), 9, none⟩]) (.seq (.ops [⟨some 13, .move (.tmp 1), 58, none⟩, ⟨some 14, .move (.tmp 6), 9, none⟩, ⟨some 15, .call { callee := .value (.tmp 13), args := #[.tmp 14], argTypes := #[9] }, 4, none⟩, ⟨some 16, .unOp .not 4 (.tmp 15), 4, none⟩]) (.cond (.tmp 16) (.seq (.ops [⟨some 4, .assign (.const (.bool false)), 4, none⟩]) (.ret)) (.skip))))) (q_i_all_string_c0)
@[simp] theorem q_i_all_string_c1_run : type_of% (run_is q_i_all_string_c1.eq_1) := run_is q_i_all_string_c1.eq_1
def q_i_all_string_l0 : QCode := .seq (.ops [⟨some 10, .binOp .lss 3 (.tmp 9) (.tmp 8) 3, 0, none⟩]) (.seq (.cond (.tmp 10) (.skip) (.exit 0)) (q_i_all_string_c1))
@[simp] theorem q_i_all_string_l0_run : type_of% (run_is q_i_all_string_l0.eq_1) := run_is q_i_all_string_l0.eq_1
def q_i_all_string_c2 : QCode := .seq (.ops [⟨some 4, .assign (.const (.bool true)), 4, none⟩]) (.ret)
@[simp] theorem q_i_all_string_c2_run : type_of% (run_is q_i_all_string_c2.eq_1) := run_is q_i_all_string_c2.eq_1
@[simp] def q_i_all_string : QFn := ⟨18, [(.tmp 4, 4)], .seq (.ops [⟨some 4, .assign (.const (.bool false)), 4, none⟩]) (.seq (.seq (.ops [⟨some 7, .move (.tmp 0), 36, none⟩, ⟨some 8, .call { callee := .builtin .len, args := #[.tmp 7], argTypes := #[36] }, 3, none⟩, ⟨some 9, .move (.const (.int .i64 0)), 3, none⟩]) (.block 0 (.loop q_i_all_string_l0))) (q_i_all_string_c2))⟩
theorem conv_i_all_string : convF Try.f50 = some q_i_all_string := by kernel_rfl
/-! 51 i_hunkLineOk -/
abbrev fn_i_hunkLineOk : FuncId := 51
@[simp] def q_i_hunkLineOk : QFn := ⟨25, [(.tmp 2, 4)], .seq (.ops [⟨some 2, .assign (.const (.bool false)), 4, none⟩]) (.seq (.ops [⟨some 3, .move (.tmp 0), 9, none⟩, ⟨some 4, .binOp .neq 9 (.tmp 3) (.const (.string { data := #[] })) 9, 4, none⟩, ⟨some 5, .move (.tmp 4), 4, none⟩, ⟨some 6, .move (.tmp 0), 9, some (5, true)⟩, ⟨some 7, .index 9 (.tmp 6) (.const (.int .i64 0)), 5, some (5, true)⟩, ⟨some 8, .binOp .eql 5 (.tmp 7) (.const (.int .u8 32)) 5, 4, some (5, true)⟩, ⟨some 9, .move (.tmp 8), 4, some (5, true)⟩, ⟨some 10, .move (.tmp 0), 9, some (9, false)⟩, ⟨some 11, .index 9 (.tmp 10) (.const (.int .i64 0)), 5, some (9, false)⟩, ⟨some 12, .binOp .eql 5 (.tmp 11) (.const (.int .u8 45)) 5, 4, some (9, false)⟩, ⟨some 13, .pick (.tmp 9) (.const (.bool true)) (.tmp 12), 4, some (5, true)⟩, ⟨some 14, .move (.tmp 13), 4, some (5, true)⟩, ⟨some 15, .move (.tmp 0), 9, some (14, false)⟩, ⟨some 16, .index 9 (.tmp 15) (.const (.int .i64 0)), 5, some (14, false)⟩, ⟨some 17, .binOp .eql 5 (.tmp 16) (.const (.int .u8 43)) 5, 4, some (14, false)⟩, ⟨some 18, .pick (.tmp 14) (.const (.bool true)) (.tmp 17), 4, some (5, true)⟩, ⟨some 19, .pick (.tmp 5) (.tmp 18) (.const (.bool false)), 4, none⟩, ⟨some 20, .move (.tmp 19), 4, none⟩, ⟨some 21, .move (.tmp 0), 9, some (20, true)⟩, ⟨some 22, .slice 9 (.tmp 21) (some (.const (.int .i64 1))) none none, 9, some (20, true)⟩, ⟨some 23, .call { callee := .value (.func 74), args := #[.tmp 22], argTypes := #[9] }, 4, some (20, true)⟩, ⟨some 24, .pick (.tmp 20) (.tmp 23) (.const (.bool false)), 4, none⟩, ⟨some 2, .assign (.tmp 24), 4, none⟩]) (.ret))⟩
theorem conv_i_hunkLineOk : convF Try.f51 = some q_i_hunkLineOk := by kernel_rfl
/-! 52 i_sides -/
abbrev fn_i_sides : FuncId := 52
def q_i_sides_c0 : QCode := .seq (.ops [⟨some 22, .move (.tmp 7), 9, none⟩, ⟨some 23, .index 9 (.tmp 22) (.const (.int .i64 0)), 5, none⟩, ⟨some 24, .binOp .neq 5 (.tmp 23) (.const (.int .u8 45)) 5, 4, none⟩]) (.cond (.tmp 24) (.ops [⟨some 25, .move (.tmp 5), 36, none⟩, ⟨some 26, .move (.tmp 7), 9, none⟩, ⟨some 27, .slice 9 (.tmp 26) (some (.const (.int .i64 1))) none none, 9, none⟩, ⟨some 28, .buildSlice 36 1 #[(0, .tmp 27)], 36, none⟩, ⟨some 29, .call { callee := .builtin .append, args := #[.tmp 25, .tmp 28], argTypes := #[36, 36] }, 36, none⟩, ⟨some 5, .assign (.tmp 29), 36, none⟩]) (.skip))
@[simp] theorem q_i_sides_c0_run : type_of% (run_is q_i_sides_c0.eq_1) := run_is q_i_sides_c0.eq_1
def q_i_sides_c1 : QCode := .ops [⟨some 30, .binOp .add 3 (.tmp 10) (.const (.int .i64 1)) 3, 3, none⟩, ⟨some 10, .move (.tmp 30), 3, none⟩]
@[simp] theorem q_i_sides_c1_run : type_of% (run_is q_i_sides_c1.eq_1) := run_is q_i_sides_c1.eq_1
def q_i_sides_c2 : QCode := .seq (.block 1 (.seq (.ops [⟨some 12, .indexAddr 36 (.tmp 8) (.tmp 10), 0, none⟩, ⟨some 13, .load 9 (.tmp 12), 9, none⟩, ⟨some 7, .assign (.tmp 13), 9, none⟩]) (.seq (.seq (.ops [⟨some 14, .move (.tmp 7), 9, none⟩, ⟨some 15, .index 9 (.tmp 14) (.const (.int .i64 0)), 5, none⟩, ⟨some 16, .binOp .neq 5 (.tmp 15) (.const (.int .u8 43)) 5, 4, none⟩]) (.cond (.tmp 16) (.ops [⟨some 17, .move (.tmp 4), 36, none⟩, ⟨some 18, .move (.tmp 7), 9, none⟩, ⟨some 19, .slice 9 (.tmp 18) (some (.const (.int .i64 1))) none none, 9, none⟩, ⟨some 20, .buildSlice 36 1 #[(0, .tmp 19)], 36, none⟩, ⟨some 21, .call { callee := .builtin .append, args := #[.tmp 17, .tmp 20], argTypes := #[36, 36] }, 36, none⟩, ⟨some 4, .assign (.tmp 21), 36, none⟩]) (.skip))) (q_i_sides_c0)))) (q_i_sides_c1)
@[simp] theorem q_i_sides_c2_run : type_of% (run_is q_i_sides_c2.eq_1) := run_is q_i_sides_c2.eq_1
def q_i_sides_l0 : QCode := .seq (.ops [⟨some 11, .binOp .lss 3 (.tmp 10) (.tmp 9) 3, 0, none⟩]) (.seq (.cond (.tmp 11) (.skip) (.exit 0)) (q_i_sides_c2))
@[simp] theorem q_i_sides_l0_run : type_of% (run_is q_i_sides_l0.eq_1) := run_is q_i_sides_l0.eq_1
def q_i_sides_c3 : QCode := .seq (.ops [⟨some 31, .move (.tmp 4), 36, none⟩, ⟨some 32, .move (.tmp 5), 36, none⟩, ⟨some 2, .assign (.tmp 31), 36, none⟩, ⟨some 3, .assign (.tmp 32), 36, none⟩]) (.ret)
@[simp] theorem q_i_sides_c3_run : type_of% (run_is q_i_sides_c3.eq_1) := run_is q_i_sides_c3.eq_1
@[simp] def q_i_sides : QFn := ⟨33, [(.tmp 2, 36), (.tmp 3, 36)], .seq (.ops [⟨some 2, .assign (.const (.slice none 0 0)), 36, none⟩, ⟨some 3, .assign (.const (.slice none 0 0)), 36, none⟩]) (.seq (.ops [⟨some 4, .assign (.const (.slice none 0 0)), 36, none⟩, ⟨some 5, .assign (.const (.slice none 0 0)), 36, none⟩]) (.seq (.seq (.ops [⟨some 8, .move (.tmp 0), 36, none⟩, ⟨some 9, .call { callee := .builtin .len, args := #[.tmp 8], argTypes := #[36] }, 3, none⟩, ⟨some 10, .move (.const (.int .i64 0)), 3, none⟩]) (.block 0 (.loop q_i_sides_l0))) (q_i_sides_c3)))⟩
theorem conv_i_sides : convF Try.f52 = some q_i_sides := by kernel_rfl
/-! 53 w_eqHunk -/
abbrev fn_w_eqHunk : FuncId := 53
def q_w_eqHunk_c0 : QCode := .seq (.ops [⟨some 4, .assign (.const (.bool true)), 4, none⟩]) (.ret)
@[simp] theorem q_w_eqHunk_c0_run : type_of% (run_is q_w_eqHunk_c0.eq_1) := run_is q_w_eqHunk_c0.eq_1
def q_w_eqHunk_c1 : QCode := .seq (.seq (.ops [⟨some 10, .fieldAddr 46 (.tmp 2) 1, 0, none⟩, ⟨some 11, .load 36 (.tmp 10), 36, none⟩, ⟨some 12, .fieldAddr 46 (.tmp 3) 1, 0, none⟩, ⟨some 13, .load 36 (.tmp 12), 36, none⟩, ⟨some 14, .call { callee := .value (.func 23), args := #[.tmp 11, .tmp 13], argTypes := #[36, 36] }, 4, none⟩, ⟨some 15, .unOp .not 4 (.tmp 14), 4, none⟩]) (.cond (.tmp 15) (.seq (.ops [⟨some 4, .assign (.const (.bool false)), 4, none⟩]) (.ret)) (.skip))) (q_w_eqHunk_c0)
@[simp] theorem q_w_eqHunk_c1_run : type_of% (run_is q_w_eqHunk_c1.eq_1) := run_is q_w_eqHunk_c1.eq_1
@[simp] def q_w_eqHunk : QFn := ⟨16, [(.tmp 4, 4)], .seq (.ops [⟨some 2, .box 46 (.tmp 0), 0, none⟩, ⟨some 3, .box 46 (.tmp 1), 0, none⟩, ⟨some 4, .assign (.const (.bool false)), 4, none⟩]) (.seq (.seq (.ops [⟨some 5, .fieldAddr 46 (.tmp 2) 0, 0, none⟩, ⟨some 6, .load 3 (.tmp 5), 3, none⟩, ⟨some 7, .fieldAddr 46 (.tmp 3) 0, 0, none⟩, ⟨some 8, .load 3 (.tmp 7), 3, none⟩, ⟨some 9, .binOp .neq 3 (.tmp 6) (.tmp 8) 3, 4, none⟩]) (.cond (.tmp 9) (.seq (.ops [⟨some 4, .assign (.const (.bool false)), 4, none⟩]) (.ret)) (.skip))) (q_w_eqHunk_c1))⟩
theorem conv_w_eqHunk : convF Try.f53 = some q_w_eqHunk := by kernel_rfl
/-! 54 s_l5Lines -/
abbrev fn_s_l5Lines : FuncId := 54
def q_s_l5Lines_c0 : QCode := .ops [⟨some 8, .move (.tmp 3), 3, none⟩, ⟨some 9, .binOp .add 3 (.tmp 8) (.const (.int .i64 1)) 3, 3, none⟩, ⟨some 3, .assign (.tmp 9), 3, none⟩]
@[simp] theorem q_s_l5Lines_c0_run : type_of% (run_is q_s_l5Lines_c0.eq_1) := run_is q_s_l5Lines_c0.eq_1
def q_s_l5Lines_c1 : QCode := .seq (.block 1 (.seq (.ops [⟨some 10, .move (.tmp 0), 36, none⟩, ⟨some 11, .move (.tmp 3), 3, none⟩, ⟨some 12, .indexAddr 36 (.tmp 10) (.tmp 11), 0, none⟩, ⟨some 13, .load 9 (.tmp 12), 9, none⟩, ⟨some 14, .call { callee := .value (.func 73), args := #[.tmp 13], argTypes := #[9] }, 4, none⟩, ⟨some 15, .unOp .not 4 (.tmp 14), 4, none⟩]) (.cond (.tmp 15) (.seq (.ops [⟨some 2, .assign (.const (.bool false)), 4, none⟩]) (.ret)) (.skip)))) (q_s_l5Lines_c0)
@[simp] theorem q_s_l5Lines_c1_run : type_of% (run_is q_s_l5Lines_c1.eq_1) := run_is q_s_l5Lines_c1.eq_1
def q_s_l5Lines_l0 : QCode := .seq (.seq (.ops [⟨some 4, .move (.tmp 3), 3, none⟩, ⟨some 5, .move (.tmp 0), 36, none⟩, ⟨some 6, .call { callee := .builtin .len, args := #[.tmp 5], argTypes := #[36] }, 3, none⟩, ⟨some 7, .binOp .lss 3 (.tmp 4) (.tmp 6) 3, 4, none⟩]) (.cond (.tmp 7) (.skip) (.exit 0))) (q_s_l5Lines_c1)
@[simp] theorem q_s_l5Lines_l0_run : type_of% (run_is q_s_l5Lines_l0.eq_1) := run_is q_s_l5Lines_l0.eq_1
def q_s_l5Lines_c2 : QCode := .seq (.ops [⟨some 16, .move (.tmp 0), 36, none⟩, ⟨some 17, .call { callee := .builtin .len, args := #[.tmp 16], argTypes := #[36] }, 3, none⟩, ⟨some 18, .binOp .leq 3 (.tmp 17) (.const (.int .i64 30)) 3, 4, none⟩, ⟨some 2, .assign (.tmp 18), 4, none⟩]) (.ret)
@[simp] theorem q_s_l5Lines_c2_run : type_of% (run_is q_s_l5Lines_c2.eq_1) := run_is q_s_l5Lines_c2.eq_1
@[simp] def q_s_l5Lines : QFn := ⟨19, [(.tmp 2, 4)], .seq (.ops [⟨some 2, .assign (.const (.bool false)), 4, none⟩]) (.seq (.seq (.ops [⟨some 3, .assign (.const (.int .i64 0)), 3, none⟩]) (.block 0 (.loop q_s_l5Lines_l0))) (q_s_l5Lines_c2))⟩
theorem conv_s_l5Lines : convF Try.f54 = some q_s_l5Lines := by kernel_rfl
/-! 55 s_l5Same -/
abbrev fn_s_l5Same : FuncId := 55
def q_s_l5Same_c0 : QCode := .ops [⟨some 23, .move (.tmp 7), 3, none⟩, ⟨some 24, .binOp .add 3 (.tmp 23) (.const (.int .i64 1)) 3, 3, none⟩, ⟨some 7, .assign (.tmp 24), 3, none⟩]
@[simp] theorem q_s_l5Same_c0_run : type_of% (run_is q_s_l5Same_c0.eq_1) := run_is q_s_l5Same_c0.eq_1
def q_s_l5Same_c1 : QCode := .seq (.block 1 (.seq (.draw [⟨some 25, .move (.tmp 0), 36, none⟩, ⟨some 26, .move (.tmp 1), 3, none⟩, ⟨some 27, .move (.tmp 7), 3, none⟩, ⟨some 28, .binOp .add 3 (.tmp 26) (.tmp 27) 3, 3, none⟩, ⟨some 29, .indexAddr 36 (.tmp 25) (.tmp 28), 0, none⟩, ⟨some 30, .load 9 (.tmp 29), 9, none⟩, ⟨some 31, .move (.tmp 2), 36, none⟩, ⟨some 32, .move (.tmp 7), 3, none⟩, ⟨some 33, .indexAddr 36 (.tmp 31) (.tmp 32), 0, none⟩, ⟨some 34, .load 9 (.tmp 33), 9, none⟩] [⟨some 35, .binOp .neq 9 (.tmp 30) (.tmp 34) 9, 4, none⟩]) (.cond (.tmp 35) (.seq (.ops [⟨some 6, .assign (.const (.bool false)), 4, none⟩]) (.ret)) (.skip)))) (q_s_l5Same_c0)
@[simp] theorem q_s_l5Same_c1_run : type_of% (run_is q_s_l5Same_c1.eq_1) := run_is q_s_l5Same_c1.eq_1
def q_s_l5Same_l0 : QCode := .seq (.seq (.ops [⟨some 19, .move (.tmp 7), 3, none⟩, ⟨some 20, .move (.tmp 2), 36, none⟩, ⟨some 21, .call { callee := .builtin .len, args := #[.tmp 20], argTypes := #[36] }, 3, none⟩, ⟨some 22, .binOp .lss 3 (.tmp 19) (.tmp 21) 3, 4, none⟩]) (.cond (.tmp 22) (.skip) (.exit 0))) (q_s_l5Same_c1)
@[simp] theorem q_s_l5Same_l0_run : type_of% (run_is q_s_l5Same_l0.eq_1) := run_is q_s_l5Same_l0.eq_1
def q_s_l5Same_c2 : QCode := .seq (.ops [⟨some 6, .assign (.const (.bool true)), 4, none⟩]) (.ret)
@[simp] theorem q_s_l5Same_c2_run : type_of% (run_is q_s_l5Same_c2.eq_1) := run_is q_s_l5Same_c2.eq_1
def q_s_l5Same_c3 : QCode := .seq (.seq (.ops [⟨some 7, .assign (.const (.int .i64 0)), 3, none⟩]) (.block 0 (.loop q_s_l5Same_l0))) (q_s_l5Same_c2)
@[simp] theorem q_s_l5Same_c3_run : type_of% (run_is q_s_l5Same_c3.eq_1) := run_is q_s_l5Same_c3.eq_1
@[simp] def q_s_l5Same : QFn := ⟨36, [(.tmp 6, 4)], .seq (.ops [⟨some 6, .assign (.const (.bool false)), 4, none⟩]) (.seq (.seq (.ops [⟨some 8, .move (.tmp 1), 3, none⟩, ⟨some 9, .binOp .lss 3 (.tmp 8) (.const (.int .i64 0)) 3, 4, none⟩, ⟨some 10, .move (.tmp 9), 4, none⟩, ⟨some 11, .move (.tmp 1), 3, some (10, false)⟩, ⟨some 12, .move (.tmp 2), 36, some (10, false)⟩, ⟨some 13, .call { callee := .builtin .len, args := #[.tmp 12], argTypes := #[36] }, 3, some (10, false)⟩, ⟨some 14, .binOp .add 3 (.tmp 11) (.tmp 13) 3, 3, some (10, false)⟩, ⟨some 15, .move (.tmp 0), 36, some (10, false)⟩, ⟨some 16, .call { callee := .builtin .len, args := #[.tmp 15], argTypes := #[36] }, 3, some (10, false)⟩, ⟨some 17, .binOp .gtr 3 (.tmp 14) (.tmp 16) 3, 4, some (10, false)⟩, ⟨some 18, .pick (.tmp 10) (.const (.bool true)) (.tmp 17), 4, none⟩]) (.cond (.tmp 18) (.seq (.ops [⟨some 6, .assign (.const (.bool false)), 4, none⟩]) (.ret)) (.skip))) (q_s_l5Same_c3))⟩
theorem conv_s_l5Same : convF Try.f55 = some q_s_l5Same := by kernel_rfl
/-! 56 i_linesOk -/
abbrev fn_i_linesOk : FuncId := 56
@[simp] def q_i_linesOk : QFn := ⟨10, [(.tmp 2, 4)], .seq (.ops [⟨some 2, .assign (.const (.bool false)), 4, none⟩]) (.seq (.ops [⟨some 3, .move (.tmp 0), 36, none⟩, ⟨some 4, .call { callee := .builtin .len, args := #[.tmp 3], argTypes := #[36] }, 3, none⟩, ⟨some 5, .binOp .leq 3 (.tmp 4) (.const (.int .i64 30)) 3, 4, none⟩, ⟨some 6, .move (.tmp 5), 4, none⟩, ⟨some 7, .move (.tmp 0), 36, some (6, true)⟩, ⟨some 8, .call { callee := .value (.func 50), args := #[.tmp 7, .func 74], argTypes := #[36, 58] }, 4, some (6, true)⟩, ⟨some 9, .pick (.tmp 6) (.tmp 8) (.const (.bool false)), 4, none⟩, ⟨some 2, .assign (.tmp 9), 4, none⟩]) (.ret))⟩
theorem conv_i_linesOk : convF Try.f56 = some q_i_linesOk := by kernel_rfl
/-! 57 slices_Equal_L_string_string -/
abbrev fn_slices_Equal_L_string_string : FuncId := 57
def q_slices_Equal_L_string_string_c0 : QCode := .ops [⟨some 25, .binOp .add 3 (.tmp 13) (.const (.int .i64 1)) 3, 3, none⟩, ⟨some 13, .move (.tmp 25), 3, none⟩]
@[simp] theorem q_slices_Equal_L_string_string_c0_run : type_of% (run_is q_slices_Equal_L_string_string_c0.eq_1) := run_is q_slices_Equal_L_string_string_c0.eq_1
def q_slices_Equal_L_string_string_c1 : QCode := .seq (.block 1 (.seq (.ops [⟨some 15, .move (.tmp 13), 3, none⟩, ⟨some 5, .assign (.tmp 15), 3, none⟩]) (.seq (.draw [⟨some 16, .move (.tmp 0), 36, none⟩, ⟨some 17, .move (.tmp 5), 3, none⟩, ⟨some 18, .indexAddr 36 (.tmp 16) (.tmp 17), 0, none⟩, ⟨some 19, .load 9 (.tmp 18), 9, none⟩, ⟨some 20, .move (.tmp 1), 36, none⟩, ⟨some 21, .move (.tmp 5), 3, none⟩, ⟨some 22, .indexAddr 36 (.tmp 20) (.tmp 21), 0, none⟩, ⟨some 23, .load 9 (.tmp 22), 9, none⟩] [⟨some 24, .binOp .neq 9 (.tmp 19) (.tmp 23) 9, 4, none⟩]) (.cond (.tmp 24) (.seq (.ops [⟨some 4, .assign (.const (.bool false)), 4, none⟩]) (.ret)) (.skip))))) (q_slices_Equal_L_string_string_c0)
@[simp] theorem q_slices_Equal_L_string_string_c1_run : type_of% (run_is q_slices_Equal_L_string_string_c1.eq_1) := run_is q_slices_Equal_L_string_string_c1.eq_1
def q_slices_Equal_L_string_string_l0 : QCode := .seq (.ops [⟨some 14, .binOp .lss 3 (.tmp 13) (.tmp 12) 3, 0, none⟩]) (.seq (.cond (.tmp 14) (.skip) (.exit 0)) (q_slices_Equal_L_string_string_c1))
@[simp] theorem q_slices_Equal_L_string_string_l0_run : type_of% (run_is q_slices_Equal_L_string_string_l0.eq_1) := run_is q_slices_Equal_L_string_string_l0.eq_1
def q_slices_Equal_L_string_string_c2 : QCode := .seq (.ops [⟨some 4, .assign (.const (.bool true)), 4, none⟩]) (.ret)
@[simp] theorem q_slices_Equal_L_string_string_c2_run : type_of% (run_is q_slices_Equal_L_string_string_c2.eq_1) := run_is q_slices_Equal_L_string_string_c2.eq_1
def q_slices_Equal_L_string_string_c3 : QCode := .seq (.seq (.ops [⟨some 11, .move (.tmp 0), 36, none⟩, ⟨some 12, .call { callee := .builtin .len, args := #[.tmp 11], argTypes := #[36] }, 3, none⟩, ⟨some 13, .move (.const (.int .i64 0)), 3, none⟩]) (.block 0 (.loop q_slices_Equal_L_string_string_l0))) (q_slices_Equal_L_string_string_c2)
@[simp] theorem q_slices_Equal_L_string_string_c3_run : type_of% (run_is q_slices_Equal_L_string_string_c3.eq_1) := run_is q_slices_Equal_L_string_string_c3.eq_1
@[simp] def q_slices_Equal_L_string_string : QFn := ⟨26, [(.tmp 4, 4)], .seq (.ops [⟨some 4, .assign (.const (.bool false)), 4, none⟩]) (.seq (.seq (.ops [⟨some 6, .move (.tmp 0), 36, none⟩, ⟨some 7, .call { callee := .builtin .len, args := #[.tmp 6], argTypes := #[36] }, 3, none⟩, ⟨some 8, .move (.tmp 1), 36, none⟩, ⟨some 9, .call { callee := .builtin .len, args := #[.tmp 8], argTypes := #[36] }, 3, none⟩, ⟨some 10, .binOp .neq 3 (.tmp 7) (.tmp 9) 3, 4, none⟩]) (.cond (.tmp 10) (.seq (.ops [⟨some 4, .assign (.const (.bool false)), 4, none⟩]) (.ret)) (.skip))) (q_slices_Equal_L_string_string_c3))⟩
theorem conv_slices_Equal_L_string_string : convF Try.f57 = some q_slices_Equal_L_string_string := by kernel_rfl
/-! 58 i_signed -/
abbrev fn_i_signed : FuncId := 58
def q_i_signed_c0 : QCode := .ops [⟨some 20, .binOp .add 3 (.tmp 10) (.const (.int .i64 1)) 3, 3, none⟩, ⟨some 10, .move (.tmp 20), 3, none⟩]
@[simp] theorem q_i_signed_c0_run : type_of% (run_is q_i_signed_c0.eq_1) := run_is q_i_signed_c0.eq_1
def q_i_signed_c1 : QCode := .seq (.block 1 (.seq (.ops [⟨some 12, .indexAddr 36 (.tmp 8) (.tmp 10), 0, none⟩, ⟨some 13, .load 9 (.tmp 12), 9, none⟩, ⟨some 7, .assign (.tmp 13), 9, none⟩]) (.ops [⟨some 14, .move (.tmp 5), 36, none⟩, ⟨some 15, .move (.tmp 0), 9, none⟩, ⟨some 16, .move (.tmp 7), 9, none⟩, ⟨some 17, .binOp .add 9 (.tmp 15) (.tmp 16) 9, 9, none⟩, ⟨some 18, .buildSlice 36 1 #[(0, .tmp 17)], 36, none⟩, ⟨some 19, .call { callee := .builtin .append, args := #[.tmp 14, .tmp 18], argTypes := #[36, 36] }, 36, none⟩, ⟨some 5, .assign (.tmp 19), 36, none⟩]))) (q_i_signed_c0)
@[simp] theorem q_i_signed_c1_run : type_of% (run_is q_i_signed_c1.eq_1) := run_is q_i_signed_c1.eq_1
def q_i_signed_l0 : QCode := .seq (.ops [⟨some 11, .binOp .lss 3 (.tmp 10) (.tmp 9) 3, 0, none⟩]) (.seq (.cond (.tmp 11) (.skip) (.exit 0)) (q_i_signed_c1))
@[simp] theorem q_i_signed_l0_run : type_of% (run_is q_i_signed_l0.eq_1) := run_is q_i_signed_l0.eq_1
def q_i_signed_c2 : QCode := .seq (.ops [⟨some 21, .move (.tmp 5), 36, none⟩, ⟨some 4, .assign (.tmp 21), 36, none⟩]) (.ret)
@[simp] theorem q_i_signed_c2_run : type_of% (run_is q_i_signed_c2.eq_1) := run_is q_i_signed_c2.eq_1
@[simp] def q_i_signed : QFn := ⟨22, [(.tmp 4, 36)], .seq (.ops [⟨some 4, .assign (.const (.slice none 0 0)), 36, none⟩]) (.seq (.ops [⟨some 5, .assign (.const (.slice none 0 0)), 36, none⟩]) (.seq (.seq (.ops [⟨some 8, .move (.tmp 1), 36, none⟩, ⟨some 9, .call { callee := .builtin .len, args := #[.tmp 8], argTypes := #[36] }, 3, none⟩, ⟨some 10, .move (.const (.int .i64 0)), 3, none⟩]) (.block 0 (.loop q_i_signed_l0))) (q_i_signed_c2)))⟩
theorem conv_i_signed : convF Try.f58 = some q_i_signed := by kernel_rfl
/-! 59 w_markText -/
abbrev fn_w_markText : FuncId := 59
def q_w_markText_c0 : QCode := .block 1 (.seq (.ops [⟨some 8, .move (.tmp 0), 3, none⟩, ⟨some 9, .binOp .rem 3 (.tmp 8) (.const (.int .i64 10)) 3, 3, none⟩, ⟨some 10, .binOp .add 3 (.const (.int .i64 48)) (.tmp 9) 3, 3, none⟩, ⟨some 11, .convert 3 5 (.tmp 10), 5, none⟩, ⟨some 12, .buildSlice 42 1 #[(0, .tmp 11)], 42, none⟩, ⟨some 13, .convert 42 9 (.tmp 12), 9, none⟩, ⟨some 14, .move (.tmp 3), 9, none⟩, ⟨some 15, .binOp .add 9 (.tmp 13) (.tmp 14) 9, 9, none⟩, ⟨some 3, .assign (.tmp 15), 9, none⟩]) (.ops [⟨some 16, .move (.tmp 0), 3, none⟩, ⟨some 17, .binOp .quo 3 (.tmp 16) (.const (.int .i64 10)) 3, 3, none⟩, ⟨some 0, .assign (.tmp 17), 3, none⟩]))
@[simp] theorem q_w_markText_c0_run : type_of% (run_is q_w_markText_c0.eq_1) := run_is q_w_markText_c0.eq_1
def q_w_markText_l0 : QCode := .seq (.seq (.ops [⟨some 6, .move (.tmp 0), 3, none⟩, ⟨some 7, .binOp .gtr 3 (.tmp 6) (.const (.int .i64 0)) 3, 4, none⟩]) (.cond (.tmp 7) (.skip) (.exit 0))) (q_w_markText_c0)
@[simp] theorem q_w_markText_l0_run : type_of% (run_is q_w_markText_l0.eq_1) := run_is q_w_markText_l0.eq_1
def q_w_markText_c1 : QCode := .seq (.ops [⟨some 18, .move (.tmp 3), 9, none⟩, ⟨some 19, .binOp .add 9 (.const (.string { data := #[109] })) (.tmp 18) 9, 9, none⟩, ⟨some 2, .assign (.tmp 19), 9, none⟩]) (.ret)
@[simp] theorem q_w_markText_c1_run : type_of% (run_is q_w_markText_c1.eq_1) := run_is q_w_markText_c1.eq_1
def q_w_markText_c2 : QCode := .seq (.ops [⟨some 3, .assign (.const (.string { data := #[] })), 9, none⟩]) (.seq (.block 0 (.loop q_w_markText_l0)) (q_w_markText_c1))
@[simp] theorem q_w_markText_c2_run : type_of% (run_is q_w_markText_c2.eq_1) := run_is q_w_markText_c2.eq_1
@[simp] def q_w_markText : QFn := ⟨20, [(.tmp 2, 9)], .seq (.ops [⟨some 2, .assign (.const (.string { data := #[] })), 9, none⟩]) (.seq (.seq (.ops [⟨some 4, .move (.tmp 0), 3, none⟩, ⟨some 5, .binOp .leq 3 (.tmp 4) (.const (.int .i64 0)) 3, 4, none⟩]) (.cond (.tmp 5) (.seq (.ops [⟨some 2, .assign (.const (.string { data := #[109, 48] })), 9, none⟩]) (.ret)) (.skip))) (q_w_markText_c2))⟩
theorem conv_w_markText : convF Try.f59 = some q_w_markText := by kernel_rfl
abbrev fn_s_l1Open : FuncId := 60
/-! 61 s_l11Lines -/
abbrev fn_s_l11Lines : FuncId := 61
def q_s_l11Lines_c0 : QCode := .ops [⟨some 10, .move (.tmp 4), 3, none⟩, ⟨some 11, .binOp .sub 3 (.tmp 10) (.const (.int .i64 1)) 3, 3, none⟩, ⟨some 4, .assign (.tmp 11), 3, none⟩]
@[simp] theorem q_s_l11Lines_c0_run : type_of% (run_is q_s_l11Lines_c0.eq_1) := run_is q_s_l11Lines_c0.eq_1
def q_s_l11Lines_c1 : QCode := .seq (.block 1 (.ops [⟨some 12, .move (.tmp 3), 36, none⟩, ⟨some 13, .move (.tmp 0), 79, none⟩, ⟨some 14, .buildSlice 36 7 #[(0, .const (.string { data := #[97] })), (1, .const (.string { data := #[98] })), (2, .const (.string { data := #[99] })), (3, .const (.string { data := #[100] })), (4, .const (.string { data := #[] })), (5, .const (.string { data := #[115, 97, 109, 101] })), (6, .const (.string { data := #[115, 97, 109, 101] }))], 36, none⟩, ⟨some 15, .call { callee := .value (.func 75), args := #[.tmp 13, .tmp 14], argTypes := #[79, 36] }, 9, none⟩, ⟨some 16, .buildSlice 36 1 #[(0, .tmp 15)], 36, none⟩, ⟨some 17, .call { callee := .builtin .append, args := #[.tmp 12, .tmp 16], argTypes := #[36, 36] }, 36, none⟩, ⟨some 3, .assign (.tmp 17), 36, none⟩])) (q_s_l11Lines_c0)
@[simp] theorem q_s_l11Lines_c1_run : type_of% (run_is q_s_l11Lines_c1.eq_1) := run_is q_s_l11Lines_c1.eq_1
def q_s_l11Lines_l0 : QCode := .seq (.seq (.ops [⟨some 8, .move (.tmp 4), 3, none⟩, ⟨some 9, .binOp .gtr 3 (.tmp 8) (.const (.int .i64 0)) 3, 4, none⟩]) (.cond (.tmp 9) (.skip) (.exit 0))) (q_s_l11Lines_c1)
@[simp] theorem q_s_l11Lines_l0_run : type_of% (run_is q_s_l11Lines_l0.eq_1) := run_is q_s_l11Lines_l0.eq_1
def q_s_l11Lines_c2 : QCode := .seq (.ops [⟨some 18, .move (.tmp 3), 36, none⟩, ⟨some 2, .assign (.tmp 18), 36, none⟩]) (.ret)
@[simp] theorem q_s_l11Lines_c2_run : type_of% (run_is q_s_l11Lines_c2.eq_1) := run_is q_s_l11Lines_c2.eq_1
@[simp] def q_s_l11Lines : QFn := ⟨19, [(.tmp 2, 36)], .seq (.ops [⟨some 2, .assign (.const (.slice none 0 0)), 36, none⟩]) (.seq (.ops [⟨some 5, .buildSlice 36 0 #[], 36, none⟩, ⟨some 3, .assign (.tmp 5), 36, none⟩]) (.seq (.seq (.ops [⟨some 6, .move (.tmp 0), 79, none⟩, ⟨some 7, .call { callee := .value (.func 62), args := #[.tmp 6, .const (.int .i64 9)], argTypes := #[79, 3] }, 3, none⟩, ⟨some 4, .assign (.tmp 7), 3, none⟩]) (.block 0 (.loop q_s_l11Lines_l0))) (q_s_l11Lines_c2)))⟩
theorem conv_s_l11Lines : convF Try.f61 = some q_s_l11Lines := by kernel_rfl
/-! 62 s_l1Rd_pick -/
abbrev fn_s_l1Rd_pick : FuncId := 62
def q_s_l1Rd_pick_c0 : QCode := .seq (.draw [⟨some 47, .move (.tmp 0), 79, none⟩, ⟨some 48, .nilCheck (.tmp 47), 0, none⟩, ⟨some 49, .fieldAddr 93 (.tmp 48) 0, 0, none⟩, ⟨some 50, .load 42 (.tmp 49), 42, none⟩, ⟨some 51, .move (.tmp 5), 3, none⟩, ⟨some 52, .move (.tmp 0), 79, none⟩, ⟨some 53, .nilCheck (.tmp 52), 0, none⟩, ⟨some 54, .fieldAddr 93 (.tmp 53) 0, 0, none⟩, ⟨some 55, .load 42 (.tmp 54), 42, none⟩, ⟨some 56, .call { callee := .builtin .len, args := #[.tmp 55], argTypes := #[42] }, 3, none⟩, ⟨some 57, .binOp .rem 3 (.tmp 51) (.tmp 56) 3, 3, none⟩, ⟨some 58, .indexAddr 42 (.tmp 50) (.tmp 57), 0, none⟩, ⟨some 59, .load 5 (.tmp 58), 5, none⟩, ⟨some 60, .convert 5 3 (.tmp 59), 3, none⟩, ⟨some 61, .binOp .mul 3 (.tmp 60) (.const (.int .i64 131)) 3, 3, none⟩, ⟨some 62, .move (.tmp 0), 79, none⟩, ⟨some 63, .nilCheck (.tmp 62), 0, none⟩, ⟨some 64, .fieldAddr 93 (.tmp 63) 0, 0, none⟩, ⟨some 65, .load 42 (.tmp 64), 42, none⟩, ⟨some 66, .move (.tmp 5), 3, none⟩, ⟨some 67, .binOp .mul 3 (.tmp 66) (.const (.int .i64 7)) 3, 3, none⟩, ⟨some 68, .binOp .add 3 (.tmp 67) (.const (.int .i64 3)) 3, 3, none⟩, ⟨some 69, .move (.tmp 0), 79, none⟩, ⟨some 70, .nilCheck (.tmp 69), 0, none⟩, ⟨some 71, .fieldAddr 93 (.tmp 70) 0, 0, none⟩, ⟨some 72, .load 42 (.tmp 71), 42, none⟩, ⟨some 73, .call { callee := .builtin .len, args := #[.tmp 72], argTypes := #[42] }, 3, none⟩, ⟨some 74, .binOp .rem 3 (.tmp 68) (.tmp 73) 3, 3, none⟩, ⟨some 75, .indexAddr 42 (.tmp 65) (.tmp 74), 0, none⟩, ⟨some 76, .load 5 (.tmp 75), 5, none⟩, ⟨some 77, .convert 5 3 (.tmp 76), 3, none⟩, ⟨some 78, .binOp .mul 3 (.tmp 77) (.const (.int .i64 1117)) 3, 3, none⟩, ⟨some 79, .binOp .add 3 (.tmp 61) (.tmp 78) 3, 3, none⟩, ⟨some 80, .move (.tmp 5), 3, none⟩, ⟨some 81, .binOp .mul 3 (.tmp 80) (.const (.int .i64 29)) 3, 3, none⟩, ⟨some 82, .binOp .add 3 (.tmp 79) (.tmp 81) 3, 3, none⟩, ⟨some 83, .move (.tmp 5), 3, none⟩, ⟨some 84, .move (.tmp 0), 79, none⟩, ⟨some 85, .nilCheck (.tmp 84), 0, none⟩, ⟨some 86, .fieldAddr 93 (.tmp 85) 0, 0, none⟩, ⟨some 87, .load 42 (.tmp 86), 42, none⟩, ⟨some 88, .call { callee := .builtin .len, args := #[.tmp 87], argTypes := #[42] }, 3, none⟩, ⟨some 89, .binOp .quo 3 (.tmp 83) (.tmp 88) 3, 3, none⟩, ⟨some 90, .binOp .mul 3 (.tmp 89) (.const (.int .i64 53)) 3, 3, none⟩] [⟨some 91, .binOp .add 3 (.tmp 82) (.tmp 90) 3, 3, none⟩, ⟨some 6, .assign (.tmp 91), 3, none⟩]) (.seq (.ops [⟨some 92, .move (.tmp 6), 3, none⟩, ⟨some 93, .move (.tmp 6), 3, none⟩, ⟨some 94, .binOp .quo 3 (.tmp 93) (.const (.int .i64 64)) 3, 3, none⟩, ⟨some 95, .binOp .xor 3 (.tmp 92) (.tmp 94) 3, 3, none⟩, ⟨some 6, .assign (.tmp 95), 3, none⟩]) (.seq (.ops [⟨some 96, .move (.tmp 6), 3, none⟩, ⟨some 97, .move (.tmp 1), 3, none⟩, ⟨some 98, .binOp .rem 3 (.tmp 96) (.tmp 97) 3, 3, none⟩, ⟨some 4, .assign (.tmp 98), 3, none⟩]) (.ret)))
@[simp] theorem q_s_l1Rd_pick_c0_run : type_of% (run_is q_s_l1Rd_pick_c0.eq_1) := run_is q_s_l1Rd_pick_c0.eq_1
def q_s_l1Rd_pick_c1 : QCode := .seq (.ops [⟨some 25, .move (.tmp 0), 79, none⟩, ⟨some 26, .nilCheck (.tmp 25), 0, none⟩, ⟨some 27, .fieldAddr 93 (.tmp 26) 1, 0, none⟩, ⟨some 28, .load 3 (.tmp 27), 3, none⟩, ⟨some 29, .binOp .sub 3 (.tmp 28) (.const (.int .i64 1)) 3, 3, none⟩, ⟨some 5, .assign (.tmp 29), 3, none⟩]) (.seq (.seq (.ops [⟨some 30, .move (.tmp 5), 3, none⟩, ⟨some 31, .move (.tmp 0), 79, none⟩, ⟨some 32, .nilCheck (.tmp 31), 0, none⟩, ⟨some 33, .fieldAddr 93 (.tmp 32) 0, 0, none⟩, ⟨some 34, .load 42 (.tmp 33), 42, none⟩, ⟨some 35, .call { callee := .builtin .len, args := #[.tmp 34], argTypes := #[42] }, 3, none⟩, ⟨some 36, .binOp .lss 3 (.tmp 30) (.tmp 35) 3, 4, none⟩]) (.cond (.tmp 36) (.seq (.ops [⟨some 37, .move (.tmp 0), 79, none⟩, ⟨some 38, .nilCheck (.tmp 37), 0, none⟩, ⟨some 39, .fieldAddr 93 (.tmp 38) 0, 0, none⟩, ⟨some 40, .load 42 (.tmp 39), 42, none⟩, ⟨some 41, .move (.tmp 5), 3, none⟩, ⟨some 42, .indexAddr 42 (.tmp 40) (.tmp 41), 0, none⟩, ⟨some 43, .load 5 (.tmp 42), 5, none⟩, ⟨some 44, .convert 5 3 (.tmp 43), 3, none⟩, ⟨some 45, .move (.tmp 1), 3, none⟩, ⟨some 46, .binOp .rem 3 (.tmp 44) (.tmp 45) 3, 3, none⟩, ⟨some 4, .assign (.tmp 46), 3, none⟩]) (.ret)) (.skip))) (q_s_l1Rd_pick_c0))
@[simp] theorem q_s_l1Rd_pick_c1_run : type_of% (run_is q_s_l1Rd_pick_c1.eq_1) := run_is q_s_l1Rd_pick_c1.eq_1
@[simp] def q_s_l1Rd_pick : QFn := ⟨99, [(.tmp 4, 3)], .seq (.ops [⟨some 4, .assign (.const (.int .i64 0)), 3, none⟩]) (.seq (.ops [⟨some 7, .move (.tmp 0), 79, none⟩, ⟨some 8, .move (.tmp 0), 79, none⟩, ⟨some 9, .nilCheck (.tmp 8), 0, none⟩, ⟨some 10, .fieldAddr 93 (.tmp 9) 1, 0, none⟩, ⟨some 11, .load 3 (.tmp 10), 3, none⟩, ⟨some 12, .binOp .add 3 (.tmp 11) (.const (.int .i64 1)) 3, 3, none⟩, ⟨some 13, .nilCheck (.tmp 7), 0, none⟩, ⟨some 14, .fieldAddr 93 (.tmp 13) 1, 0, none⟩, ⟨none, .store 3 (.tmp 14) (.tmp 12), 0, none⟩]) (.seq (.seq (.ops [⟨some 15, .move (.tmp 1), 3, none⟩, ⟨some 16, .binOp .lss 3 (.tmp 15) (.const (.int .i64 1)) 3, 4, none⟩, ⟨some 17, .move (.tmp 16), 4, none⟩, ⟨some 18, .move (.tmp 0), 79, some (17, false)⟩, ⟨some 19, .nilCheck (.tmp 18), 0, some (17, false)⟩, ⟨some 20, .fieldAddr 93 (.tmp 19) 0, 0, some (17, false)⟩, ⟨some 21, .load 42 (.tmp 20), 42, some (17, false)⟩, ⟨some 22, .call { callee := .builtin .len, args := #[.tmp 21], argTypes := #[42] }, 3, some (17, false)⟩, ⟨some 23, .binOp .eql 3 (.tmp 22) (.const (.int .i64 0)) 3, 4, some (17, false)⟩, ⟨some 24, .pick (.tmp 17) (.const (.bool true)) (.tmp 23), 4, none⟩]) (.cond (.tmp 24) (.seq (.ops [⟨some 4, .assign (.const (.int .i64 0)), 3, none⟩]) (.ret)) (.skip))) (q_s_l1Rd_pick_c1)))⟩
theorem conv_s_l1Rd_pick : convF Try.f62 = some q_s_l1Rd_pick := by kernel_rfl
/-! 63 s_l11Near -/
abbrev fn_s_l11Near : FuncId := 63
def q_s_l11Near_c0 : QCode := .ops [⟨some 15, .move (.tmp 6), 3, none⟩, ⟨some 16, .binOp .sub 3 (.tmp 15) (.const (.int .i64 1)) 3, 3, none⟩, ⟨some 6, .assign (.tmp 16), 3, none⟩]
@[simp] theorem q_s_l11Near_c0_run : type_of% (run_is q_s_l11Near_c0.eq_1) := run_is q_s_l11Near_c0.eq_1
def q_s_l11Near_c1 : QCode := .seq (.block 1 (.seq (.ops [⟨some 17, .move (.tmp 0), 79, none⟩, ⟨some 18, .move (.tmp 5), 36, none⟩, ⟨some 19, .call { callee := .builtin .len, args := #[.tmp 18], argTypes := #[36] }, 3, none⟩, ⟨some 20, .binOp .add 3 (.tmp 19) (.const (.int .i64 1)) 3, 3, none⟩, ⟨some 21, .call { callee := .value (.func 62), args := #[.tmp 17, .tmp 20], argTypes := #[79, 3] }, 3, none⟩, ⟨some 7, .assign (.tmp 21), 3, none⟩]) (.seq (.ops [⟨some 22, .move (.tmp 0), 79, none⟩, ⟨some 23, .call { callee := .value (.func 62), args := #[.tmp 22, .const (.int .i64 3)], argTypes := #[79, 3] }, 3, none⟩]) (.block 2 (.seq (.ops [⟨some 25, .binOp .eql 3 (.tmp 23) (.const (.int .i64 0)) 3, 4, none⟩, ⟨some 24, .assign (.tmp 25), 4, none⟩]) (.cond (.tmp 24) (.seq (.ice [5]) (.draw [⟨some 27, .move (.tmp 5), 36, none⟩, ⟨some 28, .move (.tmp 7), 3, none⟩, ⟨some 29, .slice 36 (.tmp 27) none (some (.tmp 28)) none, 36, none⟩, ⟨some 31, .move (.tmp 0), 79, none⟩, ⟨some 36, .move (.tmp 5), 36, none⟩, ⟨some 37, .move (.tmp 7), 3, none⟩, ⟨some 38, .slice 36 (.tmp 36) (some (.tmp 37)) none none, 36, none⟩, ⟨some 26, .buildSlice 36 0 #[], 36, none⟩, ⟨some 30, .call { callee := .builtin .append, args := #[.tmp 26, .tmp 29], argTypes := #[36, 36] }, 36, none⟩, ⟨some 32, .buildSlice 36 2 #[(0, .const (.string { data := #[110, 101, 119] })), (1, .const (.string { data := #[97] }))], 36, none⟩] [⟨some 33, .call { callee := .value (.func 75), args := #[.tmp 31, .tmp 32], argTypes := #[79, 36] }, 9, none⟩, ⟨some 34, .buildSlice 36 1 #[(0, .tmp 33)], 36, none⟩, ⟨some 35, .call { callee := .builtin .append, args := #[.tmp 30, .tmp 34], argTypes := #[36, 36] }, 36, none⟩, ⟨some 39, .call { callee := .builtin .append, args := #[.tmp 35, .tmp 38], argTypes := #[36, 36] }, 36, none⟩, ⟨some 5, .assign (.tmp 39), 36, none⟩])) (.seq (.ops [⟨some 41, .binOp .eql 3 (.tmp 23) (.const (.int .i64 1)) 3, 4, none⟩, ⟨some 40, .assign (.tmp 41), 4, none⟩]) (.cond (.tmp 40) (.seq (.ops [⟨some 42, .move (.tmp 7), 3, none⟩, ⟨some 43, .move (.tmp 5), 36, none⟩, ⟨some 44, .call { callee := .builtin .len, args := #[.tmp 43], argTypes := #[36] }, 3, none⟩, ⟨some 45, .binOp .lss 3 (.tmp 42) (.tmp 44) 3, 4, none⟩]) (.cond (.tmp 45) (.seq (.ice [5]) (.draw [⟨some 47, .move (.tmp 5), 36, none⟩, ⟨some 48, .move (.tmp 7), 3, none⟩, ⟨some 49, .slice 36 (.tmp 47) none (some (.tmp 48)) none, 36, none⟩, ⟨some 51, .move (.tmp 5), 36, none⟩, ⟨some 52, .move (.tmp 7), 3, none⟩, ⟨some 46, .buildSlice 36 0 #[], 36, none⟩, ⟨some 50, .call { callee := .builtin .append, args := #[.tmp 46, .tmp 49], argTypes := #[36, 36] }, 36, none⟩, ⟨some 53, .binOp .add 3 (.tmp 52) (.const (.int .i64 1)) 3, 3, none⟩, ⟨some 54, .slice 36 (.tmp 51) (some (.tmp 53)) none none, 36, none⟩] [⟨some 55, .call { callee := .builtin .append, args := #[.tmp 50, .tmp 54], argTypes := #[36, 36] }, 36, none⟩, ⟨some 5, .assign (.tmp 55), 36, none⟩])) (.skip))) (.seq (.ops [⟨some 57, .binOp .eql 3 (.tmp 23) (.const (.int .i64 2)) 3, 4, none⟩, ⟨some 56, .assign (.tmp 57), 4, none⟩]) (.cond (.tmp 56) (.seq (.ops [⟨some 58, .move (.tmp 7), 3, none⟩, ⟨some 59, .move (.tmp 5), 36, none⟩, ⟨some 60, .call { callee := .builtin .len, args := #[.tmp 59], argTypes := #[36] }, 3, none⟩, ⟨some 61, .binOp .lss 3 (.tmp 58) (.tmp 60) 3, 4, none⟩]) (.cond (.tmp 61) (.ops [⟨some 62, .move (.tmp 5), 36, none⟩, ⟨some 63, .move (.tmp 7), 3, none⟩, ⟨some 64, .indexAddr 36 (.tmp 62) (.tmp 63), 0, none⟩, ⟨none, .store 9 (.tmp 64) (.const (.string { data := #[116, 117, 114, 110, 101, 100] })), 0, none⟩]) (.skip))) (.skip))))))))))) (q_s_l11Near_c0)
@[simp] theorem q_s_l11Near_c1_run : type_of% (run_is q_s_l11Near_c1.eq_1) := run_is q_s_l11Near_c1.eq_1
def q_s_l11Near_l0 : QCode := .seq (.seq (.ops [⟨some 13, .move (.tmp 6), 3, none⟩, ⟨some 14, .binOp .gtr 3 (.tmp 13) (.const (.int .i64 0)) 3, 4, none⟩]) (.cond (.tmp 14) (.skip) (.exit 0))) (q_s_l11Near_c1)
@[simp] theorem q_s_l11Near_l0_run : type_of% (run_is q_s_l11Near_l0.eq_1) := run_is q_s_l11Near_l0.eq_1
def q_s_l11Near_c2 : QCode := .seq (.ops [⟨some 65, .move (.tmp 5), 36, none⟩, ⟨some 4, .assign (.tmp 65), 36, none⟩]) (.ret)
@[simp] theorem q_s_l11Near_c2_run : type_of% (run_is q_s_l11Near_c2.eq_1) := run_is q_s_l11Near_c2.eq_1
@[simp] def q_s_l11Near : QFn := ⟨66, [(.tmp 4, 36)], .seq (.ops [⟨some 4, .assign (.const (.slice none 0 0)), 36, none⟩]) (.seq (.ops [⟨some 8, .buildSlice 36 0 #[], 36, none⟩, ⟨some 9, .move (.tmp 1), 36, none⟩, ⟨some 10, .call { callee := .builtin .append, args := #[.tmp 8, .tmp 9], argTypes := #[36, 36] }, 36, none⟩, ⟨some 5, .assign (.tmp 10), 36, none⟩]) (.seq (.seq (.ops [⟨some 11, .move (.tmp 0), 79, none⟩, ⟨some 12, .call { callee := .value (.func 62), args := #[.tmp 11, .const (.int .i64 3)], argTypes := #[79, 3] }, 3, none⟩, ⟨some 6, .assign (.tmp 12), 3, none⟩]) (.block 0 (.loop q_s_l11Near_l0))) (q_s_l11Near_c2)))⟩
theorem conv_s_l11Near : convF Try.f63 = some q_s_l11Near := by kernel_rfl
/-! 64 slices_Clone_L_string_string -/
abbrev fn_slices_Clone_L_string_string : FuncId := 64
def q_slices_Clone_L_string_string_c0 : QCode := .seq (.ops [⟨some 5, .buildSlice 36 0 #[], 36, none⟩, ⟨some 6, .move (.tmp 0), 36, none⟩, ⟨some 7, .call { callee := .builtin .append, args := #[.tmp 5, .tmp 6], argTypes := #[36, 36] }, 36, none⟩, ⟨some 2, .assign (.tmp 7), 36, none⟩]) (.ret)
@[simp] theorem q_slices_Clone_L_string_string_c0_run : type_of% (run_is q_slices_Clone_L_string_string_c0.eq_1) := run_is q_slices_Clone_L_string_string_c0.eq_1
@[simp] def q_slices_Clone_L_string_string : QFn := ⟨8, [(.tmp 2, 36)], .seq (.ops [⟨some 2, .assign (.const (.slice none 0 0)), 36, none⟩]) (.seq (.seq (.ops [⟨some 3, .move (.tmp 0), 36, none⟩, ⟨some 4, .binOp .eql 36 (.tmp 3) (.const (.slice none 0 0)) 36, 4, none⟩]) (.cond (.tmp 4) (.seq (.ops [⟨some 2, .assign (.const (.slice none 0 0)), 36, none⟩]) (.ret)) (.skip))) (q_slices_Clone_L_string_string_c0))⟩
theorem conv_slices_Clone_L_string_string : convF Try.f64 = some q_slices_Clone_L_string_string := by kernel_rfl
/-! 65 i_patcher_apply -/
abbrev fn_i_patcher_apply : FuncId := 65
def q_i_patcher_apply_c0 : QCode := .ops [⟨some 17, .binOp .add 3 (.tmp 10) (.const (.int .i64 1)) 3, 3, none⟩, ⟨some 10, .move (.tmp 17), 3, none⟩]
@[simp] theorem q_i_patcher_apply_c0_run : type_of% (run_is q_i_patcher_apply_c0.eq_1) := run_is q_i_patcher_apply_c0.eq_1
def q_i_patcher_apply_c1 : QCode := .seq (.block 1 (.seq (.ops [⟨some 12, .move (.tmp 10), 3, none⟩, ⟨some 7, .assign (.tmp 12), 3, none⟩]) (.seq (.ops [⟨some 13, .move (.tmp 0), 95, none⟩, ⟨some 14, .load 46 (.tmp 4), 46, none⟩, ⟨some 15, .move (.tmp 7), 3, none⟩, ⟨some 16, .call { callee := .value (.func 76), args := #[.tmp 13, .tmp 14, .tmp 15], argTypes := #[95, 46, 3] }, 4, none⟩]) (.cond (.tmp 16) (.seq (.ops [⟨some 6, .assign (.const (.bool true)), 4, none⟩]) (.ret)) (.skip))))) (q_i_patcher_apply_c0)
@[simp] theorem q_i_patcher_apply_c1_run : type_of% (run_is q_i_patcher_apply_c1.eq_1) := run_is q_i_patcher_apply_c1.eq_1
def q_i_patcher_apply_l0 : QCode := .seq (.ops [⟨some 11, .binOp .lss 3 (.tmp 10) (.tmp 9) 3, 4, none⟩]) (.seq (.cond (.tmp 11) (.skip) (.exit 0)) (q_i_patcher_apply_c1))
@[simp] theorem q_i_patcher_apply_l0_run : type_of% (run_is q_i_patcher_apply_l0.eq_1) := run_is q_i_patcher_apply_l0.eq_1
def q_i_patcher_apply_c2 : QCode := .seq (.ops [⟨some 6, .assign (.const (.bool false)), 4, none⟩]) (.ret)
@[simp] theorem q_i_patcher_apply_c2_run : type_of% (run_is q_i_patcher_apply_c2.eq_1) := run_is q_i_patcher_apply_c2.eq_1
@[simp] def q_i_patcher_apply : QFn := ⟨18, [(.tmp 6, 4)], .seq (.ops [⟨some 4, .box 46 (.tmp 1), 0, none⟩, ⟨some 6, .assign (.const (.bool false)), 4, none⟩]) (.seq (.seq (.ops [⟨some 8, .move (.tmp 2), 3, none⟩, ⟨some 9, .binOp .add 3 (.tmp 8) (.const (.int .i64 1)) 3, 3, none⟩, ⟨some 10, .move (.const (.int .i64 0)), 3, none⟩]) (.block 0 (.loop q_i_patcher_apply_l0))) (q_i_patcher_apply_c2))⟩
theorem conv_i_patcher_apply : convF Try.f65 = some q_i_patcher_apply := by kernel_rfl
/-! 66 s_l1In -/
abbrev fn_s_l1In : FuncId := 66
@[simp] def q_s_l1In : QFn := ⟨15, [(.tmp 6, 4)], .seq (.ops [⟨some 6, .assign (.const (.bool false)), 4, none⟩]) (.seq (.ops [⟨some 7, .move (.tmp 0), 3, none⟩, ⟨some 8, .move (.tmp 1), 3, none⟩, ⟨some 9, .binOp .geq 3 (.tmp 7) (.tmp 8) 3, 4, none⟩, ⟨some 10, .move (.tmp 9), 4, none⟩, ⟨some 11, .move (.tmp 0), 3, some (10, true)⟩, ⟨some 12, .move (.tmp 2), 3, some (10, true)⟩, ⟨some 13, .binOp .leq 3 (.tmp 11) (.tmp 12) 3, 4, some (10, true)⟩, ⟨some 14, .pick (.tmp 10) (.tmp 13) (.const (.bool false)), 4, none⟩, ⟨some 6, .assign (.tmp 14), 4, none⟩]) (.ret))⟩
theorem conv_s_l1In : convF Try.f66 = some q_s_l1In := by kernel_rfl
/-! 67 s_l5One -/
abbrev fn_s_l5One : FuncId := 67
def q_s_l5One_c0 : QCode := .ops [⟨some 24, .move (.tmp 14), 3, none⟩, ⟨some 25, .binOp .add 3 (.tmp 24) (.const (.int .i64 1)) 3, 3, none⟩, ⟨some 14, .assign (.tmp 25), 3, none⟩]
@[simp] theorem q_s_l5One_c0_run : type_of% (run_is q_s_l5One_c0.eq_1) := run_is q_s_l5One_c0.eq_1
def q_s_l5One_c1 : QCode := .seq (.block 1 (.seq (.ops [⟨some 27, .load 46 (.tmp 6), 46, none⟩, ⟨some 28, .move (.tmp 14), 3, none⟩, ⟨some 29, .call { callee := .value (.func 77), args := #[.tmp 27, .tmp 28], argTypes := #[46, 3] }, 96, none⟩, ⟨some 26, .move (.tmp 29), 96, none⟩, ⟨some 30, .extract (.tmp 26) 0, 46, none⟩, ⟨some 31, .extract (.tmp 26) 1, 3, none⟩, ⟨some 15, .alloc 46, 0, none⟩, ⟨none, .store 46 (.tmp 15) (.tmp 30), 0, none⟩, ⟨some 16, .assign (.tmp 31), 3, none⟩]) (.seq (.ops [⟨some 32, .load 46 (.tmp 15), 46, none⟩, ⟨some 33, .call { callee := .value (.func 48), args := #[.tmp 32], argTypes := #[46] }, 36, none⟩, ⟨some 17, .assign (.tmp 33), 36, none⟩]) (.seq (.ops [⟨some 34, .load 46 (.tmp 15), 46, none⟩, ⟨some 35, .call { callee := .value (.func 68), args := #[.tmp 34], argTypes := #[46] }, 36, none⟩, ⟨some 18, .assign (.tmp 35), 36, none⟩]) (.seq (.ops [⟨some 36, .move (.tmp 0), 36, none⟩, ⟨some 37, .move (.tmp 17), 36, none⟩, ⟨some 38, .fieldAddr 46 (.tmp 15) 0, 0, none⟩, ⟨some 39, .load 3 (.tmp 38), 3, none⟩, ⟨some 40, .binOp .sub 3 (.tmp 39) (.const (.int .i64 1)) 3, 3, none⟩, ⟨some 41, .move (.tmp 3), 3, none⟩, ⟨some 42, .binOp .add 3 (.tmp 40) (.tmp 41) 3, 3, none⟩, ⟨some 43, .move (.tmp 2), 3, none⟩, ⟨some 44, .call { callee := .value (.func 78), args := #[.tmp 36, .tmp 37, .tmp 42, .tmp 43], argTypes := #[36, 36, 3, 3] }, 3, none⟩, ⟨some 19, .assign (.tmp 44), 3, none⟩]) (.seq (.ops [⟨some 45, .move (.tmp 19), 3, none⟩, ⟨some 46, .binOp .geq 3 (.tmp 45) (.const (.int .i64 0)) 3, 4, none⟩]) (.cond (.tmp 46) (.seq (.seq (.ice [0]) (.draw [⟨some 48, .move (.tmp 0), 36, none⟩, ⟨some 49, .move (.tmp 19), 3, none⟩, ⟨some 50, .slice 36 (.tmp 48) none (some (.tmp 49)) none, 36, none⟩, ⟨some 52, .move (.tmp 18), 36, none⟩, ⟨some 54, .move (.tmp 0), 36, none⟩, ⟨some 55, .move (.tmp 19), 3, none⟩, ⟨some 56, .move (.tmp 17), 36, none⟩, ⟨some 47, .buildSlice 36 0 #[], 36, none⟩, ⟨some 51, .call { callee := .builtin .append, args := #[.tmp 47, .tmp 50], argTypes := #[36, 36] }, 36, none⟩, ⟨some 53, .call { callee := .builtin .append, args := #[.tmp 51, .tmp 52], argTypes := #[36, 36] }, 36, none⟩, ⟨some 57, .call { callee := .builtin .len, args := #[.tmp 56], argTypes := #[36] }, 3, none⟩, ⟨some 58, .binOp .add 3 (.tmp 55) (.tmp 57) 3, 3, none⟩, ⟨some 59, .slice 36 (.tmp 54) (some (.tmp 58)) none none, 36, none⟩] [⟨some 60, .call { callee := .builtin .append, args := #[.tmp 53, .tmp 59], argTypes := #[36, 36] }, 36, none⟩, ⟨some 20, .assign (.tmp 60), 36, none⟩])) (.seq (.draw [⟨some 61, .move (.tmp 20), 36, none⟩, ⟨some 62, .move (.tmp 19), 3, none⟩, ⟨some 63, .move (.tmp 18), 36, none⟩, ⟨some 64, .call { callee := .builtin .len, args := #[.tmp 63], argTypes := #[36] }, 3, none⟩, ⟨some 65, .binOp .add 3 (.tmp 62) (.tmp 64) 3, 3, none⟩, ⟨some 66, .move (.tmp 19), 3, none⟩, ⟨some 67, .fieldAddr 46 (.tmp 15) 0, 0, none⟩, ⟨some 68, .load 3 (.tmp 67), 3, none⟩, ⟨some 69, .binOp .sub 3 (.tmp 68) (.const (.int .i64 1)) 3, 3, none⟩, ⟨some 70, .move (.tmp 3), 3, none⟩, ⟨some 71, .binOp .add 3 (.tmp 69) (.tmp 70) 3, 3, none⟩, ⟨some 72, .binOp .sub 3 (.tmp 66) (.tmp 71) 3, 3, none⟩, ⟨some 10, .assign (.tmp 61), 36, none⟩, ⟨some 11, .assign (.tmp 65), 3, none⟩] [⟨some 12, .assign (.tmp 72), 3, none⟩, ⟨some 13, .assign (.const (.bool true)), 4, none⟩]) (.ret))) (.skip)))))))) (q_s_l5One_c0)
@[simp] theorem q_s_l5One_c1_run : type_of% (run_is q_s_l5One_c1.eq_1) := run_is q_s_l5One_c1.eq_1
def q_s_l5One_l0 : QCode := .seq (.seq (.ops [⟨some 21, .move (.tmp 14), 3, none⟩, ⟨some 22, .move (.tmp 4), 3, none⟩, ⟨some 23, .binOp .leq 3 (.tmp 21) (.tmp 22) 3, 4, none⟩]) (.cond (.tmp 23) (.skip) (.exit 0))) (q_s_l5One_c1)
@[simp] theorem q_s_l5One_l0_run : type_of% (run_is q_s_l5One_l0.eq_1) := run_is q_s_l5One_l0.eq_1
def q_s_l5One_c2 : QCode := .seq (.ops [⟨some 73, .move (.tmp 0), 36, none⟩, ⟨some 74, .move (.tmp 2), 3, none⟩, ⟨some 10, .assign (.tmp 73), 36, none⟩, ⟨some 11, .assign (.tmp 74), 3, none⟩, ⟨some 12, .assign (.const (.int .i64 0)), 3, none⟩, ⟨some 13, .assign (.const (.bool false)), 4, none⟩]) (.ret)
@[simp] theorem q_s_l5One_c2_run : type_of% (run_is q_s_l5One_c2.eq_1) := run_is q_s_l5One_c2.eq_1
@[simp] def q_s_l5One : QFn := ⟨75, [(.tmp 10, 36), (.tmp 11, 3), (.tmp 12, 3), (.tmp 13, 4)], .seq (.ops [⟨some 6, .box 46 (.tmp 1), 0, none⟩, ⟨some 10, .assign (.const (.slice none 0 0)), 36, none⟩, ⟨some 11, .assign (.const (.int .i64 0)), 3, none⟩, ⟨some 12, .assign (.const (.int .i64 0)), 3, none⟩, ⟨some 13, .assign (.const (.bool false)), 4, none⟩]) (.seq (.seq (.ops [⟨some 14, .assign (.const (.int .i64 0)), 3, none⟩]) (.block 0 (.loop q_s_l5One_l0))) (q_s_l5One_c2))⟩
theorem conv_s_l5One : convF Try.f67 = some q_s_l5One := by kernel_rfl
/-! 68 s_l5New -/
abbrev fn_s_l5New : FuncId := 68
def q_s_l5New_c0 : QCode := .ops [⟨some 11, .move (.tmp 4), 3, none⟩, ⟨some 12, .binOp .add 3 (.tmp 11) (.const (.int .i64 1)) 3, 3, none⟩, ⟨some 4, .assign (.tmp 12), 3, none⟩]
@[simp] theorem q_s_l5New_c0_run : type_of% (run_is q_s_l5New_c0.eq_1) := run_is q_s_l5New_c0.eq_1
def q_s_l5New_c1 : QCode := .seq (.block 1 (.seq (.ops [⟨some 13, .fieldAddr 46 (.tmp 1) 1, 0, none⟩, ⟨some 14, .load 36 (.tmp 13), 36, none⟩, ⟨some 15, .move (.tmp 4), 3, none⟩, ⟨some 16, .indexAddr 36 (.tmp 14) (.tmp 15), 0, none⟩, ⟨some 17, .load 9 (.tmp 16), 9, none⟩, ⟨some 18, .index 9 (.tmp 17) (.const (.int .i64 0)), 5, none⟩, ⟨some 19, .binOp .neq 5 (.tmp 18) (.const (.int .u8 45)) 5, 4, none⟩]) (.cond (.tmp 19) (.ops [⟨some 20, .move (.tmp 3), 36, none⟩, ⟨some 21, .fieldAddr 46 (.tmp 1) 1, 0, none⟩, ⟨some 22, .load 36 (.tmp 21), 36, none⟩, ⟨some 23, .move (.tmp 4), 3, none⟩, ⟨some 24, .indexAddr 36 (.tmp 22) (.tmp 23), 0, none⟩, ⟨some 25, .load 9 (.tmp 24), 9, none⟩, ⟨some 26, .slice 9 (.tmp 25) (some (.const (.int .i64 1))) none none, 9, none⟩, ⟨some 27, .buildSlice 36 1 #[(0, .tmp 26)], 36, none⟩, ⟨some 28, .call { callee := .builtin .append, args := #[.tmp 20, .tmp 27], argTypes := #[36, 36] }, 36, none⟩, ⟨some 3, .assign (.tmp 28), 36, none⟩]) (.skip)))) (q_s_l5New_c0)
@[simp] theorem q_s_l5New_c1_run : type_of% (run_is q_s_l5New_c1.eq_1) := run_is q_s_l5New_c1.eq_1
def q_s_l5New_l0 : QCode := .seq (.seq (.ops [⟨some 6, .move (.tmp 4), 3, none⟩, ⟨some 7, .fieldAddr 46 (.tmp 1) 1, 0, none⟩, ⟨some 8, .load 36 (.tmp 7), 36, none⟩, ⟨some 9, .call { callee := .builtin .len, args := #[.tmp 8], argTypes := #[36] }, 3, none⟩, ⟨some 10, .binOp .lss 3 (.tmp 6) (.tmp 9) 3, 4, none⟩]) (.cond (.tmp 10) (.skip) (.exit 0))) (q_s_l5New_c1)
@[simp] theorem q_s_l5New_l0_run : type_of% (run_is q_s_l5New_l0.eq_1) := run_is q_s_l5New_l0.eq_1
def q_s_l5New_c2 : QCode := .seq (.ops [⟨some 29, .move (.tmp 3), 36, none⟩, ⟨some 2, .assign (.tmp 29), 36, none⟩]) (.ret)
@[simp] theorem q_s_l5New_c2_run : type_of% (run_is q_s_l5New_c2.eq_1) := run_is q_s_l5New_c2.eq_1
@[simp] def q_s_l5New : QFn := ⟨30, [(.tmp 2, 36)], .seq (.ops [⟨some 1, .box 46 (.tmp 0), 0, none⟩, ⟨some 2, .assign (.const (.slice none 0 0)), 36, none⟩]) (.seq (.ops [⟨some 5, .buildSlice 36 0 #[], 36, none⟩, ⟨some 3, .assign (.tmp 5), 36, none⟩]) (.seq (.seq (.ops [⟨some 4, .assign (.const (.int .i64 0)), 3, none⟩]) (.block 0 (.loop q_s_l5New_l0))) (q_s_l5New_c2)))⟩
theorem conv_s_l5New : convF Try.f68 = some q_s_l5New := by kernel_rfl
/-! 73 s_l5Seen -/
abbrev fn_s_l5Seen : FuncId := 73
def q_s_l5Seen_c0 : QCode := .ops [⟨some 8, .move (.tmp 3), 3, none⟩, ⟨some 9, .binOp .add 3 (.tmp 8) (.const (.int .i64 1)) 3, 3, none⟩, ⟨some 3, .assign (.tmp 9), 3, none⟩]
@[simp] theorem q_s_l5Seen_c0_run : type_of% (run_is q_s_l5Seen_c0.eq_1) := run_is q_s_l5Seen_c0.eq_1
def q_s_l5Seen_c1 : QCode := .seq (.block 1 (.seq (.ops [⟨some 10, .move (.tmp 0), 9, none⟩, ⟨some 11, .move (.tmp 3), 3, none⟩, ⟨some 12, .index 9 (.tmp 10) (.tmp 11), 5, none⟩, ⟨some 13, .convert 5 3 (.tmp 12), 3, none⟩, ⟨some 14, .call { callee := .value (.func 66), args := #[.tmp 13, .const (.int .i64 32), .const (.int .i64 126)], argTypes := #[3, 3, 3] }, 4, none⟩, ⟨some 15, .unOp .not 4 (.tmp 14), 4, none⟩]) (.cond (.tmp 15) (.seq (.ops [⟨some 2, .assign (.const (.bool false)), 4, none⟩]) (.ret)) (.skip)))) (q_s_l5Seen_c0)
@[simp] theorem q_s_l5Seen_c1_run : type_of% (run_is q_s_l5Seen_c1.eq_1) := run_is q_s_l5Seen_c1.eq_1
def q_s_l5Seen_l0 : QCode := .seq (.seq (.ops [⟨some 4, .move (.tmp 3), 3, none⟩, ⟨some 5, .move (.tmp 0), 9, none⟩, ⟨some 6, .call { callee := .builtin .len, args := #[.tmp 5], argTypes := #[9] }, 3, none⟩, ⟨some 7, .binOp .lss 3 (.tmp 4) (.tmp 6) 3, 4, none⟩]) (.cond (.tmp 7) (.skip) (.exit 0))) (q_s_l5Seen_c1)
@[simp] theorem q_s_l5Seen_l0_run : type_of% (run_is q_s_l5Seen_l0.eq_1) := run_is q_s_l5Seen_l0.eq_1
def q_s_l5Seen_c2 : QCode := .seq (.ops [⟨some 16, .move (.tmp 0), 9, none⟩, ⟨some 17, .call { callee := .builtin .len, args := #[.tmp 16], argTypes := #[9] }, 3, none⟩, ⟨some 18, .binOp .leq 3 (.tmp 17) (.const (.int .i64 80)) 3, 4, none⟩, ⟨some 2, .assign (.tmp 18), 4, none⟩]) (.ret)
@[simp] theorem q_s_l5Seen_c2_run : type_of% (run_is q_s_l5Seen_c2.eq_1) := run_is q_s_l5Seen_c2.eq_1
@[simp] def q_s_l5Seen : QFn := ⟨19, [(.tmp 2, 4)], .seq (.ops [⟨some 2, .assign (.const (.bool false)), 4, none⟩]) (.seq (.seq (.ops [⟨some 3, .assign (.const (.int .i64 0)), 3, none⟩]) (.block 0 (.loop q_s_l5Seen_l0))) (q_s_l5Seen_c2))⟩
theorem conv_s_l5Seen : convF Try.f73 = some q_s_l5Seen := by kernel_rfl
/-! 74 i_plainText -/
abbrev fn_i_plainText : FuncId := 74
def q_i_plainText_c0 : QCode := .ops [⟨some 17, .binOp .add 3 (.tmp 9) (.const (.int .i64 1)) 3, 3, none⟩, ⟨some 9, .move (.tmp 17), 3, none⟩]
@[simp] theorem q_i_plainText_c0_run : type_of% (run_is q_i_plainText_c0.eq_1) := run_is q_i_plainText_c0.eq_1
def q_i_plainText_c1 : QCode := .seq (.block 1 (.seq (.ops [⟨some 11, .move (.tmp 9), 3, none⟩, ⟨some 3, .assign (.tmp 11), 3, none⟩]) (.seq (.ops [⟨some 12, .move (.tmp 0), 9, none⟩, ⟨some 13, .move (.tmp 3), 3, none⟩, ⟨some 14, .index 9 (.tmp 12) (.tmp 13), 5, none⟩, ⟨some 15, .call { callee := .value (.func 80), args := #[.tmp 14], argTypes := #[5] }, 4, none⟩, ⟨some 16, .unOp .not 4 (.tmp 15), 4, none⟩]) (.cond (.tmp 16) (.seq (.ops [⟨some 2, .assign (.const (.bool false)), 4, none⟩]) (.ret)) (.skip))))) (q_i_plainText_c0)
@[simp] theorem q_i_plainText_c1_run : type_of% (run_is q_i_plainText_c1.eq_1) := run_is q_i_plainText_c1.eq_1
def q_i_plainText_l0 : QCode := .seq (.ops [⟨some 10, .binOp .lss 3 (.tmp 9) (.tmp 8) 3, 4, none⟩]) (.seq (.cond (.tmp 10) (.skip) (.exit 0)) (q_i_plainText_c1))
@[simp] theorem q_i_plainText_l0_run : type_of% (run_is q_i_plainText_l0.eq_1) := run_is q_i_plainText_l0.eq_1
def q_i_plainText_c2 : QCode := .seq (.ops [⟨some 2, .assign (.const (.bool true)), 4, none⟩]) (.ret)
@[simp] theorem q_i_plainText_c2_run : type_of% (run_is q_i_plainText_c2.eq_1) := run_is q_i_plainText_c2.eq_1
def q_i_plainText_c3 : QCode := .seq (.seq (.ops [⟨some 7, .move (.tmp 0), 9, none⟩, ⟨some 8, .call { callee := .builtin .len, args := #[.tmp 7], argTypes := #[9] }, 3, none⟩, ⟨some 9, .move (.const (.int .i64 0)), 3, none⟩]) (.block 0 (.loop q_i_plainText_l0))) (q_i_plainText_c2)
@[simp] theorem q_i_plainText_c3_run : type_of% (run_is q_i_plainText_c3.eq_1) := run_is q_i_plainText_c3.eq_1
@[simp] def q_i_plainText : QFn := ⟨18, [(.tmp 2, 4)], .seq (.ops [⟨some 2, .assign (.const (.bool false)), 4, none⟩]) (.seq (.seq (.ops [⟨some 4, .move (.tmp 0), 9, none⟩, ⟨some 5, .call { callee := .builtin .len, args := #[.tmp 4], argTypes := #[9] }, 3, none⟩, ⟨some 6, .binOp .gtr 3 (.tmp 5) (.const (.int .i64 80)) 3, 4, none⟩]) (.cond (.tmp 6) (.seq (.ops [⟨some 2, .assign (.const (.bool false)), 4, none⟩]) (.ret)) (.skip))) (q_i_plainText_c3))⟩
theorem conv_i_plainText : convF Try.f74 = some q_i_plainText := by kernel_rfl
/-! 75 s_l1Rd_of -/
abbrev fn_s_l1Rd_of : FuncId := 75
@[simp] def q_s_l1Rd_of : QFn := ⟨12, [(.tmp 4, 9)], .seq (.ops [⟨some 4, .assign (.const (.string { data := #[] })), 9, none⟩]) (.seq (.ops [⟨some 5, .move (.tmp 1), 36, none⟩, ⟨some 6, .move (.tmp 0), 79, none⟩, ⟨some 7, .move (.tmp 1), 36, none⟩, ⟨some 8, .call { callee := .builtin .len, args := #[.tmp 7], argTypes := #[36] }, 3, none⟩, ⟨some 9, .call { callee := .value (.func 62), args := #[.tmp 6, .tmp 8], argTypes := #[79, 3] }, 3, none⟩, ⟨some 10, .indexAddr 36 (.tmp 5) (.tmp 9), 0, none⟩, ⟨some 11, .load 9 (.tmp 10), 9, none⟩, ⟨some 4, .assign (.tmp 11), 9, none⟩]) (.ret))⟩
theorem conv_s_l1Rd_of : convF Try.f75 = some q_s_l1Rd_of := by kernel_rfl
/-! 76 i_patcher_fit -/
abbrev fn_i_patcher_fit : FuncId := 76
def q_i_patcher_fit_c0 : QCode := .seq (.ops [⟨some 54, .move (.tmp 0), 95, none⟩, ⟨some 55, .move (.tmp 0), 95, none⟩, ⟨some 56, .nilCheck (.tmp 55), 0, none⟩, ⟨some 57, .fieldAddr 85 (.tmp 56) 0, 0, none⟩, ⟨some 58, .load 36 (.tmp 57), 36, none⟩, ⟨some 59, .move (.tmp 12), 3, none⟩, ⟨some 60, .move (.tmp 12), 3, none⟩, ⟨some 61, .move (.tmp 9), 36, none⟩, ⟨some 62, .call { callee := .builtin .len, args := #[.tmp 61], argTypes := #[36] }, 3, none⟩, ⟨some 63, .binOp .add 3 (.tmp 60) (.tmp 62) 3, 3, none⟩, ⟨some 64, .move (.tmp 10), 36, none⟩, ⟨some 65, .call { callee := .value (.func 85), args := #[.tmp 58, .tmp 59, .tmp 63, .tmp 64], argTypes := #[36, 3, 3, 36] }, 36, none⟩, ⟨some 66, .nilCheck (.tmp 54), 0, none⟩, ⟨some 67, .fieldAddr 85 (.tmp 66) 0, 0, none⟩, ⟨none, .store 36 (.tmp 67) (.tmp 65), 0, none⟩]) (.seq (.ops [⟨some 68, .move (.tmp 0), 95, none⟩, ⟨some 69, .move (.tmp 12), 3, none⟩, ⟨some 70, .move (.tmp 10), 36, none⟩, ⟨some 71, .call { callee := .builtin .len, args := #[.tmp 70], argTypes := #[36] }, 3, none⟩, ⟨some 72, .binOp .add 3 (.tmp 69) (.tmp 71) 3, 3, none⟩, ⟨some 73, .nilCheck (.tmp 68), 0, none⟩, ⟨some 74, .fieldAddr 85 (.tmp 73) 1, 0, none⟩, ⟨none, .store 3 (.tmp 74) (.tmp 72), 0, none⟩]) (.seq (.ops [⟨some 75, .move (.tmp 0), 95, none⟩, ⟨some 76, .nilCheck (.tmp 75), 0, none⟩, ⟨some 77, .fieldAddr 85 (.tmp 76) 2, 0, none⟩, ⟨some 78, .load 3 (.tmp 77), 3, none⟩, ⟨some 79, .move (.tmp 12), 3, none⟩, ⟨some 80, .move (.tmp 11), 3, none⟩, ⟨some 81, .binOp .sub 3 (.tmp 79) (.tmp 80) 3, 3, none⟩, ⟨some 82, .move (.tmp 10), 36, none⟩, ⟨some 83, .call { callee := .builtin .len, args := #[.tmp 82], argTypes := #[36] }, 3, none⟩, ⟨some 84, .binOp .add 3 (.tmp 81) (.tmp 83) 3, 3, none⟩, ⟨some 85, .move (.tmp 9), 36, none⟩, ⟨some 86, .call { callee := .builtin .len, args := #[.tmp 85], argTypes := #[36] }, 3, none⟩, ⟨some 87, .binOp .sub 3 (.tmp 84) (.tmp 86) 3, 3, none⟩, ⟨some 88, .binOp .add 3 (.tmp 78) (.tmp 87) 3, 3, none⟩, ⟨some 89, .nilCheck (.tmp 75), 0, none⟩, ⟨some 90, .fieldAddr 85 (.tmp 89) 2, 0, none⟩, ⟨none, .store 3 (.tmp 90) (.tmp 88), 0, none⟩]) (.seq (.ops [⟨some 91, .move (.tmp 0), 95, none⟩, ⟨some 92, .move (.tmp 0), 95, none⟩, ⟨some 93, .nilCheck (.tmp 92), 0, none⟩, ⟨some 94, .fieldAddr 85 (.tmp 93) 3, 0, none⟩, ⟨some 95, .load 47 (.tmp 94), 47, none⟩, ⟨some 96, .move (.tmp 12), 3, none⟩, ⟨some 97, .move (.tmp 11), 3, none⟩, ⟨some 98, .binOp .sub 3 (.tmp 96) (.tmp 97) 3, 3, none⟩, ⟨some 99, .buildSlice 47 1 #[(0, .tmp 98)], 47, none⟩, ⟨some 100, .call { callee := .builtin .append, args := #[.tmp 95, .tmp 99], argTypes := #[47, 47] }, 47, none⟩, ⟨some 101, .nilCheck (.tmp 91), 0, none⟩, ⟨some 102, .fieldAddr 85 (.tmp 101) 3, 0, none⟩, ⟨none, .store 47 (.tmp 102) (.tmp 100), 0, none⟩]) (.seq (.ops [⟨some 6, .assign (.const (.bool true)), 4, none⟩]) (.ret)))))
@[simp] theorem q_i_patcher_fit_c0_run : type_of% (run_is q_i_patcher_fit_c0.eq_1) := run_is q_i_patcher_fit_c0.eq_1
@[simp] def q_i_patcher_fit : QFn := ⟨103, [(.tmp 6, 4)], .seq (.ops [⟨some 4, .box 46 (.tmp 1), 0, none⟩, ⟨some 6, .assign (.const (.bool false)), 4, none⟩]) (.seq (.ops [⟨some 14, .fieldAddr 46 (.tmp 4) 1, 0, none⟩, ⟨some 15, .load 36 (.tmp 14), 36, none⟩, ⟨some 16, .move (.tmp 2), 3, none⟩, ⟨some 17, .call { callee := .value (.func 82), args := #[.tmp 15, .tmp 16], argTypes := #[36, 3] }, 3, none⟩, ⟨some 7, .assign (.tmp 17), 3, none⟩]) (.seq (.ops [⟨some 18, .fieldAddr 46 (.tmp 4) 1, 0, none⟩, ⟨some 19, .load 36 (.tmp 18), 36, none⟩, ⟨some 20, .move (.tmp 7), 3, none⟩, ⟨some 21, .slice 36 (.tmp 19) (some (.tmp 20)) none none, 36, none⟩, ⟨some 8, .assign (.tmp 21), 36, none⟩]) (.seq (.ops [⟨some 22, .move (.tmp 8), 36, none⟩, ⟨some 23, .move (.tmp 8), 36, none⟩, ⟨some 24, .call { callee := .builtin .len, args := #[.tmp 23], argTypes := #[36] }, 3, none⟩, ⟨some 25, .move (.tmp 8), 36, none⟩, ⟨some 26, .move (.tmp 2), 3, none⟩, ⟨some 27, .call { callee := .value (.func 83), args := #[.tmp 25, .tmp 26], argTypes := #[36, 3] }, 3, none⟩, ⟨some 28, .binOp .sub 3 (.tmp 24) (.tmp 27) 3, 3, none⟩, ⟨some 29, .slice 36 (.tmp 22) none (some (.tmp 28)) none, 36, none⟩, ⟨some 8, .assign (.tmp 29), 36, none⟩]) (.seq (.ops [⟨some 31, .move (.tmp 8), 36, none⟩, ⟨some 32, .call { callee := .value (.func 52), args := #[.tmp 31], argTypes := #[36] }, 43, none⟩, ⟨some 30, .move (.tmp 32), 43, none⟩, ⟨some 33, .extract (.tmp 30) 0, 36, none⟩, ⟨some 34, .extract (.tmp 30) 1, 36, none⟩, ⟨some 9, .assign (.tmp 33), 36, none⟩, ⟨some 10, .assign (.tmp 34), 36, none⟩]) (.seq (.draw [⟨some 35, .fieldAddr 46 (.tmp 4) 0, 0, none⟩, ⟨some 36, .load 3 (.tmp 35), 3, none⟩, ⟨some 37, .binOp .sub 3 (.tmp 36) (.const (.int .i64 1)) 3, 3, none⟩, ⟨some 38, .move (.tmp 7), 3, none⟩, ⟨some 39, .binOp .add 3 (.tmp 37) (.tmp 38) 3, 3, none⟩, ⟨some 40, .move (.tmp 0), 95, none⟩, ⟨some 41, .nilCheck (.tmp 40), 0, none⟩, ⟨some 42, .fieldAddr 85 (.tmp 41) 2, 0, none⟩, ⟨some 43, .load 3 (.tmp 42), 3, none⟩] [⟨some 44, .binOp .add 3 (.tmp 39) (.tmp 43) 3, 3, none⟩, ⟨some 11, .assign (.tmp 44), 3, none⟩]) (.seq (.ops [⟨some 46, .move (.tmp 0), 95, none⟩, ⟨some 47, .move (.tmp 9), 36, none⟩, ⟨some 48, .move (.tmp 11), 3, none⟩, ⟨some 49, .call { callee := .value (.func 84), args := #[.tmp 46, .tmp 47, .tmp 48], argTypes := #[95, 36, 3] }, 100, none⟩, ⟨some 45, .move (.tmp 49), 100, none⟩, ⟨some 50, .extract (.tmp 45) 0, 3, none⟩, ⟨some 51, .extract (.tmp 45) 1, 4, none⟩, ⟨some 12, .assign (.tmp 50), 3, none⟩, ⟨some 13, .assign (.tmp 51), 4, none⟩]) (.seq (.seq (.ops [⟨some 52, .move (.tmp 13), 4, none⟩, ⟨some 53, .unOp .not 4 (.tmp 52), 4, none⟩]) (.cond (.tmp 53) (.seq (.ops [⟨some 6, .assign (.const (.bool false)), 4, none⟩]) (.ret)) (.skip))) (q_i_patcher_fit_c0))))))))⟩
theorem conv_i_patcher_fit : convF Try.f76 = some q_i_patcher_fit := by kernel_rfl
/-! 77 s_l5Trim -/
abbrev fn_s_l5Trim : FuncId := 77
def q_s_l5Trim_c0 : QCode := .block 1 (.seq (.ops [⟨some 26, .move (.tmp 6), 36, none⟩, ⟨some 27, .slice 36 (.tmp 26) (some (.const (.int .i64 1))) none none, 36, none⟩, ⟨some 6, .assign (.tmp 27), 36, none⟩]) (.ops [⟨some 28, .move (.tmp 7), 3, none⟩, ⟨some 29, .binOp .add 3 (.tmp 28) (.const (.int .i64 1)) 3, 3, none⟩, ⟨some 7, .assign (.tmp 29), 3, none⟩]))
@[simp] theorem q_s_l5Trim_c0_run : type_of% (run_is q_s_l5Trim_c0.eq_1) := run_is q_s_l5Trim_c0.eq_1
def q_s_l5Trim_l0 : QCode := .seq (.seq (.ops [⟨some 11, .move (.tmp 7), 3, none⟩, ⟨some 12, .move (.tmp 1), 3, none⟩, ⟨some 13, .binOp .lss 3 (.tmp 11) (.tmp 12) 3, 4, none⟩, ⟨some 14, .move (.tmp 13), 4, none⟩, ⟨some 15, .move (.tmp 6), 36, some (14, true)⟩, ⟨some 16, .call { callee := .builtin .len, args := #[.tmp 15], argTypes := #[36] }, 3, some (14, true)⟩, ⟨some 17, .binOp .gtr 3 (.tmp 16) (.const (.int .i64 0)) 3, 4, some (14, true)⟩, ⟨some 18, .pick (.tmp 14) (.tmp 17) (.const (.bool false)), 4, none⟩, ⟨some 19, .move (.tmp 18), 4, none⟩, ⟨some 20, .move (.tmp 6), 36, some (19, true)⟩, ⟨some 21, .indexAddr 36 (.tmp 20) (.const (.int .i64 0)), 0, some (19, true)⟩, ⟨some 22, .load 9 (.tmp 21), 9, some (19, true)⟩, ⟨some 23, .index 9 (.tmp 22) (.const (.int .i64 0)), 5, some (19, true)⟩, ⟨some 24, .binOp .eql 5 (.tmp 23) (.const (.int .u8 32)) 5, 4, some (19, true)⟩, ⟨some 25, .pick (.tmp 19) (.tmp 24) (.const (.bool false)), 4, none⟩]) (.cond (.tmp 25) (.skip) (.exit 0))) (q_s_l5Trim_c0)
@[simp] theorem q_s_l5Trim_l0_run : type_of% (run_is q_s_l5Trim_l0.eq_1) := run_is q_s_l5Trim_l0.eq_1
def q_s_l5Trim_c1 : QCode := .ops [⟨some 48, .move (.tmp 8), 3, none⟩, ⟨some 49, .binOp .add 3 (.tmp 48) (.const (.int .i64 1)) 3, 3, none⟩, ⟨some 8, .assign (.tmp 49), 3, none⟩]
@[simp] theorem q_s_l5Trim_c1_run : type_of% (run_is q_s_l5Trim_c1.eq_1) := run_is q_s_l5Trim_c1.eq_1
def q_s_l5Trim_c2 : QCode := .seq (.block 3 (.ops [⟨some 50, .move (.tmp 6), 36, none⟩, ⟨some 51, .move (.tmp 6), 36, none⟩, ⟨some 52, .call { callee := .builtin .len, args := #[.tmp 51], argTypes := #[36] }, 3, none⟩, ⟨some 53, .binOp .sub 3 (.tmp 52) (.const (.int .i64 1)) 3, 3, none⟩, ⟨some 54, .slice 36 (.tmp 50) none (some (.tmp 53)) none, 36, none⟩, ⟨some 6, .assign (.tmp 54), 36, none⟩])) (q_s_l5Trim_c1)
@[simp] theorem q_s_l5Trim_c2_run : type_of% (run_is q_s_l5Trim_c2.eq_1) := run_is q_s_l5Trim_c2.eq_1
def q_s_l5Trim_l1 : QCode := .seq (.seq (.ops [⟨some 30, .move (.tmp 8), 3, none⟩, ⟨some 31, .move (.tmp 1), 3, none⟩, ⟨some 32, .binOp .lss 3 (.tmp 30) (.tmp 31) 3, 4, none⟩, ⟨some 33, .move (.tmp 32), 4, none⟩, ⟨some 34, .move (.tmp 6), 36, some (33, true)⟩, ⟨some 35, .call { callee := .builtin .len, args := #[.tmp 34], argTypes := #[36] }, 3, some (33, true)⟩, ⟨some 36, .binOp .gtr 3 (.tmp 35) (.const (.int .i64 0)) 3, 4, some (33, true)⟩, ⟨some 37, .pick (.tmp 33) (.tmp 36) (.const (.bool false)), 4, none⟩, ⟨some 38, .move (.tmp 37), 4, none⟩, ⟨some 39, .move (.tmp 6), 36, some (38, true)⟩, ⟨some 40, .move (.tmp 6), 36, some (38, true)⟩, ⟨some 41, .call { callee := .builtin .len, args := #[.tmp 40], argTypes := #[36] }, 3, some (38, true)⟩, ⟨some 42, .binOp .sub 3 (.tmp 41) (.const (.int .i64 1)) 3, 3, some (38, true)⟩, ⟨some 43, .indexAddr 36 (.tmp 39) (.tmp 42), 0, some (38, true)⟩, ⟨some 44, .load 9 (.tmp 43), 9, some (38, true)⟩, ⟨some 45, .index 9 (.tmp 44) (.const (.int .i64 0)), 5, some (38, true)⟩, ⟨some 46, .binOp .eql 5 (.tmp 45) (.const (.int .u8 32)) 5, 4, some (38, true)⟩, ⟨some 47, .pick (.tmp 38) (.tmp 46) (.const (.bool false)), 4, none⟩]) (.cond (.tmp 47) (.skip) (.exit 2))) (q_s_l5Trim_c2)
@[simp] theorem q_s_l5Trim_l1_run : type_of% (run_is q_s_l5Trim_l1.eq_1) := run_is q_s_l5Trim_l1.eq_1
def q_s_l5Trim_c3 : QCode := .seq (.ops [⟨some 55, .fieldAddr 46 (.tmp 2) 0, 0, none⟩, ⟨some 56, .load 3 (.tmp 55), 3, none⟩, ⟨some 57, .move (.tmp 7), 3, none⟩, ⟨some 58, .binOp .add 3 (.tmp 56) (.tmp 57) 3, 3, none⟩, ⟨some 59, .move (.tmp 6), 36, none⟩, ⟨some 60, .build 46 #[(0, .tmp 58), (1, .tmp 59)], 46, none⟩, ⟨some 61, .move (.tmp 7), 3, none⟩, ⟨none, .store 46 (.tmp 4) (.tmp 60), 0, none⟩, ⟨some 5, .assign (.tmp 61), 3, none⟩]) (.ret)
@[simp] theorem q_s_l5Trim_c3_run : type_of% (run_is q_s_l5Trim_c3.eq_1) := run_is q_s_l5Trim_c3.eq_1
def q_s_l5Trim_c4 : QCode := .seq (.seq (.ops [⟨some 8, .assign (.const (.int .i64 0)), 3, none⟩]) (.block 2 (.loop q_s_l5Trim_l1))) (q_s_l5Trim_c3)
@[simp] theorem q_s_l5Trim_c4_run : type_of% (run_is q_s_l5Trim_c4.eq_1) := run_is q_s_l5Trim_c4.eq_1
@[simp] def q_s_l5Trim : QFn := ⟨62, [(.cell 4 46, 46), (.tmp 5, 3)], .seq (.ops [⟨some 2, .box 46 (.tmp 0), 0, none⟩, ⟨some 4, .alloc 46, 0, none⟩, ⟨some 5, .assign (.const (.int .i64 0)), 3, none⟩]) (.seq (.ops [⟨some 9, .fieldAddr 46 (.tmp 2) 1, 0, none⟩, ⟨some 10, .load 36 (.tmp 9), 36, none⟩, ⟨some 6, .assign (.tmp 10), 36, none⟩]) (.seq (.ops [⟨some 7, .assign (.const (.int .i64 0)), 3, none⟩]) (.seq (.block 0 (.loop q_s_l5Trim_l0)) (q_s_l5Trim_c4))))⟩
theorem conv_s_l5Trim : convF Try.f77 = some q_s_l5Trim := by kernel_rfl
/-! 78 s_l5Find -/
abbrev fn_s_l5Find : FuncId := 78
def q_s_l5Find_c0 : QCode := .seq (.ops [⟨some 30, .move (.tmp 2), 3, none⟩, ⟨some 31, .move (.tmp 9), 3, none⟩, ⟨some 32, .binOp .add 3 (.tmp 30) (.tmp 31) 3, 3, none⟩, ⟨some 33, .move (.tmp 3), 3, none⟩, ⟨some 34, .binOp .geq 3 (.tmp 32) (.tmp 33) 3, 4, none⟩, ⟨some 35, .move (.tmp 34), 4, none⟩, ⟨some 36, .move (.tmp 0), 36, some (35, true)⟩, ⟨some 37, .move (.tmp 2), 3, some (35, true)⟩, ⟨some 38, .move (.tmp 9), 3, some (35, true)⟩, ⟨some 39, .binOp .add 3 (.tmp 37) (.tmp 38) 3, 3, some (35, true)⟩, ⟨some 40, .move (.tmp 1), 36, some (35, true)⟩, ⟨some 41, .call { callee := .value (.func 55), args := #[.tmp 36, .tmp 39, .tmp 40], argTypes := #[36, 3, 36] }, 4, some (35, true)⟩, ⟨some 42, .pick (.tmp 35) (.tmp 41) (.const (.bool false)), 4, none⟩]) (.cond (.tmp 42) (.seq (.ops [⟨some 43, .move (.tmp 2), 3, none⟩, ⟨some 44, .move (.tmp 9), 3, none⟩, ⟨some 45, .binOp .add 3 (.tmp 43) (.tmp 44) 3, 3, none⟩, ⟨some 8, .assign (.tmp 45), 3, none⟩]) (.ret)) (.skip))
@[simp] theorem q_s_l5Find_c0_run : type_of% (run_is q_s_l5Find_c0.eq_1) := run_is q_s_l5Find_c0.eq_1
def q_s_l5Find_c1 : QCode := .ops [⟨some 12, .move (.tmp 9), 3, none⟩, ⟨some 13, .binOp .add 3 (.tmp 12) (.const (.int .i64 1)) 3, 3, none⟩, ⟨some 9, .assign (.tmp 13), 3, none⟩]
@[simp] theorem q_s_l5Find_c1_run : type_of% (run_is q_s_l5Find_c1.eq_1) := run_is q_s_l5Find_c1.eq_1
def q_s_l5Find_c2 : QCode := .seq (.block 1 (.seq (.seq (.ops [⟨some 14, .move (.tmp 2), 3, none⟩, ⟨some 15, .move (.tmp 9), 3, none⟩, ⟨some 16, .binOp .sub 3 (.tmp 14) (.tmp 15) 3, 3, none⟩, ⟨some 17, .move (.tmp 3), 3, none⟩, ⟨some 18, .binOp .geq 3 (.tmp 16) (.tmp 17) 3, 4, none⟩, ⟨some 19, .move (.tmp 18), 4, none⟩, ⟨some 20, .move (.tmp 0), 36, some (19, true)⟩, ⟨some 21, .move (.tmp 2), 3, some (19, true)⟩, ⟨some 22, .move (.tmp 9), 3, some (19, true)⟩, ⟨some 23, .binOp .sub 3 (.tmp 21) (.tmp 22) 3, 3, some (19, true)⟩, ⟨some 24, .move (.tmp 1), 36, some (19, true)⟩, ⟨some 25, .call { callee := .value (.func 55), args := #[.tmp 20, .tmp 23, .tmp 24], argTypes := #[36, 3, 36] }, 4, some (19, true)⟩, ⟨some 26, .pick (.tmp 19) (.tmp 25) (.const (.bool false)), 4, none⟩]) (.cond (.tmp 26) (.seq (.ops [⟨some 27, .move (.tmp 2), 3, none⟩, ⟨some 28, .move (.tmp 9), 3, none⟩, ⟨some 29, .binOp .sub 3 (.tmp 27) (.tmp 28) 3, 3, none⟩, ⟨some 8, .assign (.tmp 29), 3, none⟩]) (.ret)) (.skip))) (q_s_l5Find_c0))) (q_s_l5Find_c1)
@[simp] theorem q_s_l5Find_c2_run : type_of% (run_is q_s_l5Find_c2.eq_1) := run_is q_s_l5Find_c2.eq_1
def q_s_l5Find_l0 : QCode := .seq (.seq (.ops [⟨some 10, .move (.tmp 9), 3, none⟩, ⟨some 11, .binOp .leq 3 (.tmp 10) (.const (.int .i64 8)) 3, 4, none⟩]) (.cond (.tmp 11) (.skip) (.exit 0))) (q_s_l5Find_c2)
@[simp] theorem q_s_l5Find_l0_run : type_of% (run_is q_s_l5Find_l0.eq_1) := run_is q_s_l5Find_l0.eq_1
def q_s_l5Find_c3 : QCode := .seq (.ops [⟨some 8, .assign (.const (.int .i64 (-1))), 3, none⟩]) (.ret)
@[simp] theorem q_s_l5Find_c3_run : type_of% (run_is q_s_l5Find_c3.eq_1) := run_is q_s_l5Find_c3.eq_1
@[simp] def q_s_l5Find : QFn := ⟨46, [(.tmp 8, 3)], .seq (.ops [⟨some 8, .assign (.const (.int .i64 0)), 3, none⟩]) (.seq (.seq (.ops [⟨some 9, .assign (.const (.int .i64 0)), 3, none⟩]) (.block 0 (.loop q_s_l5Find_l0))) (q_s_l5Find_c3))⟩
theorem conv_s_l5Find : convF Try.f78 = some q_s_l5Find := by kernel_rfl
/-! 80 i_plainByte -/
abbrev fn_i_plainByte : FuncId := 80
@[simp] def q_i_plainByte : QFn := ⟨9, [(.tmp 2, 4)], .seq (.ops [⟨some 2, .assign (.const (.bool false)), 4, none⟩]) (.seq (.ops [⟨some 3, .move (.tmp 0), 5, none⟩, ⟨some 4, .binOp .geq 5 (.tmp 3) (.const (.int .u8 32)) 5, 4, none⟩, ⟨some 5, .move (.tmp 4), 4, none⟩, ⟨some 6, .move (.tmp 0), 5, some (5, true)⟩, ⟨some 7, .binOp .leq 5 (.tmp 6) (.const (.int .u8 126)) 5, 4, some (5, true)⟩, ⟨some 8, .pick (.tmp 5) (.tmp 7) (.const (.bool false)), 4, none⟩, ⟨some 2, .assign (.tmp 8), 4, none⟩]) (.ret))⟩
theorem conv_i_plainByte : convF Try.f80 = some q_i_plainByte := by kernel_rfl
/-! 82 i_context -/
abbrev fn_i_context : FuncId := 82
def q_i_context_c0 : QCode := .block 1 (.ops [⟨some 20, .move (.tmp 5), 3, none⟩, ⟨some 21, .binOp .add 3 (.tmp 20) (.const (.int .i64 1)) 3, 3, none⟩, ⟨some 5, .assign (.tmp 21), 3, none⟩])
@[simp] theorem q_i_context_c0_run : type_of% (run_is q_i_context_c0.eq_1) := run_is q_i_context_c0.eq_1
def q_i_context_l0 : QCode := .seq (.seq (.ops [⟨some 6, .move (.tmp 5), 3, none⟩, ⟨some 7, .move (.tmp 1), 3, none⟩, ⟨some 8, .move (.tmp 0), 36, none⟩, ⟨some 9, .call { callee := .builtin .len, args := #[.tmp 8], argTypes := #[36] }, 3, none⟩, ⟨some 10, .call { callee := .builtin .min, args := #[.tmp 7, .tmp 9], argTypes := #[3, 3] }, 3, none⟩, ⟨some 11, .binOp .lss 3 (.tmp 6) (.tmp 10) 3, 4, none⟩, ⟨some 12, .move (.tmp 11), 4, none⟩, ⟨some 13, .move (.tmp 0), 36, some (12, true)⟩, ⟨some 14, .move (.tmp 5), 3, some (12, true)⟩, ⟨some 15, .indexAddr 36 (.tmp 13) (.tmp 14), 0, some (12, true)⟩, ⟨some 16, .load 9 (.tmp 15), 9, some (12, true)⟩, ⟨some 17, .index 9 (.tmp 16) (.const (.int .i64 0)), 5, some (12, true)⟩, ⟨some 18, .binOp .eql 5 (.tmp 17) (.const (.int .u8 32)) 5, 4, some (12, true)⟩, ⟨some 19, .pick (.tmp 12) (.tmp 18) (.const (.bool false)), 4, none⟩]) (.cond (.tmp 19) (.skip) (.exit 0))) (q_i_context_c0)
@[simp] theorem q_i_context_l0_run : type_of% (run_is q_i_context_l0.eq_1) := run_is q_i_context_l0.eq_1
def q_i_context_c1 : QCode := .seq (.ops [⟨some 22, .move (.tmp 5), 3, none⟩, ⟨some 4, .assign (.tmp 22), 3, none⟩]) (.ret)
@[simp] theorem q_i_context_c1_run : type_of% (run_is q_i_context_c1.eq_1) := run_is q_i_context_c1.eq_1
@[simp] def q_i_context : QFn := ⟨23, [(.tmp 4, 3)], .seq (.ops [⟨some 4, .assign (.const (.int .i64 0)), 3, none⟩]) (.seq (.ops [⟨some 5, .assign (.const (.int .i64 0)), 3, none⟩]) (.seq (.block 0 (.loop q_i_context_l0)) (q_i_context_c1)))⟩
theorem conv_i_context : convF Try.f82 = some q_i_context := by kernel_rfl
/-! 83 i_contextBehind -/
abbrev fn_i_contextBehind : FuncId := 83
def q_i_contextBehind_c0 : QCode := .block 1 (.ops [⟨some 24, .move (.tmp 5), 3, none⟩, ⟨some 25, .binOp .add 3 (.tmp 24) (.const (.int .i64 1)) 3, 3, none⟩, ⟨some 5, .assign (.tmp 25), 3, none⟩])
@[simp] theorem q_i_contextBehind_c0_run : type_of% (run_is q_i_contextBehind_c0.eq_1) := run_is q_i_contextBehind_c0.eq_1
def q_i_contextBehind_l0 : QCode := .seq (.seq (.ops [⟨some 6, .move (.tmp 5), 3, none⟩, ⟨some 7, .move (.tmp 1), 3, none⟩, ⟨some 8, .move (.tmp 0), 36, none⟩, ⟨some 9, .call { callee := .builtin .len, args := #[.tmp 8], argTypes := #[36] }, 3, none⟩, ⟨some 10, .call { callee := .builtin .min, args := #[.tmp 7, .tmp 9], argTypes := #[3, 3] }, 3, none⟩, ⟨some 11, .binOp .lss 3 (.tmp 6) (.tmp 10) 3, 4, none⟩, ⟨some 12, .move (.tmp 11), 4, none⟩, ⟨some 13, .move (.tmp 0), 36, some (12, true)⟩, ⟨some 14, .move (.tmp 0), 36, some (12, true)⟩, ⟨some 15, .call { callee := .builtin .len, args := #[.tmp 14], argTypes := #[36] }, 3, some (12, true)⟩, ⟨some 16, .binOp .sub 3 (.tmp 15) (.const (.int .i64 1)) 3, 3, some (12, true)⟩, ⟨some 17, .move (.tmp 5), 3, some (12, true)⟩, ⟨some 18, .binOp .sub 3 (.tmp 16) (.tmp 17) 3, 3, some (12, true)⟩, ⟨some 19, .indexAddr 36 (.tmp 13) (.tmp 18), 0, some (12, true)⟩, ⟨some 20, .load 9 (.tmp 19), 9, some (12, true)⟩, ⟨some 21, .index 9 (.tmp 20) (.const (.int .i64 0)), 5, some (12, true)⟩, ⟨some 22, .binOp .eql 5 (.tmp 21) (.const (.int .u8 32)) 5, 4, some (12, true)⟩, ⟨some 23, .pick (.tmp 12) (.tmp 22) (.const (.bool false)), 4, none⟩]) (.cond (.tmp 23) (.skip) (.exit 0))) (q_i_contextBehind_c0)
@[simp] theorem q_i_contextBehind_l0_run : type_of% (run_is q_i_contextBehind_l0.eq_1) := run_is q_i_contextBehind_l0.eq_1
def q_i_contextBehind_c1 : QCode := .seq (.ops [⟨some 26, .move (.tmp 5), 3, none⟩, ⟨some 4, .assign (.tmp 26), 3, none⟩]) (.ret)
@[simp] theorem q_i_contextBehind_c1_run : type_of% (run_is q_i_contextBehind_c1.eq_1) := run_is q_i_contextBehind_c1.eq_1
@[simp] def q_i_contextBehind : QFn := ⟨27, [(.tmp 4, 3)], .seq (.ops [⟨some 4, .assign (.const (.int .i64 0)), 3, none⟩]) (.seq (.ops [⟨some 5, .assign (.const (.int .i64 0)), 3, none⟩]) (.seq (.block 0 (.loop q_i_contextBehind_l0)) (q_i_contextBehind_c1)))⟩
theorem conv_i_contextBehind : convF Try.f83 = some q_i_contextBehind := by kernel_rfl
/-! 84 i_patcher_find -/
abbrev fn_i_patcher_find : FuncId := 84
def q_i_patcher_find_c0 : QCode := .ops [⟨some 29, .binOp .add 3 (.tmp 21) (.const (.int .i64 1)) 3, 3, none⟩, ⟨some 21, .move (.tmp 29), 3, none⟩]
@[simp] theorem q_i_patcher_find_c0_run : type_of% (run_is q_i_patcher_find_c0.eq_1) := run_is q_i_patcher_find_c0.eq_1
def q_i_patcher_find_c1 : QCode := .seq (.block 3 (.seq (.ops [⟨some 23, .index 103 (.tmp 20) (.tmp 21), 3, none⟩, ⟨some 10, .assign (.tmp 23), 3, none⟩]) (.seq (.ops [⟨some 24, .move (.tmp 0), 95, none⟩, ⟨some 25, .move (.tmp 1), 36, none⟩, ⟨some 26, .move (.tmp 10), 3, none⟩, ⟨some 27, .call { callee := .value (.func 87), args := #[.tmp 24, .tmp 25, .tmp 26], argTypes := #[95, 36, 3] }, 4, none⟩]) (.cond (.tmp 27) (.seq (.ops [⟨some 28, .move (.tmp 10), 3, none⟩, ⟨some 6, .assign (.tmp 28), 3, none⟩, ⟨some 7, .assign (.const (.bool true)), 4, none⟩]) (.ret)) (.skip))))) (q_i_patcher_find_c0)
@[simp] theorem q_i_patcher_find_c1_run : type_of% (run_is q_i_patcher_find_c1.eq_1) := run_is q_i_patcher_find_c1.eq_1
def q_i_patcher_find_l0 : QCode := .seq (.ops [⟨some 22, .binOp .lss 3 (.tmp 21) (.const (.int .i64 2)) 3, 0, none⟩]) (.seq (.cond (.tmp 22) (.skip) (.exit 2)) (q_i_patcher_find_c1))
@[simp] theorem q_i_patcher_find_l0_run : type_of% (run_is q_i_patcher_find_l0.eq_1) := run_is q_i_patcher_find_l0.eq_1
def q_i_patcher_find_c2 : QCode := .ops [⟨some 30, .binOp .add 3 (.tmp 11) (.const (.int .i64 1)) 3, 3, none⟩, ⟨some 11, .move (.tmp 30), 3, none⟩]
@[simp] theorem q_i_patcher_find_c2_run : type_of% (run_is q_i_patcher_find_c2.eq_1) := run_is q_i_patcher_find_c2.eq_1
def q_i_patcher_find_c3 : QCode := .seq (.block 1 (.seq (.ops [⟨some 13, .move (.tmp 11), 3, none⟩, ⟨some 8, .assign (.tmp 13), 3, none⟩]) (.seq (.ops [⟨some 14, .move (.tmp 2), 3, none⟩, ⟨some 15, .move (.tmp 8), 3, none⟩, ⟨some 16, .binOp .sub 3 (.tmp 14) (.tmp 15) 3, 3, none⟩, ⟨some 17, .move (.tmp 2), 3, none⟩, ⟨some 18, .move (.tmp 8), 3, none⟩, ⟨some 19, .binOp .add 3 (.tmp 17) (.tmp 18) 3, 3, none⟩, ⟨some 20, .build 103 #[(0, .tmp 16), (1, .tmp 19)], 103, none⟩, ⟨some 21, .move (.const (.int .i64 0)), 3, none⟩]) (.block 2 (.loop q_i_patcher_find_l0))))) (q_i_patcher_find_c2)
@[simp] theorem q_i_patcher_find_c3_run : type_of% (run_is q_i_patcher_find_c3.eq_1) := run_is q_i_patcher_find_c3.eq_1
def q_i_patcher_find_l1 : QCode := .seq (.ops [⟨some 12, .binOp .lss 3 (.tmp 11) (.const (.int .i64 9)) 3, 4, none⟩]) (.seq (.cond (.tmp 12) (.skip) (.exit 0)) (q_i_patcher_find_c3))
@[simp] theorem q_i_patcher_find_l1_run : type_of% (run_is q_i_patcher_find_l1.eq_1) := run_is q_i_patcher_find_l1.eq_1
def q_i_patcher_find_c4 : QCode := .seq (.ops [⟨some 6, .assign (.const (.int .i64 0)), 3, none⟩, ⟨some 7, .assign (.const (.bool false)), 4, none⟩]) (.ret)
@[simp] theorem q_i_patcher_find_c4_run : type_of% (run_is q_i_patcher_find_c4.eq_1) := run_is q_i_patcher_find_c4.eq_1
@[simp] def q_i_patcher_find : QFn := ⟨31, [(.tmp 6, 3), (.tmp 7, 4)], .seq (.ops [⟨some 6, .assign (.const (.int .i64 0)), 3, none⟩, ⟨some 7, .assign (.const (.bool false)), 4, none⟩]) (.seq (.seq (.ops [⟨some 11, .move (.const (.int .i64 0)), 3, none⟩]) (.block 0 (.loop q_i_patcher_find_l1))) (q_i_patcher_find_c4))⟩
theorem conv_i_patcher_find : convF Try.f84 = some q_i_patcher_find := by kernel_rfl
abbrev fn_slices_Replace_L_string_string : FuncId := 85
/-! 87 i_patcher_occurs -/
abbrev fn_i_patcher_occurs : FuncId := 87
@[simp] def q_i_patcher_occurs : QFn := ⟨39, [(.tmp 6, 4)], .seq (.ops [⟨some 6, .assign (.const (.bool false)), 4, none⟩]) (.seq (.ops [⟨some 7, .move (.tmp 2), 3, none⟩, ⟨some 8, .move (.tmp 0), 95, none⟩, ⟨some 9, .nilCheck (.tmp 8), 0, none⟩, ⟨some 10, .fieldAddr 85 (.tmp 9) 1, 0, none⟩, ⟨some 11, .load 3 (.tmp 10), 3, none⟩, ⟨some 12, .binOp .geq 3 (.tmp 7) (.tmp 11) 3, 4, none⟩, ⟨some 13, .move (.tmp 12), 4, none⟩, ⟨some 14, .move (.tmp 2), 3, some (13, true)⟩, ⟨some 15, .move (.tmp 1), 36, some (13, true)⟩, ⟨some 16, .call { callee := .builtin .len, args := #[.tmp 15], argTypes := #[36] }, 3, some (13, true)⟩, ⟨some 17, .binOp .add 3 (.tmp 14) (.tmp 16) 3, 3, some (13, true)⟩, ⟨some 18, .move (.tmp 0), 95, some (13, true)⟩, ⟨some 19, .nilCheck (.tmp 18), 0, some (13, true)⟩, ⟨some 20, .fieldAddr 85 (.tmp 19) 0, 0, some (13, true)⟩, ⟨some 21, .load 36 (.tmp 20), 36, some (13, true)⟩, ⟨some 22, .call { callee := .builtin .len, args := #[.tmp 21], argTypes := #[36] }, 3, some (13, true)⟩, ⟨some 23, .binOp .leq 3 (.tmp 17) (.tmp 22) 3, 4, some (13, true)⟩, ⟨some 24, .pick (.tmp 13) (.tmp 23) (.const (.bool false)), 4, none⟩, ⟨some 25, .move (.tmp 24), 4, none⟩, ⟨some 26, .move (.tmp 0), 95, some (25, true)⟩, ⟨some 27, .nilCheck (.tmp 26), 0, some (25, true)⟩, ⟨some 28, .fieldAddr 85 (.tmp 27) 0, 0, some (25, true)⟩, ⟨some 29, .load 36 (.tmp 28), 36, some (25, true)⟩, ⟨some 30, .move (.tmp 2), 3, some (25, true)⟩, ⟨some 31, .move (.tmp 2), 3, some (25, true)⟩, ⟨some 32, .move (.tmp 1), 36, some (25, true)⟩, ⟨some 33, .call { callee := .builtin .len, args := #[.tmp 32], argTypes := #[36] }, 3, some (25, true)⟩, ⟨some 34, .binOp .add 3 (.tmp 31) (.tmp 33) 3, 3, some (25, true)⟩, ⟨some 35, .slice 36 (.tmp 29) (some (.tmp 30)) (some (.tmp 34)) none, 36, some (25, true)⟩, ⟨some 36, .move (.tmp 1), 36, some (25, true)⟩, ⟨some 37, .call { callee := .value (.func 57), args := #[.tmp 35, .tmp 36], argTypes := #[36, 36] }, 4, some (25, true)⟩, ⟨some 38, .pick (.tmp 25) (.tmp 37) (.const (.bool false)), 4, none⟩, ⟨some 6, .assign (.tmp 38), 4, none⟩]) (.ret))⟩
theorem conv_i_patcher_occurs : convF Try.f87 = some q_i_patcher_occurs := by kernel_rfl
end Go.Qz
