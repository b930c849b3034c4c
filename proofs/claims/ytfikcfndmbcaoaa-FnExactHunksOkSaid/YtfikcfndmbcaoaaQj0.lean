/- The evaluator of the claim and what it says, part Qj0 (several texts in one). -/
import Derived.Test.YtfikcfndmbcaoaaProg
import Derived.Test.YtfikcfndmbcaoaaQh0
import Derived.KernelRfl
/- The types of the program, as the evaluator asks of them (printed by a program of ours). -/
namespace Go.Qz
open Go.Proofs

@[simp] theorem ty_size2 : sizeT Try.prog 2 = some 1 := by kernel_rfl
@[simp] theorem ty_agg2 : isAggT Try.prog 2 = false := by kernel_rfl
@[simp] theorem ty_zero2 : zeroA Try.prog 2 = some [.ro (.int .i64 0)] := by kernel_rfl
@[simp] theorem ty_size3 : sizeT Try.prog 3 = some 1 := by kernel_rfl
@[simp] theorem ty_agg3 : isAggT Try.prog 3 = false := by kernel_rfl
@[simp] theorem ty_zero3 : zeroA Try.prog 3 = some [.ro (.int .i64 0)] := by kernel_rfl
@[simp] theorem ty_size4 : sizeT Try.prog 4 = some 1 := by kernel_rfl
@[simp] theorem ty_agg4 : isAggT Try.prog 4 = false := by kernel_rfl
@[simp] theorem ty_zero4 : zeroA Try.prog 4 = some [.ro (.bool false)] := by kernel_rfl
@[simp] theorem ty_size5 : sizeT Try.prog 5 = some 1 := by kernel_rfl
@[simp] theorem ty_agg5 : isAggT Try.prog 5 = false := by kernel_rfl
@[simp] theorem ty_zero5 : zeroA Try.prog 5 = some [.ro (.int .u8 0)] := by kernel_rfl
@[simp] theorem ty_size6 : sizeT Try.prog 6 = some 1 := by kernel_rfl
@[simp] theorem ty_agg6 : isAggT Try.prog 6 = false := by kernel_rfl
@[simp] theorem ty_zero6 : zeroA Try.prog 6 = some [.ro (.int .u8 0)] := by kernel_rfl
@[simp] theorem ty_size7 : sizeT Try.prog 7 = some 4 := by kernel_rfl
@[simp] theorem ty_agg7 : isAggT Try.prog 7 = true := by kernel_rfl
@[simp] theorem ty_f7_0 : fieldAt Try.prog 7 0 = some (0, 2) := by kernel_rfl
@[simp] theorem ty_f7_1 : fieldAt Try.prog 7 1 = some (1, 3) := by kernel_rfl
@[simp] theorem ty_f7_2 : fieldAt Try.prog 7 2 = some (2, 4) := by kernel_rfl
@[simp] theorem ty_f7_3 : fieldAt Try.prog 7 3 = some (3, 6) := by kernel_rfl
@[simp] theorem ty_pl7 : placesOk Try.prog 7 = true := by kernel_rfl
@[simp] theorem ty_zero7 : zeroA Try.prog 7 = some [.ro (.int .i64 0), .ro (.int .i64 0), .ro (.bool false), .ro (.int .u8 0)] := by kernel_rfl
@[simp] theorem ty_size8 : sizeT Try.prog 8 = some 4 := by kernel_rfl
@[simp] theorem ty_agg8 : isAggT Try.prog 8 = true := by kernel_rfl
@[simp] theorem ty_f8_0 : fieldAt Try.prog 8 0 = some (0, 2) := by kernel_rfl
@[simp] theorem ty_f8_1 : fieldAt Try.prog 8 1 = some (1, 3) := by kernel_rfl
@[simp] theorem ty_f8_2 : fieldAt Try.prog 8 2 = some (2, 4) := by kernel_rfl
@[simp] theorem ty_f8_3 : fieldAt Try.prog 8 3 = some (3, 6) := by kernel_rfl
@[simp] theorem ty_pl8 : placesOk Try.prog 8 = true := by kernel_rfl
@[simp] theorem ty_zero8 : zeroA Try.prog 8 = some [.ro (.int .i64 0), .ro (.int .i64 0), .ro (.bool false), .ro (.int .u8 0)] := by kernel_rfl
@[simp] theorem ty_size9 : sizeT Try.prog 9 = some 1 := by kernel_rfl
@[simp] theorem ty_agg9 : isAggT Try.prog 9 = false := by kernel_rfl
@[simp] theorem ty_zero9 : zeroA Try.prog 9 = some [.ro (.str ⟨#[]⟩)] := by kernel_rfl
@[simp] theorem ty_size10 : sizeT Try.prog 10 = some 1 := by kernel_rfl
@[simp] theorem ty_agg10 : isAggT Try.prog 10 = false := by kernel_rfl
@[simp] theorem ty_zero10 : zeroA Try.prog 10 = some [.ro (.str ⟨#[]⟩)] := by kernel_rfl
@[simp] theorem ty_size11 : sizeT Try.prog 11 = some 1 := by kernel_rfl
@[simp] theorem ty_agg11 : isAggT Try.prog 11 = false := by kernel_rfl
@[simp] theorem ty_zero11 : zeroA Try.prog 11 = some [.ro (.str ⟨#[]⟩)] := by kernel_rfl
@[simp] theorem ty_size12 : sizeT Try.prog 12 = some 1 := by kernel_rfl
@[simp] theorem ty_agg12 : isAggT Try.prog 12 = false := by kernel_rfl
@[simp] theorem ty_zero12 : zeroA Try.prog 12 = some [.ro (.int .u64 0)] := by kernel_rfl
@[simp] theorem ty_size13 : sizeT Try.prog 13 = some 2 := by kernel_rfl
@[simp] theorem ty_agg13 : isAggT Try.prog 13 = true := by kernel_rfl
@[simp] theorem ty_f13_0 : fieldAt Try.prog 13 0 = some (0, 9) := by kernel_rfl
@[simp] theorem ty_f13_1 : fieldAt Try.prog 13 1 = some (1, 12) := by kernel_rfl
@[simp] theorem ty_pl13 : placesOk Try.prog 13 = true := by kernel_rfl
@[simp] theorem ty_zero13 : zeroA Try.prog 13 = some [.ro (.str ⟨#[]⟩), .ro (.int .u64 0)] := by kernel_rfl
@[simp] theorem ty_size14 : sizeT Try.prog 14 = some 2 := by kernel_rfl
@[simp] theorem ty_agg14 : isAggT Try.prog 14 = true := by kernel_rfl
@[simp] theorem ty_f14_0 : fieldAt Try.prog 14 0 = some (0, 9) := by kernel_rfl
@[simp] theorem ty_f14_1 : fieldAt Try.prog 14 1 = some (1, 12) := by kernel_rfl
@[simp] theorem ty_pl14 : placesOk Try.prog 14 = true := by kernel_rfl
@[simp] theorem ty_zero14 : zeroA Try.prog 14 = some [.ro (.str ⟨#[]⟩), .ro (.int .u64 0)] := by kernel_rfl
@[simp] theorem ty_size15 : sizeT Try.prog 15 = some 1 := by kernel_rfl
@[simp] theorem ty_agg15 : isAggT Try.prog 15 = false := by kernel_rfl
@[simp] theorem ty_zero15 : zeroA Try.prog 15 = some [.ro (.nilp)] := by kernel_rfl
@[simp] theorem ty_size16 : sizeT Try.prog 16 = some 1 := by kernel_rfl
@[simp] theorem ty_agg16 : isAggT Try.prog 16 = false := by kernel_rfl
@[simp] theorem ty_zero16 : zeroA Try.prog 16 = some [.ro (.nilp)] := by kernel_rfl
@[simp] theorem ty_size17 : sizeT Try.prog 17 = some 1 := by kernel_rfl
@[simp] theorem ty_agg17 : isAggT Try.prog 17 = false := by kernel_rfl
@[simp] theorem ty_zero17 : zeroA Try.prog 17 = some [.ro (.nilp)] := by kernel_rfl
@[simp] theorem ty_size18 : sizeT Try.prog 18 = some 1 := by kernel_rfl
@[simp] theorem ty_agg18 : isAggT Try.prog 18 = true := by kernel_rfl
@[simp] theorem ty_f18_0 : fieldAt Try.prog 18 0 = some (0, 17) := by kernel_rfl
@[simp] theorem ty_pl18 : placesOk Try.prog 18 = true := by kernel_rfl
@[simp] theorem ty_zero18 : zeroA Try.prog 18 = some [.ro (.nilp)] := by kernel_rfl
@[simp] theorem ty_size19 : sizeT Try.prog 19 = some 1 := by kernel_rfl
@[simp] theorem ty_agg19 : isAggT Try.prog 19 = true := by kernel_rfl
@[simp] theorem ty_f19_0 : fieldAt Try.prog 19 0 = some (0, 17) := by kernel_rfl
@[simp] theorem ty_pl19 : placesOk Try.prog 19 = true := by kernel_rfl
@[simp] theorem ty_zero19 : zeroA Try.prog 19 = some [.ro (.nilp)] := by kernel_rfl
@[simp] theorem ty_size20 : sizeT Try.prog 20 = some 1 := by kernel_rfl
@[simp] theorem ty_agg20 : isAggT Try.prog 20 = false := by kernel_rfl
@[simp] theorem ty_zero20 : zeroA Try.prog 20 = some [.ro (.nili)] := by kernel_rfl
@[simp] theorem ty_size21 : sizeT Try.prog 21 = some 1 := by kernel_rfl
@[simp] theorem ty_agg21 : isAggT Try.prog 21 = false := by kernel_rfl
@[simp] theorem ty_zero21 : zeroA Try.prog 21 = some [.ro (.int .i32 0)] := by kernel_rfl
@[simp] theorem ty_size22 : sizeT Try.prog 22 = some 1 := by kernel_rfl
@[simp] theorem ty_agg22 : isAggT Try.prog 22 = false := by kernel_rfl
@[simp] theorem ty_z22 : zOf Try.prog 22 = some 2 := by kernel_rfl
@[simp] theorem ty_elem22 : elemT Try.prog 57 = some 2 := by kernel_rfl
@[simp] theorem ty_zd22 : zeroD Try.prog 57 = some (.agg [.str ⟨#[]⟩, .str ⟨#[]⟩]) := by kernel_rfl
@[simp] theorem ty_zero22 : zeroA Try.prog 22 = some [.own (.sl 2 [])] := by kernel_rfl
@[simp] theorem ty_size25 : sizeT Try.prog 25 = some 1 := by kernel_rfl
@[simp] theorem ty_agg25 : isAggT Try.prog 25 = false := by kernel_rfl
@[simp] theorem ty_z25 : zOf Try.prog 25 = some 2 := by kernel_rfl
@[simp] theorem ty_elem25 : elemT Try.prog 59 = some 2 := by kernel_rfl
@[simp] theorem ty_zd25 : zeroD Try.prog 59 = some (.agg [.str ⟨#[]⟩, .str ⟨#[]⟩]) := by kernel_rfl
@[simp] theorem ty_zero25 : zeroA Try.prog 25 = some [.own (.sl 2 [])] := by kernel_rfl
@[simp] theorem ty_size29 : sizeT Try.prog 29 = some 1 := by kernel_rfl
@[simp] theorem ty_agg29 : isAggT Try.prog 29 = false := by kernel_rfl
@[simp] theorem ty_z29 : zOf Try.prog 29 = some 2 := by kernel_rfl
@[simp] theorem ty_elem29 : elemT Try.prog 68 = some 2 := by kernel_rfl
@[simp] theorem ty_zd29 : zeroD Try.prog 68 = some (.agg [.int .i64 0, .sl 1 []]) := by kernel_rfl
@[simp] theorem ty_zero29 : zeroA Try.prog 29 = some [.own (.sl 2 [])] := by kernel_rfl
@[simp] theorem ty_size32 : sizeT Try.prog 32 = some 1 := by kernel_rfl
@[simp] theorem ty_agg32 : isAggT Try.prog 32 = false := by kernel_rfl
@[simp] theorem ty_z32 : zOf Try.prog 32 = some 2 := by kernel_rfl
@[simp] theorem ty_elem32 : elemT Try.prog 46 = some 2 := by kernel_rfl
@[simp] theorem ty_zd32 : zeroD Try.prog 46 = some (.agg [.int .i64 0, .sl 1 []]) := by kernel_rfl
@[simp] theorem ty_zero32 : zeroA Try.prog 32 = some [.own (.sl 2 [])] := by kernel_rfl
@[simp] theorem ty_size36 : sizeT Try.prog 36 = some 1 := by kernel_rfl
@[simp] theorem ty_agg36 : isAggT Try.prog 36 = false := by kernel_rfl
@[simp] theorem ty_z36 : zOf Try.prog 36 = some 1 := by kernel_rfl
@[simp] theorem ty_elem36 : elemT Try.prog 9 = some 1 := by kernel_rfl
@[simp] theorem ty_zd36 : zeroD Try.prog 9 = some (.str ⟨#[]⟩) := by kernel_rfl
@[simp] theorem ty_zero36 : zeroA Try.prog 36 = some [.own (.sl 1 [])] := by kernel_rfl
@[simp] theorem ty_size42 : sizeT Try.prog 42 = some 1 := by kernel_rfl
@[simp] theorem ty_agg42 : isAggT Try.prog 42 = false := by kernel_rfl
@[simp] theorem ty_z42 : zOf Try.prog 42 = some 1 := by kernel_rfl
@[simp] theorem ty_elem42 : elemT Try.prog 5 = some 1 := by kernel_rfl
@[simp] theorem ty_zd42 : zeroD Try.prog 5 = some (.int .u8 0) := by kernel_rfl
@[simp] theorem ty_zero42 : zeroA Try.prog 42 = some [.own (.sl 1 [])] := by kernel_rfl
@[simp] theorem ty_size45 : sizeT Try.prog 45 = some 2 := by kernel_rfl
@[simp] theorem ty_agg45 : isAggT Try.prog 45 = true := by kernel_rfl
@[simp] theorem ty_f45_0 : fieldAt Try.prog 45 0 = some (0, 3) := by kernel_rfl
@[simp] theorem ty_f45_1 : fieldAt Try.prog 45 1 = some (1, 36) := by kernel_rfl
@[simp] theorem ty_pl45 : placesOk Try.prog 45 = true := by kernel_rfl
@[simp] theorem ty_zero45 : zeroA Try.prog 45 = some [.ro (.int .i64 0), .own (.sl 1 [])] := by kernel_rfl
@[simp] theorem ty_size46 : sizeT Try.prog 46 = some 2 := by kernel_rfl
@[simp] theorem ty_agg46 : isAggT Try.prog 46 = true := by kernel_rfl
@[simp] theorem ty_f46_0 : fieldAt Try.prog 46 0 = some (0, 3) := by kernel_rfl
@[simp] theorem ty_f46_1 : fieldAt Try.prog 46 1 = some (1, 36) := by kernel_rfl
@[simp] theorem ty_pl46 : placesOk Try.prog 46 = true := by kernel_rfl
@[simp] theorem ty_zero46 : zeroA Try.prog 46 = some [.ro (.int .i64 0), .own (.sl 1 [])] := by kernel_rfl
@[simp] theorem ty_size47 : sizeT Try.prog 47 = some 1 := by kernel_rfl
@[simp] theorem ty_agg47 : isAggT Try.prog 47 = false := by kernel_rfl
@[simp] theorem ty_z47 : zOf Try.prog 47 = some 1 := by kernel_rfl
@[simp] theorem ty_elem47 : elemT Try.prog 3 = some 1 := by kernel_rfl
@[simp] theorem ty_zd47 : zeroD Try.prog 3 = some (.int .i64 0) := by kernel_rfl
@[simp] theorem ty_zero47 : zeroA Try.prog 47 = some [.own (.sl 1 [])] := by kernel_rfl
@[simp] theorem ty_size56 : sizeT Try.prog 56 = some 2 := by kernel_rfl
@[simp] theorem ty_agg56 : isAggT Try.prog 56 = true := by kernel_rfl
@[simp] theorem ty_f56_0 : fieldAt Try.prog 56 0 = some (0, 9) := by kernel_rfl
@[simp] theorem ty_f56_1 : fieldAt Try.prog 56 1 = some (1, 9) := by kernel_rfl
@[simp] theorem ty_pl56 : placesOk Try.prog 56 = true := by kernel_rfl
@[simp] theorem ty_zero56 : zeroA Try.prog 56 = some [.ro (.str ⟨#[]⟩), .ro (.str ⟨#[]⟩)] := by kernel_rfl
@[simp] theorem ty_size57 : sizeT Try.prog 57 = some 2 := by kernel_rfl
@[simp] theorem ty_agg57 : isAggT Try.prog 57 = true := by kernel_rfl
@[simp] theorem ty_f57_0 : fieldAt Try.prog 57 0 = some (0, 9) := by kernel_rfl
@[simp] theorem ty_f57_1 : fieldAt Try.prog 57 1 = some (1, 9) := by kernel_rfl
@[simp] theorem ty_pl57 : placesOk Try.prog 57 = true := by kernel_rfl
@[simp] theorem ty_zero57 : zeroA Try.prog 57 = some [.ro (.str ⟨#[]⟩), .ro (.str ⟨#[]⟩)] := by kernel_rfl
@[simp] theorem ty_size59 : sizeT Try.prog 59 = some 2 := by kernel_rfl
@[simp] theorem ty_agg59 : isAggT Try.prog 59 = true := by kernel_rfl
@[simp] theorem ty_f59_0 : fieldAt Try.prog 59 0 = some (0, 9) := by kernel_rfl
@[simp] theorem ty_f59_1 : fieldAt Try.prog 59 1 = some (1, 9) := by kernel_rfl
@[simp] theorem ty_pl59 : placesOk Try.prog 59 = true := by kernel_rfl
@[simp] theorem ty_zero59 : zeroA Try.prog 59 = some [.ro (.str ⟨#[]⟩), .ro (.str ⟨#[]⟩)] := by kernel_rfl
@[simp] theorem ty_size68 : sizeT Try.prog 68 = some 2 := by kernel_rfl
@[simp] theorem ty_agg68 : isAggT Try.prog 68 = true := by kernel_rfl
@[simp] theorem ty_f68_0 : fieldAt Try.prog 68 0 = some (0, 3) := by kernel_rfl
@[simp] theorem ty_f68_1 : fieldAt Try.prog 68 1 = some (1, 36) := by kernel_rfl
@[simp] theorem ty_pl68 : placesOk Try.prog 68 = true := by kernel_rfl
@[simp] theorem ty_zero68 : zeroA Try.prog 68 = some [.ro (.int .i64 0), .own (.sl 1 [])] := by kernel_rfl
@[simp] theorem ty_size79 : sizeT Try.prog 79 = some 1 := by kernel_rfl
@[simp] theorem ty_agg79 : isAggT Try.prog 79 = false := by kernel_rfl
@[simp] theorem ty_zero79 : zeroA Try.prog 79 = some [.ro (.nilp)] := by kernel_rfl
@[simp] theorem ty_size84 : sizeT Try.prog 84 = some 4 := by kernel_rfl
@[simp] theorem ty_agg84 : isAggT Try.prog 84 = true := by kernel_rfl
@[simp] theorem ty_f84_0 : fieldAt Try.prog 84 0 = some (0, 36) := by kernel_rfl
@[simp] theorem ty_f84_1 : fieldAt Try.prog 84 1 = some (1, 3) := by kernel_rfl
@[simp] theorem ty_f84_2 : fieldAt Try.prog 84 2 = some (2, 3) := by kernel_rfl
@[simp] theorem ty_f84_3 : fieldAt Try.prog 84 3 = some (3, 47) := by kernel_rfl
@[simp] theorem ty_pl84 : placesOk Try.prog 84 = true := by kernel_rfl
@[simp] theorem ty_zero84 : zeroA Try.prog 84 = some [.own (.sl 1 []), .ro (.int .i64 0), .ro (.int .i64 0), .own (.sl 1 [])] := by kernel_rfl
@[simp] theorem ty_size85 : sizeT Try.prog 85 = some 4 := by kernel_rfl
@[simp] theorem ty_agg85 : isAggT Try.prog 85 = true := by kernel_rfl
@[simp] theorem ty_f85_0 : fieldAt Try.prog 85 0 = some (0, 36) := by kernel_rfl
@[simp] theorem ty_f85_1 : fieldAt Try.prog 85 1 = some (1, 3) := by kernel_rfl
@[simp] theorem ty_f85_2 : fieldAt Try.prog 85 2 = some (2, 3) := by kernel_rfl
@[simp] theorem ty_f85_3 : fieldAt Try.prog 85 3 = some (3, 47) := by kernel_rfl
@[simp] theorem ty_pl85 : placesOk Try.prog 85 = true := by kernel_rfl
@[simp] theorem ty_zero85 : zeroA Try.prog 85 = some [.own (.sl 1 []), .ro (.int .i64 0), .ro (.int .i64 0), .own (.sl 1 [])] := by kernel_rfl
@[simp] theorem ty_size92 : sizeT Try.prog 92 = some 2 := by kernel_rfl
@[simp] theorem ty_agg92 : isAggT Try.prog 92 = true := by kernel_rfl
@[simp] theorem ty_f92_0 : fieldAt Try.prog 92 0 = some (0, 42) := by kernel_rfl
@[simp] theorem ty_f92_1 : fieldAt Try.prog 92 1 = some (1, 3) := by kernel_rfl
@[simp] theorem ty_pl92 : placesOk Try.prog 92 = true := by kernel_rfl
@[simp] theorem ty_zero92 : zeroA Try.prog 92 = some [.own (.sl 1 []), .ro (.int .i64 0)] := by kernel_rfl
@[simp] theorem ty_size93 : sizeT Try.prog 93 = some 2 := by kernel_rfl
@[simp] theorem ty_agg93 : isAggT Try.prog 93 = true := by kernel_rfl
@[simp] theorem ty_f93_0 : fieldAt Try.prog 93 0 = some (0, 42) := by kernel_rfl
@[simp] theorem ty_f93_1 : fieldAt Try.prog 93 1 = some (1, 3) := by kernel_rfl
@[simp] theorem ty_pl93 : placesOk Try.prog 93 = true := by kernel_rfl
@[simp] theorem ty_zero93 : zeroA Try.prog 93 = some [.own (.sl 1 []), .ro (.int .i64 0)] := by kernel_rfl
@[simp] theorem ty_size95 : sizeT Try.prog 95 = some 1 := by kernel_rfl
@[simp] theorem ty_agg95 : isAggT Try.prog 95 = false := by kernel_rfl
@[simp] theorem ty_zero95 : zeroA Try.prog 95 = some [.ro (.nilp)] := by kernel_rfl
@[simp] theorem ty_size103 : sizeT Try.prog 103 = some 2 := by kernel_rfl
@[simp] theorem ty_agg103 : isAggT Try.prog 103 = true := by kernel_rfl
@[simp] theorem ty_zero103 : zeroA Try.prog 103 = some [.ro (.int .i64 0), .ro (.int .i64 0)] := by kernel_rfl
@[simp] theorem ty_size108 : sizeT Try.prog 108 = some 1 := by kernel_rfl
@[simp] theorem ty_agg108 : isAggT Try.prog 108 = false := by kernel_rfl
@[simp] theorem ty_zero108 : zeroA Try.prog 108 = some [.ro (.nilp)] := by kernel_rfl
@[simp] theorem ty_size111 : sizeT Try.prog 111 = some 4 := by kernel_rfl
@[simp] theorem ty_agg111 : isAggT Try.prog 111 = true := by kernel_rfl
@[simp] theorem ty_f111_0 : fieldAt Try.prog 111 0 = some (0, 17) := by kernel_rfl
@[simp] theorem ty_f111_1 : fieldAt Try.prog 111 1 = some (1, 17) := by kernel_rfl
@[simp] theorem ty_f111_2 : fieldAt Try.prog 111 2 = some (2, 17) := by kernel_rfl
@[simp] theorem ty_f111_3 : fieldAt Try.prog 111 3 = some (3, 9) := by kernel_rfl
@[simp] theorem ty_pl111 : placesOk Try.prog 111 = true := by kernel_rfl
@[simp] theorem ty_zero111 : zeroA Try.prog 111 = some [.ro (.nilp), .ro (.nilp), .ro (.nilp), .ro (.str ⟨#[]⟩)] := by kernel_rfl
@[simp] theorem ty_size112 : sizeT Try.prog 112 = some 4 := by kernel_rfl
@[simp] theorem ty_agg112 : isAggT Try.prog 112 = true := by kernel_rfl
@[simp] theorem ty_f112_0 : fieldAt Try.prog 112 0 = some (0, 17) := by kernel_rfl
@[simp] theorem ty_f112_1 : fieldAt Try.prog 112 1 = some (1, 17) := by kernel_rfl
@[simp] theorem ty_f112_2 : fieldAt Try.prog 112 2 = some (2, 17) := by kernel_rfl
@[simp] theorem ty_f112_3 : fieldAt Try.prog 112 3 = some (3, 9) := by kernel_rfl
@[simp] theorem ty_pl112 : placesOk Try.prog 112 = true := by kernel_rfl
@[simp] theorem ty_zero112 : zeroA Try.prog 112 = some [.ro (.nilp), .ro (.nilp), .ro (.nilp), .ro (.str ⟨#[]⟩)] := by kernel_rfl
@[simp] theorem ty_size113 : sizeT Try.prog 113 = some 0 := by kernel_rfl
@[simp] theorem ty_agg113 : isAggT Try.prog 113 = true := by kernel_rfl
@[simp] theorem ty_zero113 : zeroA Try.prog 113 = some [] := by kernel_rfl
@[simp] theorem ty_size114 : sizeT Try.prog 114 = some 0 := by kernel_rfl
@[simp] theorem ty_agg114 : isAggT Try.prog 114 = true := by kernel_rfl
@[simp] theorem ty_f114_0 : fieldAt Try.prog 114 0 = some (0, 113) := by kernel_rfl
@[simp] theorem ty_pl114 : placesOk Try.prog 114 = true := by kernel_rfl
@[simp] theorem ty_zero114 : zeroA Try.prog 114 = some [] := by kernel_rfl
@[simp] theorem ty_size115 : sizeT Try.prog 115 = some 0 := by kernel_rfl
@[simp] theorem ty_agg115 : isAggT Try.prog 115 = true := by kernel_rfl
@[simp] theorem ty_f115_0 : fieldAt Try.prog 115 0 = some (0, 113) := by kernel_rfl
@[simp] theorem ty_pl115 : placesOk Try.prog 115 = true := by kernel_rfl
@[simp] theorem ty_zero115 : zeroA Try.prog 115 = some [] := by kernel_rfl
@[simp] theorem ty_size117 : sizeT Try.prog 117 = some 1 := by kernel_rfl
@[simp] theorem ty_agg117 : isAggT Try.prog 117 = false := by kernel_rfl
@[simp] theorem ty_zero117 : zeroA Try.prog 117 = some [.ro (.int .u32 0)] := by kernel_rfl
@[simp] theorem ty_size118 : sizeT Try.prog 118 = some 1 := by kernel_rfl
@[simp] theorem ty_agg118 : isAggT Try.prog 118 = false := by kernel_rfl
@[simp] theorem ty_zero118 : zeroA Try.prog 118 = some [.ro (.int .u8 0)] := by kernel_rfl
@[simp] theorem ty_size119 : sizeT Try.prog 119 = some 1 := by kernel_rfl
@[simp] theorem ty_agg119 : isAggT Try.prog 119 = false := by kernel_rfl
@[simp] theorem ty_zero119 : zeroA Try.prog 119 = some [.ro (.int .u8 0)] := by kernel_rfl
@[simp] theorem ty_size121 : sizeT Try.prog 121 = some 1 := by kernel_rfl
@[simp] theorem ty_agg121 : isAggT Try.prog 121 = false := by kernel_rfl
@[simp] theorem ty_zero121 : zeroA Try.prog 121 = some [.ro (.nilp)] := by kernel_rfl
@[simp] theorem ty_size122 : sizeT Try.prog 122 = some 1 := by kernel_rfl
@[simp] theorem ty_agg122 : isAggT Try.prog 122 = false := by kernel_rfl
@[simp] theorem ty_zero122 : zeroA Try.prog 122 = some [.ro (.int .i32 0)] := by kernel_rfl
@[simp] theorem ty_size123 : sizeT Try.prog 123 = some 1 := by kernel_rfl
@[simp] theorem ty_agg123 : isAggT Try.prog 123 = false := by kernel_rfl
@[simp] theorem ty_zero123 : zeroA Try.prog 123 = some [.ro (.int .i32 0)] := by kernel_rfl
@[simp] theorem ty_size124 : sizeT Try.prog 124 = some 11 := by kernel_rfl
@[simp] theorem ty_agg124 : isAggT Try.prog 124 = true := by kernel_rfl
@[simp] theorem ty_f124_0 : fieldAt Try.prog 124 0 = some (0, 12) := by kernel_rfl
@[simp] theorem ty_f124_1 : fieldAt Try.prog 124 1 = some (1, 12) := by kernel_rfl
@[simp] theorem ty_f124_2 : fieldAt Try.prog 124 2 = some (2, 117) := by kernel_rfl
@[simp] theorem ty_f124_3 : fieldAt Try.prog 124 3 = some (3, 118) := by kernel_rfl
@[simp] theorem ty_f124_4 : fieldAt Try.prog 124 4 = some (4, 5) := by kernel_rfl
@[simp] theorem ty_f124_5 : fieldAt Try.prog 124 5 = some (5, 5) := by kernel_rfl
@[simp] theorem ty_f124_6 : fieldAt Try.prog 124 6 = some (6, 119) := by kernel_rfl
@[simp] theorem ty_f124_7 : fieldAt Try.prog 124 7 = some (7, 120) := by kernel_rfl
@[simp] theorem ty_f124_8 : fieldAt Try.prog 124 8 = some (8, 121) := by kernel_rfl
@[simp] theorem ty_f124_9 : fieldAt Try.prog 124 9 = some (9, 122) := by kernel_rfl
@[simp] theorem ty_f124_10 : fieldAt Try.prog 124 10 = some (10, 123) := by kernel_rfl
@[simp] theorem ty_pl124 : placesOk Try.prog 124 = true := by kernel_rfl
@[simp] theorem ty_zero124 : zeroA Try.prog 124 = some [.ro (.int .u64 0), .ro (.int .u64 0), .ro (.int .u32 0), .ro (.int .u8 0), .ro (.int .u8 0), .ro (.int .u8 0), .ro (.int .u8 0), .ro (.nilf), .ro (.nilp), .ro (.int .i32 0), .ro (.int .i32 0)] := by kernel_rfl
@[simp] theorem ty_size125 : sizeT Try.prog 125 = some 11 := by kernel_rfl
@[simp] theorem ty_agg125 : isAggT Try.prog 125 = true := by kernel_rfl
@[simp] theorem ty_f125_0 : fieldAt Try.prog 125 0 = some (0, 12) := by kernel_rfl
@[simp] theorem ty_f125_1 : fieldAt Try.prog 125 1 = some (1, 12) := by kernel_rfl
@[simp] theorem ty_f125_2 : fieldAt Try.prog 125 2 = some (2, 117) := by kernel_rfl
@[simp] theorem ty_f125_3 : fieldAt Try.prog 125 3 = some (3, 118) := by kernel_rfl
@[simp] theorem ty_f125_4 : fieldAt Try.prog 125 4 = some (4, 5) := by kernel_rfl
@[simp] theorem ty_f125_5 : fieldAt Try.prog 125 5 = some (5, 5) := by kernel_rfl
@[simp] theorem ty_f125_6 : fieldAt Try.prog 125 6 = some (6, 119) := by kernel_rfl
@[simp] theorem ty_f125_7 : fieldAt Try.prog 125 7 = some (7, 120) := by kernel_rfl
@[simp] theorem ty_f125_8 : fieldAt Try.prog 125 8 = some (8, 121) := by kernel_rfl
@[simp] theorem ty_f125_9 : fieldAt Try.prog 125 9 = some (9, 122) := by kernel_rfl
@[simp] theorem ty_f125_10 : fieldAt Try.prog 125 10 = some (10, 123) := by kernel_rfl
@[simp] theorem ty_pl125 : placesOk Try.prog 125 = true := by kernel_rfl
@[simp] theorem ty_zero125 : zeroA Try.prog 125 = some [.ro (.int .u64 0), .ro (.int .u64 0), .ro (.int .u32 0), .ro (.int .u8 0), .ro (.int .u8 0), .ro (.int .u8 0), .ro (.int .u8 0), .ro (.nilf), .ro (.nilp), .ro (.int .i32 0), .ro (.int .i32 0)] := by kernel_rfl
@[simp] theorem ty_size126 : sizeT Try.prog 126 = some 1 := by kernel_rfl
@[simp] theorem ty_agg126 : isAggT Try.prog 126 = false := by kernel_rfl
@[simp] theorem ty_zero126 : zeroA Try.prog 126 = some [.ro (.nilp)] := by kernel_rfl
attribute [simp] Try.underlying10
attribute [simp] Try.underlying103
attribute [simp] Try.underlying108
attribute [simp] Try.underlying11
attribute [simp] Try.underlying111
attribute [simp] Try.underlying112
attribute [simp] Try.underlying113
attribute [simp] Try.underlying114
attribute [simp] Try.underlying115
attribute [simp] Try.underlying117
attribute [simp] Try.underlying118
attribute [simp] Try.underlying119
attribute [simp] Try.underlying12
attribute [simp] Try.underlying121
attribute [simp] Try.underlying122
attribute [simp] Try.underlying123
attribute [simp] Try.underlying124
attribute [simp] Try.underlying125
attribute [simp] Try.underlying126
attribute [simp] Try.underlying13
attribute [simp] Try.underlying14
attribute [simp] Try.underlying15
attribute [simp] Try.underlying16
attribute [simp] Try.underlying17
attribute [simp] Try.underlying18
attribute [simp] Try.underlying19
attribute [simp] Try.underlying2
attribute [simp] Try.underlying20
attribute [simp] Try.underlying21
attribute [simp] Try.underlying22
attribute [simp] Try.underlying25
attribute [simp] Try.underlying29
attribute [simp] Try.underlying3
attribute [simp] Try.underlying32
attribute [simp] Try.underlying36
attribute [simp] Try.underlying4
attribute [simp] Try.underlying42
attribute [simp] Try.underlying45
attribute [simp] Try.underlying46
attribute [simp] Try.underlying47
attribute [simp] Try.underlying5
attribute [simp] Try.underlying56
attribute [simp] Try.underlying57
attribute [simp] Try.underlying59
attribute [simp] Try.underlying6
attribute [simp] Try.underlying68
attribute [simp] Try.underlying7
attribute [simp] Try.underlying79
attribute [simp] Try.underlying8
attribute [simp] Try.underlying84
attribute [simp] Try.underlying85
attribute [simp] Try.underlying9
attribute [simp] Try.underlying92
attribute [simp] Try.underlying93
attribute [simp] Try.underlying95
end Go.Qz

/- The functions of the program in short (printed by a program of ours). -/
namespace Go.Qz
open Go.Proofs
/-! 4 w_FnExactHunksOk -/
abbrev fn_w_FnExactHunksOk : FuncId := 4
def q_w_FnExactHunksOk_c0 : QCode := .seq (.ops [⟨some 2, .assign (.const (.bool true)), 4, none⟩]) (.ret)
@[simp] theorem q_w_FnExactHunksOk_c0_run (c : Ctx) (e : Env) (ks : List Fr) : Run c q_w_FnExactHunksOk_c0 e ks = Run c (.seq (.ops [⟨some 2, .assign (.const (.bool true)), 4, none⟩]) (.ret)) e ks := (rfl)
def q_w_FnExactHunksOk_c1 : QCode := .seq (.seq (.ops [⟨some 22, .move (.tmp 5), 32, none⟩, ⟨some 23, .move (.tmp 0), 29, none⟩, ⟨some 24, .call { callee := .value (.func 16), args := #[.tmp 23], argTypes := #[29] }, 32, none⟩, ⟨some 25, .call { callee := .value (.func 18), args := #[.tmp 22, .tmp 24], argTypes := #[32, 32] }, 4, none⟩, ⟨some 26, .unOp .not 4 (.tmp 25), 4, none⟩]) (.cond (.tmp 26) (.seq (.ops [⟨some 2, .assign (.const (.bool false)), 4, none⟩]) (.ret)) (.skip))) (q_w_FnExactHunksOk_c0)
@[simp] theorem q_w_FnExactHunksOk_c1_run (c : Ctx) (e : Env) (ks : List Fr) : Run c q_w_FnExactHunksOk_c1 e ks = Run c (.seq (.seq (.ops [⟨some 22, .move (.tmp 5), 32, none⟩, ⟨some 23, .move (.tmp 0), 29, none⟩, ⟨some 24, .call { callee := .value (.func 16), args := #[.tmp 23], argTypes := #[29] }, 32, none⟩, ⟨some 25, .call { callee := .value (.func 18), args := #[.tmp 22, .tmp 24], argTypes := #[32, 32] }, 4, none⟩, ⟨some 26, .unOp .not 4 (.tmp 25), 4, none⟩]) (.cond (.tmp 26) (.seq (.ops [⟨some 2, .assign (.const (.bool false)), 4, none⟩]) (.ret)) (.skip))) (q_w_FnExactHunksOk_c0)) e ks := (rfl)
def q_w_FnExactHunksOk_c2 : QCode := .seq (.ops [⟨some 12, .move (.tmp 0), 29, none⟩, ⟨some 13, .call { callee := .value (.func 16), args := #[.tmp 12], argTypes := #[29] }, 32, none⟩, ⟨some 14, .call { callee := .value (.func 15), args := #[.tmp 13], argTypes := #[32] }, 4, none⟩, ⟨some 4, .assign (.tmp 14), 4, none⟩]) (.seq (.ops [⟨some 15, .move (.tmp 0), 29, none⟩, ⟨some 16, .call { callee := .value (.func 16), args := #[.tmp 15], argTypes := #[29] }, 32, none⟩, ⟨some 5, .assign (.tmp 16), 32, none⟩]) (.seq (.ops [⟨some 17, .move (.tmp 5), 32, none⟩, ⟨some 18, .call { callee := .value (.func 17), args := #[.tmp 17], argTypes := #[32] }, 4, none⟩, ⟨some 6, .assign (.tmp 18), 4, none⟩]) (.seq (.seq (.ops [⟨some 19, .move (.tmp 6), 4, none⟩, ⟨some 20, .move (.tmp 4), 4, none⟩, ⟨some 21, .binOp .neq 4 (.tmp 19) (.tmp 20) 4, 4, none⟩]) (.cond (.tmp 21) (.seq (.ops [⟨some 2, .assign (.const (.bool false)), 4, none⟩]) (.ret)) (.skip))) (q_w_FnExactHunksOk_c1))))
@[simp] theorem q_w_FnExactHunksOk_c2_run (c : Ctx) (e : Env) (ks : List Fr) : Run c q_w_FnExactHunksOk_c2 e ks = Run c (.seq (.ops [⟨some 12, .move (.tmp 0), 29, none⟩, ⟨some 13, .call { callee := .value (.func 16), args := #[.tmp 12], argTypes := #[29] }, 32, none⟩, ⟨some 14, .call { callee := .value (.func 15), args := #[.tmp 13], argTypes := #[32] }, 4, none⟩, ⟨some 4, .assign (.tmp 14), 4, none⟩]) (.seq (.ops [⟨some 15, .move (.tmp 0), 29, none⟩, ⟨some 16, .call { callee := .value (.func 16), args := #[.tmp 15], argTypes := #[29] }, 32, none⟩, ⟨some 5, .assign (.tmp 16), 32, none⟩]) (.seq (.ops [⟨some 17, .move (.tmp 5), 32, none⟩, ⟨some 18, .call { callee := .value (.func 17), args := #[.tmp 17], argTypes := #[32] }, 4, none⟩, ⟨some 6, .assign (.tmp 18), 4, none⟩]) (.seq (.seq (.ops [⟨some 19, .move (.tmp 6), 4, none⟩, ⟨some 20, .move (.tmp 4), 4, none⟩, ⟨some 21, .binOp .neq 4 (.tmp 19) (.tmp 20) 4, 4, none⟩]) (.cond (.tmp 21) (.seq (.ops [⟨some 2, .assign (.const (.bool false)), 4, none⟩]) (.ret)) (.skip))) (q_w_FnExactHunksOk_c1))))) e ks := (rfl)
@[simp] def q_w_FnExactHunksOk : QFn := ⟨27, [(.tmp 2, 4)], .seq (.ops [⟨some 2, .assign (.const (.bool false)), 4, none⟩]) (.seq (.ops [⟨some 3, .assign (.const (.int .i64 1048576)), 3, none⟩]) (.seq (.ops [⟨some 7, .move (.tmp 0), 29, none⟩, ⟨some 8, .move (.tmp 3), 3, none⟩, ⟨some 9, .call { callee := .value (.func 14), args := #[.tmp 7, .tmp 8], argTypes := #[29, 3] }, 3, none⟩, ⟨some 3, .assign (.tmp 9), 3, none⟩]) (.seq (.seq (.ops [⟨some 10, .move (.tmp 3), 3, none⟩, ⟨some 11, .binOp .lss 3 (.tmp 10) (.const (.int .i64 0)) 3, 4, none⟩]) (.cond (.tmp 11) (.seq (.ops [⟨some 2, .assign (.const (.bool true)), 4, none⟩]) (.ret)) (.skip))) (q_w_FnExactHunksOk_c2))))⟩
theorem conv_w_FnExactHunksOk : convF Try.f4 = some q_w_FnExactHunksOk := by kernel_rfl
/-! 14 w_szHunkS -/
abbrev fn_w_szHunkS : FuncId := 14
def q_w_szHunkS_c0 : QCode := .ops [⟨some 16, .move (.tmp 5), 3, none⟩, ⟨some 17, .binOp .add 3 (.tmp 16) (.const (.int .i64 1)) 3, 3, none⟩, ⟨some 5, .assign (.tmp 17), 3, none⟩]
@[simp] theorem q_w_szHunkS_c0_run (c : Ctx) (e : Env) (ks : List Fr) : Run c q_w_szHunkS_c0 e ks = Run c (.ops [⟨some 16, .move (.tmp 5), 3, none⟩, ⟨some 17, .binOp .add 3 (.tmp 16) (.const (.int .i64 1)) 3, 3, none⟩, ⟨some 5, .assign (.tmp 17), 3, none⟩]) e ks := (rfl)
def q_w_szHunkS_c1 : QCode := .seq (.block 1 (.seq (.ops [⟨some 18, .move (.tmp 0), 29, none⟩, ⟨some 19, .move (.tmp 5), 3, none⟩, ⟨some 20, .indexAddr 29 (.tmp 18) (.tmp 19), 0, none⟩, ⟨some 21, .load 68 (.tmp 20), 68, none⟩, ⟨some 22, .move (.tmp 1), 3, none⟩, ⟨some 23, .call { callee := .value (.func 46), args := #[.tmp 21, .tmp 22], argTypes := #[68, 3] }, 3, none⟩, ⟨some 1, .assign (.tmp 23), 3, none⟩]) (.seq (.ops [⟨some 24, .move (.tmp 1), 3, none⟩, ⟨some 25, .binOp .lss 3 (.tmp 24) (.const (.int .i64 0)) 3, 4, none⟩]) (.cond (.tmp 25) (.seq (.ops [⟨some 4, .assign (.const (.int .i64 (-1))), 3, none⟩]) (.ret)) (.skip))))) (q_w_szHunkS_c0)
@[simp] theorem q_w_szHunkS_c1_run (c : Ctx) (e : Env) (ks : List Fr) : Run c q_w_szHunkS_c1 e ks = Run c (.seq (.block 1 (.seq (.ops [⟨some 18, .move (.tmp 0), 29, none⟩, ⟨some 19, .move (.tmp 5), 3, none⟩, ⟨some 20, .indexAddr 29 (.tmp 18) (.tmp 19), 0, none⟩, ⟨some 21, .load 68 (.tmp 20), 68, none⟩, ⟨some 22, .move (.tmp 1), 3, none⟩, ⟨some 23, .call { callee := .value (.func 46), args := #[.tmp 21, .tmp 22], argTypes := #[68, 3] }, 3, none⟩, ⟨some 1, .assign (.tmp 23), 3, none⟩]) (.seq (.ops [⟨some 24, .move (.tmp 1), 3, none⟩, ⟨some 25, .binOp .lss 3 (.tmp 24) (.const (.int .i64 0)) 3, 4, none⟩]) (.cond (.tmp 25) (.seq (.ops [⟨some 4, .assign (.const (.int .i64 (-1))), 3, none⟩]) (.ret)) (.skip))))) (q_w_szHunkS_c0)) e ks := (rfl)
def q_w_szHunkS_l0 : QCode := .seq (.seq (.ops [⟨some 12, .move (.tmp 5), 3, none⟩, ⟨some 13, .move (.tmp 0), 29, none⟩, ⟨some 14, .call { callee := .builtin .len, args := #[.tmp 13], argTypes := #[29] }, 3, none⟩, ⟨some 15, .binOp .lss 3 (.tmp 12) (.tmp 14) 3, 4, none⟩]) (.cond (.tmp 15) (.skip) (.exit 0))) (q_w_szHunkS_c1)
@[simp] theorem q_w_szHunkS_l0_run (c : Ctx) (e : Env) (ks : List Fr) : Run c q_w_szHunkS_l0 e ks = Run c (.seq (.seq (.ops [⟨some 12, .move (.tmp 5), 3, none⟩, ⟨some 13, .move (.tmp 0), 29, none⟩, ⟨some 14, .call { callee := .builtin .len, args := #[.tmp 13], argTypes := #[29] }, 3, none⟩, ⟨some 15, .binOp .lss 3 (.tmp 12) (.tmp 14) 3, 4, none⟩]) (.cond (.tmp 15) (.skip) (.exit 0))) (q_w_szHunkS_c1)) e ks := (rfl)
def q_w_szHunkS_c2 : QCode := .seq (.ops [⟨some 26, .move (.tmp 1), 3, none⟩, ⟨some 4, .assign (.tmp 26), 3, none⟩]) (.ret)
@[simp] theorem q_w_szHunkS_c2_run (c : Ctx) (e : Env) (ks : List Fr) : Run c q_w_szHunkS_c2 e ks = Run c (.seq (.ops [⟨some 26, .move (.tmp 1), 3, none⟩, ⟨some 4, .assign (.tmp 26), 3, none⟩]) (.ret)) e ks := (rfl)
def q_w_szHunkS_c3 : QCode := .seq (.seq (.ops [⟨some 5, .assign (.const (.int .i64 0)), 3, none⟩]) (.block 0 (.loop q_w_szHunkS_l0))) (q_w_szHunkS_c2)
@[simp] theorem q_w_szHunkS_c3_run (c : Ctx) (e : Env) (ks : List Fr) : Run c q_w_szHunkS_c3 e ks = Run c (.seq (.seq (.ops [⟨some 5, .assign (.const (.int .i64 0)), 3, none⟩]) (.block 0 (.loop q_w_szHunkS_l0))) (q_w_szHunkS_c2)) e ks := (rfl)
@[simp] def q_w_szHunkS : QFn := ⟨27, [(.tmp 4, 3)], .seq (.ops [⟨some 4, .assign (.const (.int .i64 0)), 3, none⟩]) (.seq (.ops [⟨some 6, .move (.tmp 1), 3, none⟩, ⟨some 7, .move (.tmp 0), 29, none⟩, ⟨some 8, .call { callee := .builtin .len, args := #[.tmp 7], argTypes := #[29] }, 3, none⟩, ⟨some 9, .binOp .sub 3 (.tmp 6) (.tmp 8) 3, 3, none⟩, ⟨some 1, .assign (.tmp 9), 3, none⟩]) (.seq (.seq (.ops [⟨some 10, .move (.tmp 1), 3, none⟩, ⟨some 11, .binOp .lss 3 (.tmp 10) (.const (.int .i64 0)) 3, 4, none⟩]) (.cond (.tmp 11) (.seq (.ops [⟨some 4, .assign (.const (.int .i64 (-1))), 3, none⟩]) (.ret)) (.skip))) (q_w_szHunkS_c3)))⟩
theorem conv_w_szHunkS : convF Try.f14 = some q_w_szHunkS := by kernel_rfl
/-! 15 s_HunksOk -/
abbrev fn_s_HunksOk : FuncId := 15
def q_s_HunksOk_c0 : QCode := .ops [⟨some 8, .move (.tmp 3), 3, none⟩, ⟨some 9, .binOp .add 3 (.tmp 8) (.const (.int .i64 1)) 3, 3, none⟩, ⟨some 3, .assign (.tmp 9), 3, none⟩]
@[simp] theorem q_s_HunksOk_c0_run (c : Ctx) (e : Env) (ks : List Fr) : Run c q_s_HunksOk_c0 e ks = Run c (.ops [⟨some 8, .move (.tmp 3), 3, none⟩, ⟨some 9, .binOp .add 3 (.tmp 8) (.const (.int .i64 1)) 3, 3, none⟩, ⟨some 3, .assign (.tmp 9), 3, none⟩]) e ks := (rfl)
def q_s_HunksOk_c1 : QCode := .seq (.block 1 (.seq (.draw [⟨some 10, .move (.tmp 0), 32, none⟩, ⟨some 11, .move (.tmp 3), 3, none⟩, ⟨some 12, .indexAddr 32 (.tmp 10) (.tmp 11), 0, none⟩, ⟨some 13, .load 46 (.tmp 12), 46, none⟩, ⟨some 14, .call { callee := .value (.func 47), args := #[.tmp 13], argTypes := #[46] }, 4, none⟩, ⟨some 15, .unOp .not 4 (.tmp 14), 4, none⟩, ⟨some 16, .move (.tmp 15), 4, none⟩, ⟨some 17, .move (.tmp 3), 3, some (16, false)⟩, ⟨some 18, .binOp .gtr 3 (.tmp 17) (.const (.int .i64 0)) 3, 4, some (16, false)⟩, ⟨some 19, .move (.tmp 18), 4, some (16, false)⟩, ⟨some 20, .move (.tmp 0), 32, some (19, true)⟩, ⟨some 21, .move (.tmp 3), 3, some (19, true)⟩, ⟨some 22, .indexAddr 32 (.tmp 20) (.tmp 21), 0, some (19, true)⟩, ⟨some 23, .fieldAddr 46 (.tmp 22) 0, 0, some (19, true)⟩, ⟨some 24, .load 3 (.tmp 23), 3, some (19, true)⟩, ⟨some 25, .move (.tmp 0), 32, some (19, true)⟩, ⟨some 26, .move (.tmp 3), 3, some (19, true)⟩, ⟨some 27, .binOp .sub 3 (.tmp 26) (.const (.int .i64 1)) 3, 3, some (19, true)⟩, ⟨some 28, .indexAddr 32 (.tmp 25) (.tmp 27), 0, some (19, true)⟩, ⟨some 29, .fieldAddr 46 (.tmp 28) 0, 0, some (19, true)⟩, ⟨some 30, .load 3 (.tmp 29), 3, some (19, true)⟩, ⟨some 31, .move (.tmp 0), 32, some (19, true)⟩, ⟨some 32, .move (.tmp 3), 3, some (19, true)⟩, ⟨some 33, .binOp .sub 3 (.tmp 32) (.const (.int .i64 1)) 3, 3, some (19, true)⟩, ⟨some 34, .indexAddr 32 (.tmp 31) (.tmp 33), 0, some (19, true)⟩, ⟨some 35, .load 46 (.tmp 34), 46, some (19, true)⟩, ⟨some 36, .call { callee := .value (.func 48), args := #[.tmp 35], argTypes := #[46] }, 36, some (19, true)⟩, ⟨some 37, .call { callee := .builtin .len, args := #[.tmp 36], argTypes := #[36] }, 3, some (19, true)⟩, ⟨some 38, .binOp .add 3 (.tmp 30) (.tmp 37) 3, 3, some (19, true)⟩] [⟨some 39, .binOp .lss 3 (.tmp 24) (.tmp 38) 3, 4, some (19, true)⟩, ⟨some 40, .pick (.tmp 19) (.tmp 39) (.const (.bool false)), 4, some (16, false)⟩, ⟨some 41, .pick (.tmp 16) (.const (.bool true)) (.tmp 40), 4, none⟩]) (.cond (.tmp 41) (.seq (.ops [⟨some 2, .assign (.const (.bool false)), 4, none⟩]) (.ret)) (.skip)))) (q_s_HunksOk_c0)
@[simp] theorem q_s_HunksOk_c1_run (c : Ctx) (e : Env) (ks : List Fr) : Run c q_s_HunksOk_c1 e ks = Run c (.seq (.block 1 (.seq (.draw [⟨some 10, .move (.tmp 0), 32, none⟩, ⟨some 11, .move (.tmp 3), 3, none⟩, ⟨some 12, .indexAddr 32 (.tmp 10) (.tmp 11), 0, none⟩, ⟨some 13, .load 46 (.tmp 12), 46, none⟩, ⟨some 14, .call { callee := .value (.func 47), args := #[.tmp 13], argTypes := #[46] }, 4, none⟩, ⟨some 15, .unOp .not 4 (.tmp 14), 4, none⟩, ⟨some 16, .move (.tmp 15), 4, none⟩, ⟨some 17, .move (.tmp 3), 3, some (16, false)⟩, ⟨some 18, .binOp .gtr 3 (.tmp 17) (.const (.int .i64 0)) 3, 4, some (16, false)⟩, ⟨some 19, .move (.tmp 18), 4, some (16, false)⟩, ⟨some 20, .move (.tmp 0), 32, some (19, true)⟩, ⟨some 21, .move (.tmp 3), 3, some (19, true)⟩, ⟨some 22, .indexAddr 32 (.tmp 20) (.tmp 21), 0, some (19, true)⟩, ⟨some 23, .fieldAddr 46 (.tmp 22) 0, 0, some (19, true)⟩, ⟨some 24, .load 3 (.tmp 23), 3, some (19, true)⟩, ⟨some 25, .move (.tmp 0), 32, some (19, true)⟩, ⟨some 26, .move (.tmp 3), 3, some (19, true)⟩, ⟨some 27, .binOp .sub 3 (.tmp 26) (.const (.int .i64 1)) 3, 3, some (19, true)⟩, ⟨some 28, .indexAddr 32 (.tmp 25) (.tmp 27), 0, some (19, true)⟩, ⟨some 29, .fieldAddr 46 (.tmp 28) 0, 0, some (19, true)⟩, ⟨some 30, .load 3 (.tmp 29), 3, some (19, true)⟩, ⟨some 31, .move (.tmp 0), 32, some (19, true)⟩, ⟨some 32, .move (.tmp 3), 3, some (19, true)⟩, ⟨some 33, .binOp .sub 3 (.tmp 32) (.const (.int .i64 1)) 3, 3, some (19, true)⟩, ⟨some 34, .indexAddr 32 (.tmp 31) (.tmp 33), 0, some (19, true)⟩, ⟨some 35, .load 46 (.tmp 34), 46, some (19, true)⟩, ⟨some 36, .call { callee := .value (.func 48), args := #[.tmp 35], argTypes := #[46] }, 36, some (19, true)⟩, ⟨some 37, .call { callee := .builtin .len, args := #[.tmp 36], argTypes := #[36] }, 3, some (19, true)⟩, ⟨some 38, .binOp .add 3 (.tmp 30) (.tmp 37) 3, 3, some (19, true)⟩] [⟨some 39, .binOp .lss 3 (.tmp 24) (.tmp 38) 3, 4, some (19, true)⟩, ⟨some 40, .pick (.tmp 19) (.tmp 39) (.const (.bool false)), 4, some (16, false)⟩, ⟨some 41, .pick (.tmp 16) (.const (.bool true)) (.tmp 40), 4, none⟩]) (.cond (.tmp 41) (.seq (.ops [⟨some 2, .assign (.const (.bool false)), 4, none⟩]) (.ret)) (.skip)))) (q_s_HunksOk_c0)) e ks := (rfl)
def q_s_HunksOk_l0 : QCode := .seq (.seq (.ops [⟨some 4, .move (.tmp 3), 3, none⟩, ⟨some 5, .move (.tmp 0), 32, none⟩, ⟨some 6, .call { callee := .builtin .len, args := #[.tmp 5], argTypes := #[32] }, 3, none⟩, ⟨some 7, .binOp .lss 3 (.tmp 4) (.tmp 6) 3, 4, none⟩]) (.cond (.tmp 7) (.skip) (.exit 0))) (q_s_HunksOk_c1)
@[simp] theorem q_s_HunksOk_l0_run (c : Ctx) (e : Env) (ks : List Fr) : Run c q_s_HunksOk_l0 e ks = Run c (.seq (.seq (.ops [⟨some 4, .move (.tmp 3), 3, none⟩, ⟨some 5, .move (.tmp 0), 32, none⟩, ⟨some 6, .call { callee := .builtin .len, args := #[.tmp 5], argTypes := #[32] }, 3, none⟩, ⟨some 7, .binOp .lss 3 (.tmp 4) (.tmp 6) 3, 4, none⟩]) (.cond (.tmp 7) (.skip) (.exit 0))) (q_s_HunksOk_c1)) e ks := (rfl)
def q_s_HunksOk_c2 : QCode := .seq (.ops [⟨some 42, .move (.tmp 0), 32, none⟩, ⟨some 43, .call { callee := .builtin .len, args := #[.tmp 42], argTypes := #[32] }, 3, none⟩, ⟨some 44, .binOp .leq 3 (.tmp 43) (.const (.int .i64 4)) 3, 4, none⟩, ⟨some 2, .assign (.tmp 44), 4, none⟩]) (.ret)
@[simp] theorem q_s_HunksOk_c2_run (c : Ctx) (e : Env) (ks : List Fr) : Run c q_s_HunksOk_c2 e ks = Run c (.seq (.ops [⟨some 42, .move (.tmp 0), 32, none⟩, ⟨some 43, .call { callee := .builtin .len, args := #[.tmp 42], argTypes := #[32] }, 3, none⟩, ⟨some 44, .binOp .leq 3 (.tmp 43) (.const (.int .i64 4)) 3, 4, none⟩, ⟨some 2, .assign (.tmp 44), 4, none⟩]) (.ret)) e ks := (rfl)
@[simp] def q_s_HunksOk : QFn := ⟨45, [(.tmp 2, 4)], .seq (.ops [⟨some 2, .assign (.const (.bool false)), 4, none⟩]) (.seq (.seq (.ops [⟨some 3, .assign (.const (.int .i64 0)), 3, none⟩]) (.block 0 (.loop q_s_HunksOk_l0))) (q_s_HunksOk_c2))⟩
theorem conv_s_HunksOk : convF Try.f15 = some q_s_HunksOk := by kernel_rfl
/-! 16 w_toHunkS -/
abbrev fn_w_toHunkS : FuncId := 16
def q_w_toHunkS_c0 : QCode := .ops [⟨some 12, .move (.tmp 4), 3, none⟩, ⟨some 13, .binOp .add 3 (.tmp 12) (.const (.int .i64 1)) 3, 3, none⟩, ⟨some 4, .assign (.tmp 13), 3, none⟩]
@[simp] theorem q_w_toHunkS_c0_run (c : Ctx) (e : Env) (ks : List Fr) : Run c q_w_toHunkS_c0 e ks = Run c (.ops [⟨some 12, .move (.tmp 4), 3, none⟩, ⟨some 13, .binOp .add 3 (.tmp 12) (.const (.int .i64 1)) 3, 3, none⟩, ⟨some 4, .assign (.tmp 13), 3, none⟩]) e ks := (rfl)
def q_w_toHunkS_c1 : QCode := .seq (.block 1 (.ops [⟨some 14, .move (.tmp 3), 32, none⟩, ⟨some 15, .move (.tmp 4), 3, none⟩, ⟨some 16, .move (.tmp 0), 29, none⟩, ⟨some 17, .move (.tmp 4), 3, none⟩, ⟨some 18, .indexAddr 29 (.tmp 16) (.tmp 17), 0, none⟩, ⟨some 19, .load 68 (.tmp 18), 68, none⟩, ⟨some 20, .call { callee := .value (.func 49), args := #[.tmp 19], argTypes := #[68] }, 46, none⟩, ⟨some 21, .indexAddr 32 (.tmp 14) (.tmp 15), 0, none⟩, ⟨none, .store 46 (.tmp 21) (.tmp 20), 0, none⟩])) (q_w_toHunkS_c0)
@[simp] theorem q_w_toHunkS_c1_run (c : Ctx) (e : Env) (ks : List Fr) : Run c q_w_toHunkS_c1 e ks = Run c (.seq (.block 1 (.ops [⟨some 14, .move (.tmp 3), 32, none⟩, ⟨some 15, .move (.tmp 4), 3, none⟩, ⟨some 16, .move (.tmp 0), 29, none⟩, ⟨some 17, .move (.tmp 4), 3, none⟩, ⟨some 18, .indexAddr 29 (.tmp 16) (.tmp 17), 0, none⟩, ⟨some 19, .load 68 (.tmp 18), 68, none⟩, ⟨some 20, .call { callee := .value (.func 49), args := #[.tmp 19], argTypes := #[68] }, 46, none⟩, ⟨some 21, .indexAddr 32 (.tmp 14) (.tmp 15), 0, none⟩, ⟨none, .store 46 (.tmp 21) (.tmp 20), 0, none⟩])) (q_w_toHunkS_c0)) e ks := (rfl)
def q_w_toHunkS_l0 : QCode := .seq (.seq (.ops [⟨some 8, .move (.tmp 4), 3, none⟩, ⟨some 9, .move (.tmp 0), 29, none⟩, ⟨some 10, .call { callee := .builtin .len, args := #[.tmp 9], argTypes := #[29] }, 3, none⟩, ⟨some 11, .binOp .lss 3 (.tmp 8) (.tmp 10) 3, 4, none⟩]) (.cond (.tmp 11) (.skip) (.exit 0))) (q_w_toHunkS_c1)
@[simp] theorem q_w_toHunkS_l0_run (c : Ctx) (e : Env) (ks : List Fr) : Run c q_w_toHunkS_l0 e ks = Run c (.seq (.seq (.ops [⟨some 8, .move (.tmp 4), 3, none⟩, ⟨some 9, .move (.tmp 0), 29, none⟩, ⟨some 10, .call { callee := .builtin .len, args := #[.tmp 9], argTypes := #[29] }, 3, none⟩, ⟨some 11, .binOp .lss 3 (.tmp 8) (.tmp 10) 3, 4, none⟩]) (.cond (.tmp 11) (.skip) (.exit 0))) (q_w_toHunkS_c1)) e ks := (rfl)
def q_w_toHunkS_c2 : QCode := .seq (.ops [⟨some 22, .move (.tmp 3), 32, none⟩, ⟨some 2, .assign (.tmp 22), 32, none⟩]) (.ret)
@[simp] theorem q_w_toHunkS_c2_run (c : Ctx) (e : Env) (ks : List Fr) : Run c q_w_toHunkS_c2 e ks = Run c (.seq (.ops [⟨some 22, .move (.tmp 3), 32, none⟩, ⟨some 2, .assign (.tmp 22), 32, none⟩]) (.ret)) e ks := (rfl)
@[simp] def q_w_toHunkS : QFn := ⟨23, [(.tmp 2, 32)], .seq (.ops [⟨some 2, .assign (.const (.slice none 0 0)), 32, none⟩]) (.seq (.ops [⟨some 5, .move (.tmp 0), 29, none⟩, ⟨some 6, .call { callee := .builtin .len, args := #[.tmp 5], argTypes := #[29] }, 3, none⟩, ⟨some 7, .makeSlice 32 (.tmp 6) (.tmp 6), 32, none⟩, ⟨some 3, .assign (.tmp 7), 32, none⟩]) (.seq (.seq (.ops [⟨some 4, .assign (.const (.int .i64 0)), 3, none⟩]) (.block 0 (.loop q_w_toHunkS_l0))) (q_w_toHunkS_c2)))⟩
theorem conv_w_toHunkS : convF Try.f16 = some q_w_toHunkS := by kernel_rfl
/-! 17 i_HunksOk -/
abbrev fn_i_HunksOk : FuncId := 17
def q_i_HunksOk_c0 : QCode := .seq (.ops [⟨some 43, .fieldAddr 46 (.tmp 5) 1, 0, none⟩, ⟨some 44, .load 36 (.tmp 43), 36, none⟩, ⟨some 45, .call { callee := .value (.func 52), args := #[.tmp 44], argTypes := #[36] }, 43, none⟩, ⟨some 42, .move (.tmp 45), 43, none⟩, ⟨some 46, .extract (.tmp 42) 0, 36, none⟩, ⟨some 47, .extract (.tmp 42) 1, 36, none⟩, ⟨some 6, .assign (.tmp 46), 36, none⟩, ⟨some 7, .assign (.tmp 47), 36, none⟩]) (.ops [⟨some 48, .fieldAddr 46 (.tmp 5) 0, 0, none⟩, ⟨some 49, .load 3 (.tmp 48), 3, none⟩, ⟨some 50, .move (.tmp 6), 36, none⟩, ⟨some 51, .call { callee := .builtin .len, args := #[.tmp 50], argTypes := #[36] }, 3, none⟩, ⟨some 52, .binOp .add 3 (.tmp 49) (.tmp 51) 3, 3, none⟩, ⟨some 3, .assign (.tmp 52), 3, none⟩])
@[simp] theorem q_i_HunksOk_c0_run (c : Ctx) (e : Env) (ks : List Fr) : Run c q_i_HunksOk_c0 e ks = Run c (.seq (.ops [⟨some 43, .fieldAddr 46 (.tmp 5) 1, 0, none⟩, ⟨some 44, .load 36 (.tmp 43), 36, none⟩, ⟨some 45, .call { callee := .value (.func 52), args := #[.tmp 44], argTypes := #[36] }, 43, none⟩, ⟨some 42, .move (.tmp 45), 43, none⟩, ⟨some 46, .extract (.tmp 42) 0, 36, none⟩, ⟨some 47, .extract (.tmp 42) 1, 36, none⟩, ⟨some 6, .assign (.tmp 46), 36, none⟩, ⟨some 7, .assign (.tmp 47), 36, none⟩]) (.ops [⟨some 48, .fieldAddr 46 (.tmp 5) 0, 0, none⟩, ⟨some 49, .load 3 (.tmp 48), 3, none⟩, ⟨some 50, .move (.tmp 6), 36, none⟩, ⟨some 51, .call { callee := .builtin .len, args := #[.tmp 50], argTypes := #[36] }, 3, none⟩, ⟨some 52, .binOp .add 3 (.tmp 49) (.tmp 51) 3, 3, none⟩, ⟨some 3, .assign (.tmp 52), 3, none⟩])) e ks := (rfl)
def q_i_HunksOk_c1 : QCode := .seq (.seq (.ops [⟨some 38, .fieldAddr 46 (.tmp 5) 1, 0, none⟩, ⟨some 39, .load 36 (.tmp 38), 36, none⟩, ⟨some 40, .call { callee := .value (.func 50), args := #[.tmp 39, .func 51], argTypes := #[36, 58] }, 4, none⟩, ⟨some 41, .unOp .not 4 (.tmp 40), 4, none⟩]) (.cond (.tmp 41) (.seq (.ops [⟨some 2, .assign (.const (.bool false)), 4, none⟩]) (.ret)) (.skip))) (q_i_HunksOk_c0)
@[simp] theorem q_i_HunksOk_c1_run (c : Ctx) (e : Env) (ks : List Fr) : Run c q_i_HunksOk_c1 e ks = Run c (.seq (.seq (.ops [⟨some 38, .fieldAddr 46 (.tmp 5) 1, 0, none⟩, ⟨some 39, .load 36 (.tmp 38), 36, none⟩, ⟨some 40, .call { callee := .value (.func 50), args := #[.tmp 39, .func 51], argTypes := #[36, 58] }, 4, none⟩, ⟨some 41, .unOp .not 4 (.tmp 40), 4, none⟩]) (.cond (.tmp 41) (.seq (.ops [⟨some 2, .assign (.const (.bool false)), 4, none⟩]) (.ret)) (.skip))) (q_i_HunksOk_c0)) e ks := (rfl)
def q_i_HunksOk_c2 : QCode := .ops [⟨some 53, .binOp .add 3 (.tmp 13) (.const (.int .i64 1)) 3, 3, none⟩, ⟨some 13, .move (.tmp 53), 3, none⟩]
@[simp] theorem q_i_HunksOk_c2_run (c : Ctx) (e : Env) (ks : List Fr) : Run c q_i_HunksOk_c2 e ks = Run c (.ops [⟨some 53, .binOp .add 3 (.tmp 13) (.const (.int .i64 1)) 3, 3, none⟩, ⟨some 13, .move (.tmp 53), 3, none⟩]) e ks := (rfl)
def q_i_HunksOk_c3 : QCode := .seq (.block 1 (.seq (.ops [⟨some 15, .indexAddr 32 (.tmp 11) (.tmp 13), 0, none⟩, ⟨some 16, .load 46 (.tmp 15), 46, none⟩, ⟨some 5, .alloc 46, 0, none⟩, ⟨none, .store 46 (.tmp 5) (.tmp 16), 0, none⟩]) (.seq (.seq (.ops [⟨some 17, .fieldAddr 46 (.tmp 5) 0, 0, none⟩, ⟨some 18, .load 3 (.tmp 17), 3, none⟩, ⟨some 19, .move (.tmp 3), 3, none⟩, ⟨some 20, .binOp .lss 3 (.tmp 18) (.tmp 19) 3, 4, none⟩, ⟨some 21, .move (.tmp 20), 4, none⟩, ⟨some 22, .fieldAddr 46 (.tmp 5) 0, 0, some (21, false)⟩, ⟨some 23, .load 3 (.tmp 22), 3, some (21, false)⟩, ⟨some 24, .binOp .gtr 3 (.tmp 23) (.const (.int .i64 999)) 3, 4, some (21, false)⟩, ⟨some 25, .pick (.tmp 21) (.const (.bool true)) (.tmp 24), 4, none⟩, ⟨some 26, .move (.tmp 25), 4, none⟩, ⟨some 27, .fieldAddr 46 (.tmp 5) 1, 0, some (26, false)⟩, ⟨some 28, .load 36 (.tmp 27), 36, some (26, false)⟩, ⟨some 29, .call { callee := .builtin .len, args := #[.tmp 28], argTypes := #[36] }, 3, some (26, false)⟩, ⟨some 30, .binOp .lss 3 (.tmp 29) (.const (.int .i64 1)) 3, 4, some (26, false)⟩, ⟨some 31, .pick (.tmp 26) (.const (.bool true)) (.tmp 30), 4, none⟩, ⟨some 32, .move (.tmp 31), 4, none⟩, ⟨some 33, .fieldAddr 46 (.tmp 5) 1, 0, some (32, false)⟩, ⟨some 34, .load 36 (.tmp 33), 36, some (32, false)⟩, ⟨some 35, .call { callee := .builtin .len, args := #[.tmp 34], argTypes := #[36] }, 3, some (32, false)⟩, ⟨some 36, .binOp .gtr 3 (.tmp 35) (.const (.int .i64 30)) 3, 4, some (32, false)⟩, ⟨some 37, .pick (.tmp 32) (.const (.bool true)) (.tmp 36), 4, none⟩]) (.cond (.tmp 37) (.seq (.ops [⟨some 2, .assign (.const (.bool false)), 4, none⟩]) (.ret)) (.skip))) (q_i_HunksOk_c1)))) (q_i_HunksOk_c2)
@[simp] theorem q_i_HunksOk_c3_run (c : Ctx) (e : Env) (ks : List Fr) : Run c q_i_HunksOk_c3 e ks = Run c (.seq (.block 1 (.seq (.ops [⟨some 15, .indexAddr 32 (.tmp 11) (.tmp 13), 0, none⟩, ⟨some 16, .load 46 (.tmp 15), 46, none⟩, ⟨some 5, .alloc 46, 0, none⟩, ⟨none, .store 46 (.tmp 5) (.tmp 16), 0, none⟩]) (.seq (.seq (.ops [⟨some 17, .fieldAddr 46 (.tmp 5) 0, 0, none⟩, ⟨some 18, .load 3 (.tmp 17), 3, none⟩, ⟨some 19, .move (.tmp 3), 3, none⟩, ⟨some 20, .binOp .lss 3 (.tmp 18) (.tmp 19) 3, 4, none⟩, ⟨some 21, .move (.tmp 20), 4, none⟩, ⟨some 22, .fieldAddr 46 (.tmp 5) 0, 0, some (21, false)⟩, ⟨some 23, .load 3 (.tmp 22), 3, some (21, false)⟩, ⟨some 24, .binOp .gtr 3 (.tmp 23) (.const (.int .i64 999)) 3, 4, some (21, false)⟩, ⟨some 25, .pick (.tmp 21) (.const (.bool true)) (.tmp 24), 4, none⟩, ⟨some 26, .move (.tmp 25), 4, none⟩, ⟨some 27, .fieldAddr 46 (.tmp 5) 1, 0, some (26, false)⟩, ⟨some 28, .load 36 (.tmp 27), 36, some (26, false)⟩, ⟨some 29, .call { callee := .builtin .len, args := #[.tmp 28], argTypes := #[36] }, 3, some (26, false)⟩, ⟨some 30, .binOp .lss 3 (.tmp 29) (.const (.int .i64 1)) 3, 4, some (26, false)⟩, ⟨some 31, .pick (.tmp 26) (.const (.bool true)) (.tmp 30), 4, none⟩, ⟨some 32, .move (.tmp 31), 4, none⟩, ⟨some 33, .fieldAddr 46 (.tmp 5) 1, 0, some (32, false)⟩, ⟨some 34, .load 36 (.tmp 33), 36, some (32, false)⟩, ⟨some 35, .call { callee := .builtin .len, args := #[.tmp 34], argTypes := #[36] }, 3, some (32, false)⟩, ⟨some 36, .binOp .gtr 3 (.tmp 35) (.const (.int .i64 30)) 3, 4, some (32, false)⟩, ⟨some 37, .pick (.tmp 32) (.const (.bool true)) (.tmp 36), 4, none⟩]) (.cond (.tmp 37) (.seq (.ops [⟨some 2, .assign (.const (.bool false)), 4, none⟩]) (.ret)) (.skip))) (q_i_HunksOk_c1)))) (q_i_HunksOk_c2)) e ks := (rfl)
def q_i_HunksOk_l0 : QCode := .seq (.ops [⟨some 14, .binOp .lss 3 (.tmp 13) (.tmp 12) 3, 0, none⟩]) (.seq (.cond (.tmp 14) (.skip) (.exit 0)) (q_i_HunksOk_c3))
@[simp] theorem q_i_HunksOk_l0_run (c : Ctx) (e : Env) (ks : List Fr) : Run c q_i_HunksOk_l0 e ks = Run c (.seq (.ops [⟨some 14, .binOp .lss 3 (.tmp 13) (.tmp 12) 3, 0, none⟩]) (.seq (.cond (.tmp 14) (.skip) (.exit 0)) (q_i_HunksOk_c3))) e ks := (rfl)
def q_i_HunksOk_c4 : QCode := .seq (.ops [⟨some 2, .assign (.const (.bool true)), 4, none⟩]) (.ret)
@[simp] theorem q_i_HunksOk_c4_run (c : Ctx) (e : Env) (ks : List Fr) : Run c q_i_HunksOk_c4 e ks = Run c (.seq (.ops [⟨some 2, .assign (.const (.bool true)), 4, none⟩]) (.ret)) e ks := (rfl)
def q_i_HunksOk_c5 : QCode := .seq (.ops [⟨some 3, .assign (.const (.int .i64 1)), 3, none⟩]) (.seq (.seq (.ops [⟨some 11, .move (.tmp 0), 32, none⟩, ⟨some 12, .call { callee := .builtin .len, args := #[.tmp 11], argTypes := #[32] }, 3, none⟩, ⟨some 13, .move (.const (.int .i64 0)), 3, none⟩]) (.block 0 (.loop q_i_HunksOk_l0))) (q_i_HunksOk_c4))
@[simp] theorem q_i_HunksOk_c5_run (c : Ctx) (e : Env) (ks : List Fr) : Run c q_i_HunksOk_c5 e ks = Run c (.seq (.ops [⟨some 3, .assign (.const (.int .i64 1)), 3, none⟩]) (.seq (.seq (.ops [⟨some 11, .move (.tmp 0), 32, none⟩, ⟨some 12, .call { callee := .builtin .len, args := #[.tmp 11], argTypes := #[32] }, 3, none⟩, ⟨some 13, .move (.const (.int .i64 0)), 3, none⟩]) (.block 0 (.loop q_i_HunksOk_l0))) (q_i_HunksOk_c4))) e ks := (rfl)
@[simp] def q_i_HunksOk : QFn := ⟨54, [(.tmp 2, 4)], .seq (.ops [⟨some 2, .assign (.const (.bool false)), 4, none⟩]) (.seq (.seq (.ops [⟨some 8, .move (.tmp 0), 32, none⟩, ⟨some 9, .call { callee := .builtin .len, args := #[.tmp 8], argTypes := #[32] }, 3, none⟩, ⟨some 10, .binOp .gtr 3 (.tmp 9) (.const (.int .i64 4)) 3, 4, none⟩]) (.cond (.tmp 10) (.seq (.ops [⟨some 2, .assign (.const (.bool false)), 4, none⟩]) (.ret)) (.skip))) (q_i_HunksOk_c5))⟩
theorem conv_i_HunksOk : convF Try.f17 = some q_i_HunksOk := by kernel_rfl
/-! 18 w_eqHunkS -/
abbrev fn_w_eqHunkS : FuncId := 18
def q_w_eqHunkS_c0 : QCode := .ops [⟨some 15, .move (.tmp 5), 3, none⟩, ⟨some 16, .binOp .add 3 (.tmp 15) (.const (.int .i64 1)) 3, 3, none⟩, ⟨some 5, .assign (.tmp 16), 3, none⟩]
@[simp] theorem q_w_eqHunkS_c0_run (c : Ctx) (e : Env) (ks : List Fr) : Run c q_w_eqHunkS_c0 e ks = Run c (.ops [⟨some 15, .move (.tmp 5), 3, none⟩, ⟨some 16, .binOp .add 3 (.tmp 15) (.const (.int .i64 1)) 3, 3, none⟩, ⟨some 5, .assign (.tmp 16), 3, none⟩]) e ks := (rfl)
def q_w_eqHunkS_c1 : QCode := .seq (.block 1 (.seq (.draw [⟨some 17, .move (.tmp 0), 32, none⟩, ⟨some 18, .move (.tmp 5), 3, none⟩, ⟨some 19, .indexAddr 32 (.tmp 17) (.tmp 18), 0, none⟩, ⟨some 20, .load 46 (.tmp 19), 46, none⟩, ⟨some 21, .move (.tmp 1), 32, none⟩, ⟨some 22, .move (.tmp 5), 3, none⟩, ⟨some 23, .indexAddr 32 (.tmp 21) (.tmp 22), 0, none⟩, ⟨some 24, .load 46 (.tmp 23), 46, none⟩] [⟨some 25, .call { callee := .value (.func 53), args := #[.tmp 20, .tmp 24], argTypes := #[46, 46] }, 4, none⟩, ⟨some 26, .unOp .not 4 (.tmp 25), 4, none⟩]) (.cond (.tmp 26) (.seq (.ops [⟨some 4, .assign (.const (.bool false)), 4, none⟩]) (.ret)) (.skip)))) (q_w_eqHunkS_c0)
@[simp] theorem q_w_eqHunkS_c1_run (c : Ctx) (e : Env) (ks : List Fr) : Run c q_w_eqHunkS_c1 e ks = Run c (.seq (.block 1 (.seq (.draw [⟨some 17, .move (.tmp 0), 32, none⟩, ⟨some 18, .move (.tmp 5), 3, none⟩, ⟨some 19, .indexAddr 32 (.tmp 17) (.tmp 18), 0, none⟩, ⟨some 20, .load 46 (.tmp 19), 46, none⟩, ⟨some 21, .move (.tmp 1), 32, none⟩, ⟨some 22, .move (.tmp 5), 3, none⟩, ⟨some 23, .indexAddr 32 (.tmp 21) (.tmp 22), 0, none⟩, ⟨some 24, .load 46 (.tmp 23), 46, none⟩] [⟨some 25, .call { callee := .value (.func 53), args := #[.tmp 20, .tmp 24], argTypes := #[46, 46] }, 4, none⟩, ⟨some 26, .unOp .not 4 (.tmp 25), 4, none⟩]) (.cond (.tmp 26) (.seq (.ops [⟨some 4, .assign (.const (.bool false)), 4, none⟩]) (.ret)) (.skip)))) (q_w_eqHunkS_c0)) e ks := (rfl)
def q_w_eqHunkS_l0 : QCode := .seq (.seq (.ops [⟨some 11, .move (.tmp 5), 3, none⟩, ⟨some 12, .move (.tmp 0), 32, none⟩, ⟨some 13, .call { callee := .builtin .len, args := #[.tmp 12], argTypes := #[32] }, 3, none⟩, ⟨some 14, .binOp .lss 3 (.tmp 11) (.tmp 13) 3, 4, none⟩]) (.cond (.tmp 14) (.skip) (.exit 0))) (q_w_eqHunkS_c1)
@[simp] theorem q_w_eqHunkS_l0_run (c : Ctx) (e : Env) (ks : List Fr) : Run c q_w_eqHunkS_l0 e ks = Run c (.seq (.seq (.ops [⟨some 11, .move (.tmp 5), 3, none⟩, ⟨some 12, .move (.tmp 0), 32, none⟩, ⟨some 13, .call { callee := .builtin .len, args := #[.tmp 12], argTypes := #[32] }, 3, none⟩, ⟨some 14, .binOp .lss 3 (.tmp 11) (.tmp 13) 3, 4, none⟩]) (.cond (.tmp 14) (.skip) (.exit 0))) (q_w_eqHunkS_c1)) e ks := (rfl)
def q_w_eqHunkS_c2 : QCode := .seq (.ops [⟨some 4, .assign (.const (.bool true)), 4, none⟩]) (.ret)
@[simp] theorem q_w_eqHunkS_c2_run (c : Ctx) (e : Env) (ks : List Fr) : Run c q_w_eqHunkS_c2 e ks = Run c (.seq (.ops [⟨some 4, .assign (.const (.bool true)), 4, none⟩]) (.ret)) e ks := (rfl)
def q_w_eqHunkS_c3 : QCode := .seq (.seq (.ops [⟨some 5, .assign (.const (.int .i64 0)), 3, none⟩]) (.block 0 (.loop q_w_eqHunkS_l0))) (q_w_eqHunkS_c2)
@[simp] theorem q_w_eqHunkS_c3_run (c : Ctx) (e : Env) (ks : List Fr) : Run c q_w_eqHunkS_c3 e ks = Run c (.seq (.seq (.ops [⟨some 5, .assign (.const (.int .i64 0)), 3, none⟩]) (.block 0 (.loop q_w_eqHunkS_l0))) (q_w_eqHunkS_c2)) e ks := (rfl)
@[simp] def q_w_eqHunkS : QFn := ⟨27, [(.tmp 4, 4)], .seq (.ops [⟨some 4, .assign (.const (.bool false)), 4, none⟩]) (.seq (.seq (.ops [⟨some 6, .move (.tmp 0), 32, none⟩, ⟨some 7, .call { callee := .builtin .len, args := #[.tmp 6], argTypes := #[32] }, 3, none⟩, ⟨some 8, .move (.tmp 1), 32, none⟩, ⟨some 9, .call { callee := .builtin .len, args := #[.tmp 8], argTypes := #[32] }, 3, none⟩, ⟨some 10, .binOp .neq 3 (.tmp 7) (.tmp 9) 3, 4, none⟩]) (.cond (.tmp 10) (.seq (.ops [⟨some 4, .assign (.const (.bool false)), 4, none⟩]) (.ret)) (.skip))) (q_w_eqHunkS_c3))⟩
theorem conv_w_eqHunkS : convF Try.f18 = some q_w_eqHunkS := by kernel_rfl
/-! 19 w_szStringS -/
abbrev fn_w_szStringS : FuncId := 19
def q_w_szStringS_c0 : QCode := .ops [⟨some 16, .move (.tmp 5), 3, none⟩, ⟨some 17, .binOp .add 3 (.tmp 16) (.const (.int .i64 1)) 3, 3, none⟩, ⟨some 5, .assign (.tmp 17), 3, none⟩]
@[simp] theorem q_w_szStringS_c0_run (c : Ctx) (e : Env) (ks : List Fr) : Run c q_w_szStringS_c0 e ks = Run c (.ops [⟨some 16, .move (.tmp 5), 3, none⟩, ⟨some 17, .binOp .add 3 (.tmp 16) (.const (.int .i64 1)) 3, 3, none⟩, ⟨some 5, .assign (.tmp 17), 3, none⟩]) e ks := (rfl)
def q_w_szStringS_c1 : QCode := .seq (.block 1 (.seq (.ops [⟨some 18, .move (.tmp 1), 3, none⟩, ⟨some 19, .move (.tmp 0), 36, none⟩, ⟨some 20, .move (.tmp 5), 3, none⟩, ⟨some 21, .indexAddr 36 (.tmp 19) (.tmp 20), 0, none⟩, ⟨some 22, .load 9 (.tmp 21), 9, none⟩, ⟨some 23, .call { callee := .builtin .len, args := #[.tmp 22], argTypes := #[9] }, 3, none⟩, ⟨some 24, .binOp .sub 3 (.tmp 18) (.tmp 23) 3, 3, none⟩, ⟨some 1, .assign (.tmp 24), 3, none⟩]) (.seq (.ops [⟨some 25, .move (.tmp 1), 3, none⟩, ⟨some 26, .binOp .lss 3 (.tmp 25) (.const (.int .i64 0)) 3, 4, none⟩]) (.cond (.tmp 26) (.seq (.ops [⟨some 4, .assign (.const (.int .i64 (-1))), 3, none⟩]) (.ret)) (.skip))))) (q_w_szStringS_c0)
@[simp] theorem q_w_szStringS_c1_run (c : Ctx) (e : Env) (ks : List Fr) : Run c q_w_szStringS_c1 e ks = Run c (.seq (.block 1 (.seq (.ops [⟨some 18, .move (.tmp 1), 3, none⟩, ⟨some 19, .move (.tmp 0), 36, none⟩, ⟨some 20, .move (.tmp 5), 3, none⟩, ⟨some 21, .indexAddr 36 (.tmp 19) (.tmp 20), 0, none⟩, ⟨some 22, .load 9 (.tmp 21), 9, none⟩, ⟨some 23, .call { callee := .builtin .len, args := #[.tmp 22], argTypes := #[9] }, 3, none⟩, ⟨some 24, .binOp .sub 3 (.tmp 18) (.tmp 23) 3, 3, none⟩, ⟨some 1, .assign (.tmp 24), 3, none⟩]) (.seq (.ops [⟨some 25, .move (.tmp 1), 3, none⟩, ⟨some 26, .binOp .lss 3 (.tmp 25) (.const (.int .i64 0)) 3, 4, none⟩]) (.cond (.tmp 26) (.seq (.ops [⟨some 4, .assign (.const (.int .i64 (-1))), 3, none⟩]) (.ret)) (.skip))))) (q_w_szStringS_c0)) e ks := (rfl)
def q_w_szStringS_l0 : QCode := .seq (.seq (.ops [⟨some 12, .move (.tmp 5), 3, none⟩, ⟨some 13, .move (.tmp 0), 36, none⟩, ⟨some 14, .call { callee := .builtin .len, args := #[.tmp 13], argTypes := #[36] }, 3, none⟩, ⟨some 15, .binOp .lss 3 (.tmp 12) (.tmp 14) 3, 4, none⟩]) (.cond (.tmp 15) (.skip) (.exit 0))) (q_w_szStringS_c1)
@[simp] theorem q_w_szStringS_l0_run (c : Ctx) (e : Env) (ks : List Fr) : Run c q_w_szStringS_l0 e ks = Run c (.seq (.seq (.ops [⟨some 12, .move (.tmp 5), 3, none⟩, ⟨some 13, .move (.tmp 0), 36, none⟩, ⟨some 14, .call { callee := .builtin .len, args := #[.tmp 13], argTypes := #[36] }, 3, none⟩, ⟨some 15, .binOp .lss 3 (.tmp 12) (.tmp 14) 3, 4, none⟩]) (.cond (.tmp 15) (.skip) (.exit 0))) (q_w_szStringS_c1)) e ks := (rfl)
def q_w_szStringS_c2 : QCode := .seq (.ops [⟨some 27, .move (.tmp 1), 3, none⟩, ⟨some 4, .assign (.tmp 27), 3, none⟩]) (.ret)
@[simp] theorem q_w_szStringS_c2_run (c : Ctx) (e : Env) (ks : List Fr) : Run c q_w_szStringS_c2 e ks = Run c (.seq (.ops [⟨some 27, .move (.tmp 1), 3, none⟩, ⟨some 4, .assign (.tmp 27), 3, none⟩]) (.ret)) e ks := (rfl)
def q_w_szStringS_c3 : QCode := .seq (.seq (.ops [⟨some 5, .assign (.const (.int .i64 0)), 3, none⟩]) (.block 0 (.loop q_w_szStringS_l0))) (q_w_szStringS_c2)
@[simp] theorem q_w_szStringS_c3_run (c : Ctx) (e : Env) (ks : List Fr) : Run c q_w_szStringS_c3 e ks = Run c (.seq (.seq (.ops [⟨some 5, .assign (.const (.int .i64 0)), 3, none⟩]) (.block 0 (.loop q_w_szStringS_l0))) (q_w_szStringS_c2)) e ks := (rfl)
@[simp] def q_w_szStringS : QFn := ⟨28, [(.tmp 4, 3)], .seq (.ops [⟨some 4, .assign (.const (.int .i64 0)), 3, none⟩]) (.seq (.ops [⟨some 6, .move (.tmp 1), 3, none⟩, ⟨some 7, .move (.tmp 0), 36, none⟩, ⟨some 8, .call { callee := .builtin .len, args := #[.tmp 7], argTypes := #[36] }, 3, none⟩, ⟨some 9, .binOp .sub 3 (.tmp 6) (.tmp 8) 3, 3, none⟩, ⟨some 1, .assign (.tmp 9), 3, none⟩]) (.seq (.seq (.ops [⟨some 10, .move (.tmp 1), 3, none⟩, ⟨some 11, .binOp .lss 3 (.tmp 10) (.const (.int .i64 0)) 3, 4, none⟩]) (.cond (.tmp 11) (.seq (.ops [⟨some 4, .assign (.const (.int .i64 (-1))), 3, none⟩]) (.ret)) (.skip))) (q_w_szStringS_c3)))⟩
theorem conv_w_szStringS : convF Try.f19 = some q_w_szStringS := by kernel_rfl
/-! 21 w_toStringS -/
abbrev fn_w_toStringS : FuncId := 21
def q_w_toStringS_c0 : QCode := .ops [⟨some 12, .move (.tmp 4), 3, none⟩, ⟨some 13, .binOp .add 3 (.tmp 12) (.const (.int .i64 1)) 3, 3, none⟩, ⟨some 4, .assign (.tmp 13), 3, none⟩]
@[simp] theorem q_w_toStringS_c0_run (c : Ctx) (e : Env) (ks : List Fr) : Run c q_w_toStringS_c0 e ks = Run c (.ops [⟨some 12, .move (.tmp 4), 3, none⟩, ⟨some 13, .binOp .add 3 (.tmp 12) (.const (.int .i64 1)) 3, 3, none⟩, ⟨some 4, .assign (.tmp 13), 3, none⟩]) e ks := (rfl)
def q_w_toStringS_c1 : QCode := .seq (.block 1 (.ops [⟨some 14, .move (.tmp 3), 36, none⟩, ⟨some 15, .move (.tmp 4), 3, none⟩, ⟨some 16, .move (.tmp 0), 36, none⟩, ⟨some 17, .move (.tmp 4), 3, none⟩, ⟨some 18, .indexAddr 36 (.tmp 16) (.tmp 17), 0, none⟩, ⟨some 19, .load 9 (.tmp 18), 9, none⟩, ⟨some 20, .indexAddr 36 (.tmp 14) (.tmp 15), 0, none⟩, ⟨none, .store 9 (.tmp 20) (.tmp 19), 0, none⟩])) (q_w_toStringS_c0)
@[simp] theorem q_w_toStringS_c1_run (c : Ctx) (e : Env) (ks : List Fr) : Run c q_w_toStringS_c1 e ks = Run c (.seq (.block 1 (.ops [⟨some 14, .move (.tmp 3), 36, none⟩, ⟨some 15, .move (.tmp 4), 3, none⟩, ⟨some 16, .move (.tmp 0), 36, none⟩, ⟨some 17, .move (.tmp 4), 3, none⟩, ⟨some 18, .indexAddr 36 (.tmp 16) (.tmp 17), 0, none⟩, ⟨some 19, .load 9 (.tmp 18), 9, none⟩, ⟨some 20, .indexAddr 36 (.tmp 14) (.tmp 15), 0, none⟩, ⟨none, .store 9 (.tmp 20) (.tmp 19), 0, none⟩])) (q_w_toStringS_c0)) e ks := (rfl)
def q_w_toStringS_l0 : QCode := .seq (.seq (.ops [⟨some 8, .move (.tmp 4), 3, none⟩, ⟨some 9, .move (.tmp 0), 36, none⟩, ⟨some 10, .call { callee := .builtin .len, args := #[.tmp 9], argTypes := #[36] }, 3, none⟩, ⟨some 11, .binOp .lss 3 (.tmp 8) (.tmp 10) 3, 4, none⟩]) (.cond (.tmp 11) (.skip) (.exit 0))) (q_w_toStringS_c1)
@[simp] theorem q_w_toStringS_l0_run (c : Ctx) (e : Env) (ks : List Fr) : Run c q_w_toStringS_l0 e ks = Run c (.seq (.seq (.ops [⟨some 8, .move (.tmp 4), 3, none⟩, ⟨some 9, .move (.tmp 0), 36, none⟩, ⟨some 10, .call { callee := .builtin .len, args := #[.tmp 9], argTypes := #[36] }, 3, none⟩, ⟨some 11, .binOp .lss 3 (.tmp 8) (.tmp 10) 3, 4, none⟩]) (.cond (.tmp 11) (.skip) (.exit 0))) (q_w_toStringS_c1)) e ks := (rfl)
def q_w_toStringS_c2 : QCode := .seq (.ops [⟨some 21, .move (.tmp 3), 36, none⟩, ⟨some 2, .assign (.tmp 21), 36, none⟩]) (.ret)
@[simp] theorem q_w_toStringS_c2_run (c : Ctx) (e : Env) (ks : List Fr) : Run c q_w_toStringS_c2 e ks = Run c (.seq (.ops [⟨some 21, .move (.tmp 3), 36, none⟩, ⟨some 2, .assign (.tmp 21), 36, none⟩]) (.ret)) e ks := (rfl)
@[simp] def q_w_toStringS : QFn := ⟨22, [(.tmp 2, 36)], .seq (.ops [⟨some 2, .assign (.const (.slice none 0 0)), 36, none⟩]) (.seq (.ops [⟨some 5, .move (.tmp 0), 36, none⟩, ⟨some 6, .call { callee := .builtin .len, args := #[.tmp 5], argTypes := #[36] }, 3, none⟩, ⟨some 7, .makeSlice 36 (.tmp 6) (.tmp 6), 36, none⟩, ⟨some 3, .assign (.tmp 7), 36, none⟩]) (.seq (.seq (.ops [⟨some 4, .assign (.const (.int .i64 0)), 3, none⟩]) (.block 0 (.loop q_w_toStringS_l0))) (q_w_toStringS_c2)))⟩
theorem conv_w_toStringS : convF Try.f21 = some q_w_toStringS := by kernel_rfl
/-! 23 w_eqStringS -/
abbrev fn_w_eqStringS : FuncId := 23
def q_w_eqStringS_c0 : QCode := .ops [⟨some 15, .move (.tmp 5), 3, none⟩, ⟨some 16, .binOp .add 3 (.tmp 15) (.const (.int .i64 1)) 3, 3, none⟩, ⟨some 5, .assign (.tmp 16), 3, none⟩]
@[simp] theorem q_w_eqStringS_c0_run (c : Ctx) (e : Env) (ks : List Fr) : Run c q_w_eqStringS_c0 e ks = Run c (.ops [⟨some 15, .move (.tmp 5), 3, none⟩, ⟨some 16, .binOp .add 3 (.tmp 15) (.const (.int .i64 1)) 3, 3, none⟩, ⟨some 5, .assign (.tmp 16), 3, none⟩]) e ks := (rfl)
def q_w_eqStringS_c1 : QCode := .seq (.block 1 (.seq (.draw [⟨some 17, .move (.tmp 0), 36, none⟩, ⟨some 18, .move (.tmp 5), 3, none⟩, ⟨some 19, .indexAddr 36 (.tmp 17) (.tmp 18), 0, none⟩, ⟨some 20, .load 9 (.tmp 19), 9, none⟩, ⟨some 21, .move (.tmp 1), 36, none⟩, ⟨some 22, .move (.tmp 5), 3, none⟩, ⟨some 23, .indexAddr 36 (.tmp 21) (.tmp 22), 0, none⟩, ⟨some 24, .load 9 (.tmp 23), 9, none⟩] [⟨some 25, .binOp .neq 9 (.tmp 20) (.tmp 24) 9, 4, none⟩]) (.cond (.tmp 25) (.seq (.ops [⟨some 4, .assign (.const (.bool false)), 4, none⟩]) (.ret)) (.skip)))) (q_w_eqStringS_c0)
@[simp] theorem q_w_eqStringS_c1_run (c : Ctx) (e : Env) (ks : List Fr) : Run c q_w_eqStringS_c1 e ks = Run c (.seq (.block 1 (.seq (.draw [⟨some 17, .move (.tmp 0), 36, none⟩, ⟨some 18, .move (.tmp 5), 3, none⟩, ⟨some 19, .indexAddr 36 (.tmp 17) (.tmp 18), 0, none⟩, ⟨some 20, .load 9 (.tmp 19), 9, none⟩, ⟨some 21, .move (.tmp 1), 36, none⟩, ⟨some 22, .move (.tmp 5), 3, none⟩, ⟨some 23, .indexAddr 36 (.tmp 21) (.tmp 22), 0, none⟩, ⟨some 24, .load 9 (.tmp 23), 9, none⟩] [⟨some 25, .binOp .neq 9 (.tmp 20) (.tmp 24) 9, 4, none⟩]) (.cond (.tmp 25) (.seq (.ops [⟨some 4, .assign (.const (.bool false)), 4, none⟩]) (.ret)) (.skip)))) (q_w_eqStringS_c0)) e ks := (rfl)
def q_w_eqStringS_l0 : QCode := .seq (.seq (.ops [⟨some 11, .move (.tmp 5), 3, none⟩, ⟨some 12, .move (.tmp 0), 36, none⟩, ⟨some 13, .call { callee := .builtin .len, args := #[.tmp 12], argTypes := #[36] }, 3, none⟩, ⟨some 14, .binOp .lss 3 (.tmp 11) (.tmp 13) 3, 4, none⟩]) (.cond (.tmp 14) (.skip) (.exit 0))) (q_w_eqStringS_c1)
@[simp] theorem q_w_eqStringS_l0_run (c : Ctx) (e : Env) (ks : List Fr) : Run c q_w_eqStringS_l0 e ks = Run c (.seq (.seq (.ops [⟨some 11, .move (.tmp 5), 3, none⟩, ⟨some 12, .move (.tmp 0), 36, none⟩, ⟨some 13, .call { callee := .builtin .len, args := #[.tmp 12], argTypes := #[36] }, 3, none⟩, ⟨some 14, .binOp .lss 3 (.tmp 11) (.tmp 13) 3, 4, none⟩]) (.cond (.tmp 14) (.skip) (.exit 0))) (q_w_eqStringS_c1)) e ks := (rfl)
def q_w_eqStringS_c2 : QCode := .seq (.ops [⟨some 4, .assign (.const (.bool true)), 4, none⟩]) (.ret)
@[simp] theorem q_w_eqStringS_c2_run (c : Ctx) (e : Env) (ks : List Fr) : Run c q_w_eqStringS_c2 e ks = Run c (.seq (.ops [⟨some 4, .assign (.const (.bool true)), 4, none⟩]) (.ret)) e ks := (rfl)
def q_w_eqStringS_c3 : QCode := .seq (.seq (.ops [⟨some 5, .assign (.const (.int .i64 0)), 3, none⟩]) (.block 0 (.loop q_w_eqStringS_l0))) (q_w_eqStringS_c2)
@[simp] theorem q_w_eqStringS_c3_run (c : Ctx) (e : Env) (ks : List Fr) : Run c q_w_eqStringS_c3 e ks = Run c (.seq (.seq (.ops [⟨some 5, .assign (.const (.int .i64 0)), 3, none⟩]) (.block 0 (.loop q_w_eqStringS_l0))) (q_w_eqStringS_c2)) e ks := (rfl)
@[simp] def q_w_eqStringS : QFn := ⟨26, [(.tmp 4, 4)], .seq (.ops [⟨some 4, .assign (.const (.bool false)), 4, none⟩]) (.seq (.seq (.ops [⟨some 6, .move (.tmp 0), 36, none⟩, ⟨some 7, .call { callee := .builtin .len, args := #[.tmp 6], argTypes := #[36] }, 3, none⟩, ⟨some 8, .move (.tmp 1), 36, none⟩, ⟨some 9, .call { callee := .builtin .len, args := #[.tmp 8], argTypes := #[36] }, 3, none⟩, ⟨some 10, .binOp .neq 3 (.tmp 7) (.tmp 9) 3, 4, none⟩]) (.cond (.tmp 10) (.seq (.ops [⟨some 4, .assign (.const (.bool false)), 4, none⟩]) (.ret)) (.skip))) (q_w_eqStringS_c3))⟩
theorem conv_w_eqStringS : convF Try.f23 = some q_w_eqStringS := by kernel_rfl
abbrev fn_w_markStringS : FuncId := 24
abbrev fn_w_markHunkS : FuncId := 25
abbrev fn_w_markIntS : FuncId := 33
/-! 46 w_szHunk -/
abbrev fn_w_szHunk : FuncId := 46
def q_w_szHunk_c0 : QCode := .seq (.ops [⟨some 11, .move (.tmp 1), 3, none⟩, ⟨some 4, .assign (.tmp 11), 3, none⟩]) (.ret)
@[simp] theorem q_w_szHunk_c0_run (c : Ctx) (e : Env) (ks : List Fr) : Run c q_w_szHunk_c0 e ks = Run c (.seq (.ops [⟨some 11, .move (.tmp 1), 3, none⟩, ⟨some 4, .assign (.tmp 11), 3, none⟩]) (.ret)) e ks := (rfl)
@[simp] def q_w_szHunk : QFn := ⟨12, [(.tmp 4, 3)], .seq (.ops [⟨some 2, .box 68 (.tmp 0), 0, none⟩, ⟨some 4, .assign (.const (.int .i64 0)), 3, none⟩]) (.seq (.ops [⟨some 5, .fieldAddr 68 (.tmp 2) 1, 0, none⟩, ⟨some 6, .load 36 (.tmp 5), 36, none⟩, ⟨some 7, .move (.tmp 1), 3, none⟩, ⟨some 8, .call { callee := .value (.func 19), args := #[.tmp 6, .tmp 7], argTypes := #[36, 3] }, 3, none⟩, ⟨some 1, .assign (.tmp 8), 3, none⟩]) (.seq (.seq (.ops [⟨some 9, .move (.tmp 1), 3, none⟩, ⟨some 10, .binOp .lss 3 (.tmp 9) (.const (.int .i64 0)) 3, 4, none⟩]) (.cond (.tmp 10) (.seq (.ops [⟨some 4, .assign (.const (.int .i64 (-1))), 3, none⟩]) (.ret)) (.skip))) (q_w_szHunk_c0)))⟩
theorem conv_w_szHunk : convF Try.f46 = some q_w_szHunk := by kernel_rfl
/-! 47 s_l5Hunk -/
abbrev fn_s_l5Hunk : FuncId := 47
def q_s_l5Hunk_c0 : QCode := .ops [⟨some 10, .move (.tmp 3), 3, none⟩, ⟨some 11, .binOp .add 3 (.tmp 10) (.const (.int .i64 1)) 3, 3, none⟩, ⟨some 3, .assign (.tmp 11), 3, none⟩]
@[simp] theorem q_s_l5Hunk_c0_run (c : Ctx) (e : Env) (ks : List Fr) : Run c q_s_l5Hunk_c0 e ks = Run c (.ops [⟨some 10, .move (.tmp 3), 3, none⟩, ⟨some 11, .binOp .add 3 (.tmp 10) (.const (.int .i64 1)) 3, 3, none⟩, ⟨some 3, .assign (.tmp 11), 3, none⟩]) e ks := (rfl)
def q_s_l5Hunk_c1 : QCode := .seq (.block 1 (.seq (.ops [⟨some 12, .fieldAddr 46 (.tmp 1) 1, 0, none⟩, ⟨some 13, .load 36 (.tmp 12), 36, none⟩, ⟨some 14, .move (.tmp 3), 3, none⟩, ⟨some 15, .indexAddr 36 (.tmp 13) (.tmp 14), 0, none⟩, ⟨some 16, .load 9 (.tmp 15), 9, none⟩, ⟨some 4, .assign (.tmp 16), 9, none⟩]) (.seq (.ops [⟨some 17, .move (.tmp 4), 9, none⟩, ⟨some 18, .binOp .eql 9 (.tmp 17) (.const (.string { data := #[] })) 9, 4, none⟩, ⟨some 19, .move (.tmp 18), 4, none⟩, ⟨some 20, .move (.tmp 4), 9, some (19, false)⟩, ⟨some 21, .index 9 (.tmp 20) (.const (.int .i64 0)), 5, some (19, false)⟩, ⟨some 22, .binOp .neq 5 (.tmp 21) (.const (.int .u8 32)) 5, 4, some (19, false)⟩, ⟨some 23, .move (.tmp 22), 4, some (19, false)⟩, ⟨some 24, .move (.tmp 4), 9, some (23, true)⟩, ⟨some 25, .index 9 (.tmp 24) (.const (.int .i64 0)), 5, some (23, true)⟩, ⟨some 26, .binOp .neq 5 (.tmp 25) (.const (.int .u8 45)) 5, 4, some (23, true)⟩, ⟨some 27, .pick (.tmp 23) (.tmp 26) (.const (.bool false)), 4, some (19, false)⟩, ⟨some 28, .move (.tmp 27), 4, some (19, false)⟩, ⟨some 29, .move (.tmp 4), 9, some (28, true)⟩, ⟨some 30, .index 9 (.tmp 29) (.const (.int .i64 0)), 5, some (28, true)⟩, ⟨some 31, .binOp .neq 5 (.tmp 30) (.const (.int .u8 43)) 5, 4, some (28, true)⟩, ⟨some 32, .pick (.tmp 28) (.tmp 31) (.const (.bool false)), 4, some (19, false)⟩, ⟨some 33, .pick (.tmp 19) (.const (.bool true)) (.tmp 32), 4, none⟩, ⟨some 34, .move (.tmp 33), 4, none⟩, ⟨some 35, .move (.tmp 4), 9, some (34, false)⟩, ⟨some 36, .slice 9 (.tmp 35) (some (.const (.int .i64 1))) none none, 9, some (34, false)⟩, ⟨some 37, .call { callee := .value (.func 73), args := #[.tmp 36], argTypes := #[9] }, 4, some (34, false)⟩, ⟨some 38, .unOp .not 4 (.tmp 37), 4, some (34, false)⟩, ⟨some 39, .pick (.tmp 34) (.const (.bool true)) (.tmp 38), 4, none⟩]) (.cond (.tmp 39) (.seq (.ops [⟨some 2, .assign (.const (.bool false)), 4, none⟩]) (.ret)) (.skip))))) (q_s_l5Hunk_c0)
@[simp] theorem q_s_l5Hunk_c1_run (c : Ctx) (e : Env) (ks : List Fr) : Run c q_s_l5Hunk_c1 e ks = Run c (.seq (.block 1 (.seq (.ops [⟨some 12, .fieldAddr 46 (.tmp 1) 1, 0, none⟩, ⟨some 13, .load 36 (.tmp 12), 36, none⟩, ⟨some 14, .move (.tmp 3), 3, none⟩, ⟨some 15, .indexAddr 36 (.tmp 13) (.tmp 14), 0, none⟩, ⟨some 16, .load 9 (.tmp 15), 9, none⟩, ⟨some 4, .assign (.tmp 16), 9, none⟩]) (.seq (.ops [⟨some 17, .move (.tmp 4), 9, none⟩, ⟨some 18, .binOp .eql 9 (.tmp 17) (.const (.string { data := #[] })) 9, 4, none⟩, ⟨some 19, .move (.tmp 18), 4, none⟩, ⟨some 20, .move (.tmp 4), 9, some (19, false)⟩, ⟨some 21, .index 9 (.tmp 20) (.const (.int .i64 0)), 5, some (19, false)⟩, ⟨some 22, .binOp .neq 5 (.tmp 21) (.const (.int .u8 32)) 5, 4, some (19, false)⟩, ⟨some 23, .move (.tmp 22), 4, some (19, false)⟩, ⟨some 24, .move (.tmp 4), 9, some (23, true)⟩, ⟨some 25, .index 9 (.tmp 24) (.const (.int .i64 0)), 5, some (23, true)⟩, ⟨some 26, .binOp .neq 5 (.tmp 25) (.const (.int .u8 45)) 5, 4, some (23, true)⟩, ⟨some 27, .pick (.tmp 23) (.tmp 26) (.const (.bool false)), 4, some (19, false)⟩, ⟨some 28, .move (.tmp 27), 4, some (19, false)⟩, ⟨some 29, .move (.tmp 4), 9, some (28, true)⟩, ⟨some 30, .index 9 (.tmp 29) (.const (.int .i64 0)), 5, some (28, true)⟩, ⟨some 31, .binOp .neq 5 (.tmp 30) (.const (.int .u8 43)) 5, 4, some (28, true)⟩, ⟨some 32, .pick (.tmp 28) (.tmp 31) (.const (.bool false)), 4, some (19, false)⟩, ⟨some 33, .pick (.tmp 19) (.const (.bool true)) (.tmp 32), 4, none⟩, ⟨some 34, .move (.tmp 33), 4, none⟩, ⟨some 35, .move (.tmp 4), 9, some (34, false)⟩, ⟨some 36, .slice 9 (.tmp 35) (some (.const (.int .i64 1))) none none, 9, some (34, false)⟩, ⟨some 37, .call { callee := .value (.func 73), args := #[.tmp 36], argTypes := #[9] }, 4, some (34, false)⟩, ⟨some 38, .unOp .not 4 (.tmp 37), 4, some (34, false)⟩, ⟨some 39, .pick (.tmp 34) (.const (.bool true)) (.tmp 38), 4, none⟩]) (.cond (.tmp 39) (.seq (.ops [⟨some 2, .assign (.const (.bool false)), 4, none⟩]) (.ret)) (.skip))))) (q_s_l5Hunk_c0)) e ks := (rfl)
def q_s_l5Hunk_l0 : QCode := .seq (.seq (.ops [⟨some 5, .move (.tmp 3), 3, none⟩, ⟨some 6, .fieldAddr 46 (.tmp 1) 1, 0, none⟩, ⟨some 7, .load 36 (.tmp 6), 36, none⟩, ⟨some 8, .call { callee := .builtin .len, args := #[.tmp 7], argTypes := #[36] }, 3, none⟩, ⟨some 9, .binOp .lss 3 (.tmp 5) (.tmp 8) 3, 4, none⟩]) (.cond (.tmp 9) (.skip) (.exit 0))) (q_s_l5Hunk_c1)
@[simp] theorem q_s_l5Hunk_l0_run (c : Ctx) (e : Env) (ks : List Fr) : Run c q_s_l5Hunk_l0 e ks = Run c (.seq (.seq (.ops [⟨some 5, .move (.tmp 3), 3, none⟩, ⟨some 6, .fieldAddr 46 (.tmp 1) 1, 0, none⟩, ⟨some 7, .load 36 (.tmp 6), 36, none⟩, ⟨some 8, .call { callee := .builtin .len, args := #[.tmp 7], argTypes := #[36] }, 3, none⟩, ⟨some 9, .binOp .lss 3 (.tmp 5) (.tmp 8) 3, 4, none⟩]) (.cond (.tmp 9) (.skip) (.exit 0))) (q_s_l5Hunk_c1)) e ks := (rfl)
def q_s_l5Hunk_c2 : QCode := .seq (.ops [⟨some 40, .fieldAddr 46 (.tmp 1) 1, 0, none⟩, ⟨some 41, .load 36 (.tmp 40), 36, none⟩, ⟨some 42, .call { callee := .builtin .len, args := #[.tmp 41], argTypes := #[36] }, 3, none⟩, ⟨some 43, .call { callee := .value (.func 66), args := #[.tmp 42, .const (.int .i64 1), .const (.int .i64 30)], argTypes := #[3, 3, 3] }, 4, none⟩, ⟨some 44, .move (.tmp 43), 4, none⟩, ⟨some 45, .fieldAddr 46 (.tmp 1) 0, 0, some (44, true)⟩, ⟨some 46, .load 3 (.tmp 45), 3, some (44, true)⟩, ⟨some 47, .call { callee := .value (.func 66), args := #[.tmp 46, .const (.int .i64 1), .const (.int .i64 999)], argTypes := #[3, 3, 3] }, 4, some (44, true)⟩, ⟨some 48, .pick (.tmp 44) (.tmp 47) (.const (.bool false)), 4, none⟩, ⟨some 2, .assign (.tmp 48), 4, none⟩]) (.ret)
@[simp] theorem q_s_l5Hunk_c2_run (c : Ctx) (e : Env) (ks : List Fr) : Run c q_s_l5Hunk_c2 e ks = Run c (.seq (.ops [⟨some 40, .fieldAddr 46 (.tmp 1) 1, 0, none⟩, ⟨some 41, .load 36 (.tmp 40), 36, none⟩, ⟨some 42, .call { callee := .builtin .len, args := #[.tmp 41], argTypes := #[36] }, 3, none⟩, ⟨some 43, .call { callee := .value (.func 66), args := #[.tmp 42, .const (.int .i64 1), .const (.int .i64 30)], argTypes := #[3, 3, 3] }, 4, none⟩, ⟨some 44, .move (.tmp 43), 4, none⟩, ⟨some 45, .fieldAddr 46 (.tmp 1) 0, 0, some (44, true)⟩, ⟨some 46, .load 3 (.tmp 45), 3, some (44, true)⟩, ⟨some 47, .call { callee := .value (.func 66), args := #[.tmp 46, .const (.int .i64 1), .const (.int .i64 999)], argTypes := #[3, 3, 3] }, 4, some (44, true)⟩, ⟨some 48, .pick (.tmp 44) (.tmp 47) (.const (.bool false)), 4, none⟩, ⟨some 2, .assign (.tmp 48), 4, none⟩]) (.ret)) e ks := (rfl)
@[simp] def q_s_l5Hunk : QFn := ⟨49, [(.tmp 2, 4)], .seq (.ops [⟨some 1, .box 46 (.tmp 0), 0, none⟩, ⟨some 2, .assign (.const (.bool false)), 4, none⟩]) (.seq (.seq (.ops [⟨some 3, .assign (.const (.int .i64 0)), 3, none⟩]) (.block 0 (.loop q_s_l5Hunk_l0))) (q_s_l5Hunk_c2))⟩
theorem conv_s_l5Hunk : convF Try.f47 = some q_s_l5Hunk := by kernel_rfl
/-! 48 s_l5Old -/
abbrev fn_s_l5Old : FuncId := 48
def q_s_l5Old_c0 : QCode := .ops [⟨some 11, .move (.tmp 4), 3, none⟩, ⟨some 12, .binOp .add 3 (.tmp 11) (.const (.int .i64 1)) 3, 3, none⟩, ⟨some 4, .assign (.tmp 12), 3, none⟩]
@[simp] theorem q_s_l5Old_c0_run (c : Ctx) (e : Env) (ks : List Fr) : Run c q_s_l5Old_c0 e ks = Run c (.ops [⟨some 11, .move (.tmp 4), 3, none⟩, ⟨some 12, .binOp .add 3 (.tmp 11) (.const (.int .i64 1)) 3, 3, none⟩, ⟨some 4, .assign (.tmp 12), 3, none⟩]) e ks := (rfl)
def q_s_l5Old_c1 : QCode := .seq (.block 1 (.seq (.ops [⟨some 13, .fieldAddr 46 (.tmp 1) 1, 0, none⟩, ⟨some 14, .load 36 (.tmp 13), 36, none⟩, ⟨some 15, .move (.tmp 4), 3, none⟩, ⟨some 16, .indexAddr 36 (.tmp 14) (.tmp 15), 0, none⟩, ⟨some 17, .load 9 (.tmp 16), 9, none⟩, ⟨some 18, .index 9 (.tmp 17) (.const (.int .i64 0)), 5, none⟩, ⟨some 19, .binOp .neq 5 (.tmp 18) (.const (.int .u8 43)) 5, 4, none⟩]) (.cond (.tmp 19) (.ops [⟨some 20, .move (.tmp 3), 36, none⟩, ⟨some 21, .fieldAddr 46 (.tmp 1) 1, 0, none⟩, ⟨some 22, .load 36 (.tmp 21), 36, none⟩, ⟨some 23, .move (.tmp 4), 3, none⟩, ⟨some 24, .indexAddr 36 (.tmp 22) (.tmp 23), 0, none⟩, ⟨some 25, .load 9 (.tmp 24), 9, none⟩, ⟨some 26, .slice 9 (.tmp 25) (some (.const (.int .i64 1))) none none, 9, none⟩, ⟨some 27, .buildSlice 36 1 #[(0, .tmp 26)], 36, none⟩, ⟨some 28, .call { callee := .builtin .append, args := #[.tmp 20, .tmp 27], argTypes := #[36, 36] }, 36, none⟩, ⟨some 3, .assign (.tmp 28), 36, none⟩]) (.skip)))) (q_s_l5Old_c0)
@[simp] theorem q_s_l5Old_c1_run (c : Ctx) (e : Env) (ks : List Fr) : Run c q_s_l5Old_c1 e ks = Run c (.seq (.block 1 (.seq (.ops [⟨some 13, .fieldAddr 46 (.tmp 1) 1, 0, none⟩, ⟨some 14, .load 36 (.tmp 13), 36, none⟩, ⟨some 15, .move (.tmp 4), 3, none⟩, ⟨some 16, .indexAddr 36 (.tmp 14) (.tmp 15), 0, none⟩, ⟨some 17, .load 9 (.tmp 16), 9, none⟩, ⟨some 18, .index 9 (.tmp 17) (.const (.int .i64 0)), 5, none⟩, ⟨some 19, .binOp .neq 5 (.tmp 18) (.const (.int .u8 43)) 5, 4, none⟩]) (.cond (.tmp 19) (.ops [⟨some 20, .move (.tmp 3), 36, none⟩, ⟨some 21, .fieldAddr 46 (.tmp 1) 1, 0, none⟩, ⟨some 22, .load 36 (.tmp 21), 36, none⟩, ⟨some 23, .move (.tmp 4), 3, none⟩, ⟨some 24, .indexAddr 36 (.tmp 22) (.tmp 23), 0, none⟩, ⟨some 25, .load 9 (.tmp 24), 9, none⟩, ⟨some 26, .slice 9 (.tmp 25) (some (.const (.int .i64 1))) none none, 9, none⟩, ⟨some 27, .buildSlice 36 1 #[(0, .tmp 26)], 36, none⟩, ⟨some 28, .call { callee := .builtin .append, args := #[.tmp 20, .tmp 27], argTypes := #[36, 36] }, 36, none⟩, ⟨some 3, .assign (.tmp 28), 36, none⟩]) (.skip)))) (q_s_l5Old_c0)) e ks := (rfl)
def q_s_l5Old_l0 : QCode := .seq (.seq (.ops [⟨some 6, .move (.tmp 4), 3, none⟩, ⟨some 7, .fieldAddr 46 (.tmp 1) 1, 0, none⟩, ⟨some 8, .load 36 (.tmp 7), 36, none⟩, ⟨some 9, .call { callee := .builtin .len, args := #[.tmp 8], argTypes := #[36] }, 3, none⟩, ⟨some 10, .binOp .lss 3 (.tmp 6) (.tmp 9) 3, 4, none⟩]) (.cond (.tmp 10) (.skip) (.exit 0))) (q_s_l5Old_c1)
@[simp] theorem q_s_l5Old_l0_run (c : Ctx) (e : Env) (ks : List Fr) : Run c q_s_l5Old_l0 e ks = Run c (.seq (.seq (.ops [⟨some 6, .move (.tmp 4), 3, none⟩, ⟨some 7, .fieldAddr 46 (.tmp 1) 1, 0, none⟩, ⟨some 8, .load 36 (.tmp 7), 36, none⟩, ⟨some 9, .call { callee := .builtin .len, args := #[.tmp 8], argTypes := #[36] }, 3, none⟩, ⟨some 10, .binOp .lss 3 (.tmp 6) (.tmp 9) 3, 4, none⟩]) (.cond (.tmp 10) (.skip) (.exit 0))) (q_s_l5Old_c1)) e ks := (rfl)
def q_s_l5Old_c2 : QCode := .seq (.ops [⟨some 29, .move (.tmp 3), 36, none⟩, ⟨some 2, .assign (.tmp 29), 36, none⟩]) (.ret)
@[simp] theorem q_s_l5Old_c2_run (c : Ctx) (e : Env) (ks : List Fr) : Run c q_s_l5Old_c2 e ks = Run c (.seq (.ops [⟨some 29, .move (.tmp 3), 36, none⟩, ⟨some 2, .assign (.tmp 29), 36, none⟩]) (.ret)) e ks := (rfl)
@[simp] def q_s_l5Old : QFn := ⟨30, [(.tmp 2, 36)], .seq (.ops [⟨some 1, .box 46 (.tmp 0), 0, none⟩, ⟨some 2, .assign (.const (.slice none 0 0)), 36, none⟩]) (.seq (.ops [⟨some 5, .buildSlice 36 0 #[], 36, none⟩, ⟨some 3, .assign (.tmp 5), 36, none⟩]) (.seq (.seq (.ops [⟨some 4, .assign (.const (.int .i64 0)), 3, none⟩]) (.block 0 (.loop q_s_l5Old_l0))) (q_s_l5Old_c2)))⟩
theorem conv_s_l5Old : convF Try.f48 = some q_s_l5Old := by kernel_rfl
/-! 49 w_toHunk -/
abbrev fn_w_toHunk : FuncId := 49
@[simp] def q_w_toHunk : QFn := ⟨12, [(.cell 2 46, 46)], .seq (.ops [⟨some 1, .box 68 (.tmp 0), 0, none⟩, ⟨some 2, .alloc 46, 0, none⟩]) (.seq (.ops [⟨some 3, .alloc 46, 0, none⟩]) (.seq (.ops [⟨some 4, .fieldAddr 68 (.tmp 1) 0, 0, none⟩, ⟨some 5, .load 3 (.tmp 4), 3, none⟩, ⟨some 6, .fieldAddr 46 (.tmp 3) 0, 0, none⟩, ⟨none, .store 3 (.tmp 6) (.tmp 5), 0, none⟩]) (.seq (.ops [⟨some 7, .fieldAddr 68 (.tmp 1) 1, 0, none⟩, ⟨some 8, .load 36 (.tmp 7), 36, none⟩, ⟨some 9, .call { callee := .value (.func 21), args := #[.tmp 8], argTypes := #[36] }, 36, none⟩, ⟨some 10, .fieldAddr 46 (.tmp 3) 1, 0, none⟩, ⟨none, .store 36 (.tmp 10) (.tmp 9), 0, none⟩]) (.seq (.ops [⟨some 11, .load 46 (.tmp 3), 46, none⟩, ⟨none, .store 46 (.tmp 2) (.tmp 11), 0, none⟩]) (.ret)))))⟩
theorem conv_w_toHunk : convF Try.f49 = some q_w_toHunk := by kernel_rfl
/-! 50 i_all_string -/
abbrev fn_i_all_string : FuncId := 50
def q_i_all_string_c0 : QCode := .ops [⟨some 17, .binOp .add 3 (.tmp 9) (.const (.int .i64 1)) 3, 3, none⟩, ⟨some 9, .move (.tmp 17), 3, none⟩]
@[simp] theorem q_i_all_string_c0_run (c : Ctx) (e : Env) (ks : List Fr) : Run c q_i_all_string_c0 e ks = Run c (.ops [⟨some 17, .binOp .add 3 (.tmp 9) (.const (.int .i64 1)) 3, 3, none⟩, ⟨some 9, .move (.tmp 17), 3, none⟩]) e ks := (rfl)
def q_i_all_string_c1 : QCode := .seq (.block 1 (.seq (.ops [⟨some 11, .indexAddr 36 (.tmp 7) (.tmp 9), 0, none⟩, ⟨some 12, .load 9 (.tmp 11), 9, none⟩, ⟨some 6, .assign (.tmp 12), 9, none⟩]) (.seq (.ops [⟨some 13, .move (.tmp 1), 58, none⟩, ⟨some 14, .move (.tmp 6), 9, none⟩, ⟨some 15, .call { callee := .value (.tmp 13), args := #[.tmp 14], argTypes := #[9] }, 4, none⟩, ⟨some 16, .unOp .not 4 (.tmp 15), 4, none⟩]) (.cond (.tmp 16) (.seq (.ops [⟨some 4, .assign (.const (.bool false)), 4, none⟩]) (.ret)) (.skip))))) (q_i_all_string_c0)
@[simp] theorem q_i_all_string_c1_run (c : Ctx) (e : Env) (ks : List Fr) : Run c q_i_all_string_c1 e ks = Run c (.seq (.block 1 (.seq (.ops [⟨some 11, .indexAddr 36 (.tmp 7) (.tmp 9), 0, none⟩, ⟨some 12, .load 9 (.tmp 11), 9, none⟩, ⟨some 6, .assign (.tmp 12), 9, none⟩]) (.seq (.ops [⟨some 13, .move (.tmp 1), 58, none⟩, ⟨some 14, .move (.tmp 6), 9, none⟩, ⟨some 15, .call { callee := .value (.tmp 13), args := #[.tmp 14], argTypes := #[9] }, 4, none⟩, ⟨some 16, .unOp .not 4 (.tmp 15), 4, none⟩]) (.cond (.tmp 16) (.seq (.ops [⟨some 4, .assign (.const (.bool false)), 4, none⟩]) (.ret)) (.skip))))) (q_i_all_string_c0)) e ks := (rfl)
def q_i_all_string_l0 : QCode := .seq (.ops [⟨some 10, .binOp .lss 3 (.tmp 9) (.tmp 8) 3, 0, none⟩]) (.seq (.cond (.tmp 10) (.skip) (.exit 0)) (q_i_all_string_c1))
@[simp] theorem q_i_all_string_l0_run (c : Ctx) (e : Env) (ks : List Fr) : Run c q_i_all_string_l0 e ks = Run c (.seq (.ops [⟨some 10, .binOp .lss 3 (.tmp 9) (.tmp 8) 3, 0, none⟩]) (.seq (.cond (.tmp 10) (.skip) (.exit 0)) (q_i_all_string_c1))) e ks := (rfl)
def q_i_all_string_c2 : QCode := .seq (.ops [⟨some 4, .assign (.const (.bool true)), 4, none⟩]) (.ret)
@[simp] theorem q_i_all_string_c2_run (c : Ctx) (e : Env) (ks : List Fr) : Run c q_i_all_string_c2 e ks = Run c (.seq (.ops [⟨some 4, .assign (.const (.bool true)), 4, none⟩]) (.ret)) e ks := (rfl)
@[simp] def q_i_all_string : QFn := ⟨18, [(.tmp 4, 4)], .seq (.ops [⟨some 4, .assign (.const (.bool false)), 4, none⟩]) (.seq (.seq (.ops [⟨some 7, .move (.tmp 0), 36, none⟩, ⟨some 8, .call { callee := .builtin .len, args := #[.tmp 7], argTypes := #[36] }, 3, none⟩, ⟨some 9, .move (.const (.int .i64 0)), 3, none⟩]) (.block 0 (.loop q_i_all_string_l0))) (q_i_all_string_c2))⟩
theorem conv_i_all_string : convF Try.f50 = some q_i_all_string := by kernel_rfl
/-! 51 i_hunkLineOk -/
abbrev fn_i_hunkLineOk : FuncId := 51
@[simp] def q_i_hunkLineOk : QFn := ⟨25, [(.tmp 2, 4)], .seq (.ops [⟨some 2, .assign (.const (.bool false)), 4, none⟩]) (.seq (.ops [⟨some 3, .move (.tmp 0), 9, none⟩, ⟨some 4, .binOp .neq 9 (.tmp 3) (.const (.string { data := #[] })) 9, 4, none⟩, ⟨some 5, .move (.tmp 4), 4, none⟩, ⟨some 6, .move (.tmp 0), 9, some (5, true)⟩, ⟨some 7, .index 9 (.tmp 6) (.const (.int .i64 0)), 5, some (5, true)⟩, ⟨some 8, .binOp .eql 5 (.tmp 7) (.const (.int .u8 32)) 5, 4, some (5, true)⟩, ⟨some 9, .move (.tmp 8), 4, some (5, true)⟩, ⟨some 10, .move (.tmp 0), 9, some (9, false)⟩, ⟨some 11, .index 9 (.tmp 10) (.const (.int .i64 0)), 5, some (9, false)⟩, ⟨some 12, .binOp .eql 5 (.tmp 11) (.const (.int .u8 45)) 5, 4, some (9, false)⟩, ⟨some 13, .pick (.tmp 9) (.const (.bool true)) (.tmp 12), 4, some (5, true)⟩, ⟨some 14, .move (.tmp 13), 4, some (5, true)⟩, ⟨some 15, .move (.tmp 0), 9, some (14, false)⟩, ⟨some 16, .index 9 (.tmp 15) (.const (.int .i64 0)), 5, some (14, false)⟩, ⟨some 17, .binOp .eql 5 (.tmp 16) (.const (.int .u8 43)) 5, 4, some (14, false)⟩, ⟨some 18, .pick (.tmp 14) (.const (.bool true)) (.tmp 17), 4, some (5, true)⟩, ⟨some 19, .pick (.tmp 5) (.tmp 18) (.const (.bool false)), 4, none⟩, ⟨some 20, .move (.tmp 19), 4, none⟩, ⟨some 21, .move (.tmp 0), 9, some (20, true)⟩, ⟨some 22, .slice 9 (.tmp 21) (some (.const (.int .i64 1))) none none, 9, some (20, true)⟩, ⟨some 23, .call { callee := .value (.func 74), args := #[.tmp 22], argTypes := #[9] }, 4, some (20, true)⟩, ⟨some 24, .pick (.tmp 20) (.tmp 23) (.const (.bool false)), 4, none⟩, ⟨some 2, .assign (.tmp 24), 4, none⟩]) (.ret))⟩
theorem conv_i_hunkLineOk : convF Try.f51 = some q_i_hunkLineOk := by kernel_rfl
/-! 52 i_sides -/
abbrev fn_i_sides : FuncId := 52
def q_i_sides_c0 : QCode := .seq (.ops [⟨some 22, .move (.tmp 7), 9, none⟩, ⟨some 23, .index 9 (.tmp 22) (.const (.int .i64 0)), 5, none⟩, ⟨some 24, .binOp .neq 5 (.tmp 23) (.const (.int .u8 45)) 5, 4, none⟩]) (.cond (.tmp 24) (.ops [⟨some 25, .move (.tmp 5), 36, none⟩, ⟨some 26, .move (.tmp 7), 9, none⟩, ⟨some 27, .slice 9 (.tmp 26) (some (.const (.int .i64 1))) none none, 9, none⟩, ⟨some 28, .buildSlice 36 1 #[(0, .tmp 27)], 36, none⟩, ⟨some 29, .call { callee := .builtin .append, args := #[.tmp 25, .tmp 28], argTypes := #[36, 36] }, 36, none⟩, ⟨some 5, .assign (.tmp 29), 36, none⟩]) (.skip))
@[simp] theorem q_i_sides_c0_run (c : Ctx) (e : Env) (ks : List Fr) : Run c q_i_sides_c0 e ks = Run c (.seq (.ops [⟨some 22, .move (.tmp 7), 9, none⟩, ⟨some 23, .index 9 (.tmp 22) (.const (.int .i64 0)), 5, none⟩, ⟨some 24, .binOp .neq 5 (.tmp 23) (.const (.int .u8 45)) 5, 4, none⟩]) (.cond (.tmp 24) (.ops [⟨some 25, .move (.tmp 5), 36, none⟩, ⟨some 26, .move (.tmp 7), 9, none⟩, ⟨some 27, .slice 9 (.tmp 26) (some (.const (.int .i64 1))) none none, 9, none⟩, ⟨some 28, .buildSlice 36 1 #[(0, .tmp 27)], 36, none⟩, ⟨some 29, .call { callee := .builtin .append, args := #[.tmp 25, .tmp 28], argTypes := #[36, 36] }, 36, none⟩, ⟨some 5, .assign (.tmp 29), 36, none⟩]) (.skip))) e ks := (rfl)
def q_i_sides_c1 : QCode := .ops [⟨some 30, .binOp .add 3 (.tmp 10) (.const (.int .i64 1)) 3, 3, none⟩, ⟨some 10, .move (.tmp 30), 3, none⟩]
@[simp] theorem q_i_sides_c1_run (c : Ctx) (e : Env) (ks : List Fr) : Run c q_i_sides_c1 e ks = Run c (.ops [⟨some 30, .binOp .add 3 (.tmp 10) (.const (.int .i64 1)) 3, 3, none⟩, ⟨some 10, .move (.tmp 30), 3, none⟩]) e ks := (rfl)
def q_i_sides_c2 : QCode := .seq (.block 1 (.seq (.ops [⟨some 12, .indexAddr 36 (.tmp 8) (.tmp 10), 0, none⟩, ⟨some 13, .load 9 (.tmp 12), 9, none⟩, ⟨some 7, .assign (.tmp 13), 9, none⟩]) (.seq (.seq (.ops [⟨some 14, .move (.tmp 7), 9, none⟩, ⟨some 15, .index 9 (.tmp 14) (.const (.int .i64 0)), 5, none⟩, ⟨some 16, .binOp .neq 5 (.tmp 15) (.const (.int .u8 43)) 5, 4, none⟩]) (.cond (.tmp 16) (.ops [⟨some 17, .move (.tmp 4), 36, none⟩, ⟨some 18, .move (.tmp 7), 9, none⟩, ⟨some 19, .slice 9 (.tmp 18) (some (.const (.int .i64 1))) none none, 9, none⟩, ⟨some 20, .buildSlice 36 1 #[(0, .tmp 19)], 36, none⟩, ⟨some 21, .call { callee := .builtin .append, args := #[.tmp 17, .tmp 20], argTypes := #[36, 36] }, 36, none⟩, ⟨some 4, .assign (.tmp 21), 36, none⟩]) (.skip))) (q_i_sides_c0)))) (q_i_sides_c1)
@[simp] theorem q_i_sides_c2_run (c : Ctx) (e : Env) (ks : List Fr) : Run c q_i_sides_c2 e ks = Run c (.seq (.block 1 (.seq (.ops [⟨some 12, .indexAddr 36 (.tmp 8) (.tmp 10), 0, none⟩, ⟨some 13, .load 9 (.tmp 12), 9, none⟩, ⟨some 7, .assign (.tmp 13), 9, none⟩]) (.seq (.seq (.ops [⟨some 14, .move (.tmp 7), 9, none⟩, ⟨some 15, .index 9 (.tmp 14) (.const (.int .i64 0)), 5, none⟩, ⟨some 16, .binOp .neq 5 (.tmp 15) (.const (.int .u8 43)) 5, 4, none⟩]) (.cond (.tmp 16) (.ops [⟨some 17, .move (.tmp 4), 36, none⟩, ⟨some 18, .move (.tmp 7), 9, none⟩, ⟨some 19, .slice 9 (.tmp 18) (some (.const (.int .i64 1))) none none, 9, none⟩, ⟨some 20, .buildSlice 36 1 #[(0, .tmp 19)], 36, none⟩, ⟨some 21, .call { callee := .builtin .append, args := #[.tmp 17, .tmp 20], argTypes := #[36, 36] }, 36, none⟩, ⟨some 4, .assign (.tmp 21), 36, none⟩]) (.skip))) (q_i_sides_c0)))) (q_i_sides_c1)) e ks := (rfl)
def q_i_sides_l0 : QCode := .seq (.ops [⟨some 11, .binOp .lss 3 (.tmp 10) (.tmp 9) 3, 0, none⟩]) (.seq (.cond (.tmp 11) (.skip) (.exit 0)) (q_i_sides_c2))
@[simp] theorem q_i_sides_l0_run (c : Ctx) (e : Env) (ks : List Fr) : Run c q_i_sides_l0 e ks = Run c (.seq (.ops [⟨some 11, .binOp .lss 3 (.tmp 10) (.tmp 9) 3, 0, none⟩]) (.seq (.cond (.tmp 11) (.skip) (.exit 0)) (q_i_sides_c2))) e ks := (rfl)
def q_i_sides_c3 : QCode := .seq (.ops [⟨some 31, .move (.tmp 4), 36, none⟩, ⟨some 32, .move (.tmp 5), 36, none⟩, ⟨some 2, .assign (.tmp 31), 36, none⟩, ⟨some 3, .assign (.tmp 32), 36, none⟩]) (.ret)
@[simp] theorem q_i_sides_c3_run (c : Ctx) (e : Env) (ks : List Fr) : Run c q_i_sides_c3 e ks = Run c (.seq (.ops [⟨some 31, .move (.tmp 4), 36, none⟩, ⟨some 32, .move (.tmp 5), 36, none⟩, ⟨some 2, .assign (.tmp 31), 36, none⟩, ⟨some 3, .assign (.tmp 32), 36, none⟩]) (.ret)) e ks := (rfl)
@[simp] def q_i_sides : QFn := ⟨33, [(.tmp 2, 36), (.tmp 3, 36)], .seq (.ops [⟨some 2, .assign (.const (.slice none 0 0)), 36, none⟩, ⟨some 3, .assign (.const (.slice none 0 0)), 36, none⟩]) (.seq (.ops [⟨some 4, .assign (.const (.slice none 0 0)), 36, none⟩, ⟨some 5, .assign (.const (.slice none 0 0)), 36, none⟩]) (.seq (.seq (.ops [⟨some 8, .move (.tmp 0), 36, none⟩, ⟨some 9, .call { callee := .builtin .len, args := #[.tmp 8], argTypes := #[36] }, 3, none⟩, ⟨some 10, .move (.const (.int .i64 0)), 3, none⟩]) (.block 0 (.loop q_i_sides_l0))) (q_i_sides_c3)))⟩
theorem conv_i_sides : convF Try.f52 = some q_i_sides := by kernel_rfl
/-! 53 w_eqHunk -/
abbrev fn_w_eqHunk : FuncId := 53
def q_w_eqHunk_c0 : QCode := .seq (.ops [⟨some 4, .assign (.const (.bool true)), 4, none⟩]) (.ret)
@[simp] theorem q_w_eqHunk_c0_run (c : Ctx) (e : Env) (ks : List Fr) : Run c q_w_eqHunk_c0 e ks = Run c (.seq (.ops [⟨some 4, .assign (.const (.bool true)), 4, none⟩]) (.ret)) e ks := (rfl)
def q_w_eqHunk_c1 : QCode := .seq (.seq (.ops [⟨some 10, .fieldAddr 46 (.tmp 2) 1, 0, none⟩, ⟨some 11, .load 36 (.tmp 10), 36, none⟩, ⟨some 12, .fieldAddr 46 (.tmp 3) 1, 0, none⟩, ⟨some 13, .load 36 (.tmp 12), 36, none⟩, ⟨some 14, .call { callee := .value (.func 23), args := #[.tmp 11, .tmp 13], argTypes := #[36, 36] }, 4, none⟩, ⟨some 15, .unOp .not 4 (.tmp 14), 4, none⟩]) (.cond (.tmp 15) (.seq (.ops [⟨some 4, .assign (.const (.bool false)), 4, none⟩]) (.ret)) (.skip))) (q_w_eqHunk_c0)
@[simp] theorem q_w_eqHunk_c1_run (c : Ctx) (e : Env) (ks : List Fr) : Run c q_w_eqHunk_c1 e ks = Run c (.seq (.seq (.ops [⟨some 10, .fieldAddr 46 (.tmp 2) 1, 0, none⟩, ⟨some 11, .load 36 (.tmp 10), 36, none⟩, ⟨some 12, .fieldAddr 46 (.tmp 3) 1, 0, none⟩, ⟨some 13, .load 36 (.tmp 12), 36, none⟩, ⟨some 14, .call { callee := .value (.func 23), args := #[.tmp 11, .tmp 13], argTypes := #[36, 36] }, 4, none⟩, ⟨some 15, .unOp .not 4 (.tmp 14), 4, none⟩]) (.cond (.tmp 15) (.seq (.ops [⟨some 4, .assign (.const (.bool false)), 4, none⟩]) (.ret)) (.skip))) (q_w_eqHunk_c0)) e ks := (rfl)
@[simp] def q_w_eqHunk : QFn := ⟨16, [(.tmp 4, 4)], .seq (.ops [⟨some 2, .box 46 (.tmp 0), 0, none⟩, ⟨some 3, .box 46 (.tmp 1), 0, none⟩, ⟨some 4, .assign (.const (.bool false)), 4, none⟩]) (.seq (.seq (.ops [⟨some 5, .fieldAddr 46 (.tmp 2) 0, 0, none⟩, ⟨some 6, .load 3 (.tmp 5), 3, none⟩, ⟨some 7, .fieldAddr 46 (.tmp 3) 0, 0, none⟩, ⟨some 8, .load 3 (.tmp 7), 3, none⟩, ⟨some 9, .binOp .neq 3 (.tmp 6) (.tmp 8) 3, 4, none⟩]) (.cond (.tmp 9) (.seq (.ops [⟨some 4, .assign (.const (.bool false)), 4, none⟩]) (.ret)) (.skip))) (q_w_eqHunk_c1))⟩
theorem conv_w_eqHunk : convF Try.f53 = some q_w_eqHunk := by kernel_rfl
/-! 66 s_l1In -/
abbrev fn_s_l1In : FuncId := 66
@[simp] def q_s_l1In : QFn := ⟨15, [(.tmp 6, 4)], .seq (.ops [⟨some 6, .assign (.const (.bool false)), 4, none⟩]) (.seq (.ops [⟨some 7, .move (.tmp 0), 3, none⟩, ⟨some 8, .move (.tmp 1), 3, none⟩, ⟨some 9, .binOp .geq 3 (.tmp 7) (.tmp 8) 3, 4, none⟩, ⟨some 10, .move (.tmp 9), 4, none⟩, ⟨some 11, .move (.tmp 0), 3, some (10, true)⟩, ⟨some 12, .move (.tmp 2), 3, some (10, true)⟩, ⟨some 13, .binOp .leq 3 (.tmp 11) (.tmp 12) 3, 4, some (10, true)⟩, ⟨some 14, .pick (.tmp 10) (.tmp 13) (.const (.bool false)), 4, none⟩, ⟨some 6, .assign (.tmp 14), 4, none⟩]) (.ret))⟩
theorem conv_s_l1In : convF Try.f66 = some q_s_l1In := by kernel_rfl
/-! 73 s_l5Seen -/
abbrev fn_s_l5Seen : FuncId := 73
def q_s_l5Seen_c0 : QCode := .ops [⟨some 8, .move (.tmp 3), 3, none⟩, ⟨some 9, .binOp .add 3 (.tmp 8) (.const (.int .i64 1)) 3, 3, none⟩, ⟨some 3, .assign (.tmp 9), 3, none⟩]
@[simp] theorem q_s_l5Seen_c0_run (c : Ctx) (e : Env) (ks : List Fr) : Run c q_s_l5Seen_c0 e ks = Run c (.ops [⟨some 8, .move (.tmp 3), 3, none⟩, ⟨some 9, .binOp .add 3 (.tmp 8) (.const (.int .i64 1)) 3, 3, none⟩, ⟨some 3, .assign (.tmp 9), 3, none⟩]) e ks := (rfl)
def q_s_l5Seen_c1 : QCode := .seq (.block 1 (.seq (.ops [⟨some 10, .move (.tmp 0), 9, none⟩, ⟨some 11, .move (.tmp 3), 3, none⟩, ⟨some 12, .index 9 (.tmp 10) (.tmp 11), 5, none⟩, ⟨some 13, .convert 5 3 (.tmp 12), 3, none⟩, ⟨some 14, .call { callee := .value (.func 66), args := #[.tmp 13, .const (.int .i64 32), .const (.int .i64 126)], argTypes := #[3, 3, 3] }, 4, none⟩, ⟨some 15, .unOp .not 4 (.tmp 14), 4, none⟩]) (.cond (.tmp 15) (.seq (.ops [⟨some 2, .assign (.const (.bool false)), 4, none⟩]) (.ret)) (.skip)))) (q_s_l5Seen_c0)
@[simp] theorem q_s_l5Seen_c1_run (c : Ctx) (e : Env) (ks : List Fr) : Run c q_s_l5Seen_c1 e ks = Run c (.seq (.block 1 (.seq (.ops [⟨some 10, .move (.tmp 0), 9, none⟩, ⟨some 11, .move (.tmp 3), 3, none⟩, ⟨some 12, .index 9 (.tmp 10) (.tmp 11), 5, none⟩, ⟨some 13, .convert 5 3 (.tmp 12), 3, none⟩, ⟨some 14, .call { callee := .value (.func 66), args := #[.tmp 13, .const (.int .i64 32), .const (.int .i64 126)], argTypes := #[3, 3, 3] }, 4, none⟩, ⟨some 15, .unOp .not 4 (.tmp 14), 4, none⟩]) (.cond (.tmp 15) (.seq (.ops [⟨some 2, .assign (.const (.bool false)), 4, none⟩]) (.ret)) (.skip)))) (q_s_l5Seen_c0)) e ks := (rfl)
def q_s_l5Seen_l0 : QCode := .seq (.seq (.ops [⟨some 4, .move (.tmp 3), 3, none⟩, ⟨some 5, .move (.tmp 0), 9, none⟩, ⟨some 6, .call { callee := .builtin .len, args := #[.tmp 5], argTypes := #[9] }, 3, none⟩, ⟨some 7, .binOp .lss 3 (.tmp 4) (.tmp 6) 3, 4, none⟩]) (.cond (.tmp 7) (.skip) (.exit 0))) (q_s_l5Seen_c1)
@[simp] theorem q_s_l5Seen_l0_run (c : Ctx) (e : Env) (ks : List Fr) : Run c q_s_l5Seen_l0 e ks = Run c (.seq (.seq (.ops [⟨some 4, .move (.tmp 3), 3, none⟩, ⟨some 5, .move (.tmp 0), 9, none⟩, ⟨some 6, .call { callee := .builtin .len, args := #[.tmp 5], argTypes := #[9] }, 3, none⟩, ⟨some 7, .binOp .lss 3 (.tmp 4) (.tmp 6) 3, 4, none⟩]) (.cond (.tmp 7) (.skip) (.exit 0))) (q_s_l5Seen_c1)) e ks := (rfl)
def q_s_l5Seen_c2 : QCode := .seq (.ops [⟨some 16, .move (.tmp 0), 9, none⟩, ⟨some 17, .call { callee := .builtin .len, args := #[.tmp 16], argTypes := #[9] }, 3, none⟩, ⟨some 18, .binOp .leq 3 (.tmp 17) (.const (.int .i64 80)) 3, 4, none⟩, ⟨some 2, .assign (.tmp 18), 4, none⟩]) (.ret)
@[simp] theorem q_s_l5Seen_c2_run (c : Ctx) (e : Env) (ks : List Fr) : Run c q_s_l5Seen_c2 e ks = Run c (.seq (.ops [⟨some 16, .move (.tmp 0), 9, none⟩, ⟨some 17, .call { callee := .builtin .len, args := #[.tmp 16], argTypes := #[9] }, 3, none⟩, ⟨some 18, .binOp .leq 3 (.tmp 17) (.const (.int .i64 80)) 3, 4, none⟩, ⟨some 2, .assign (.tmp 18), 4, none⟩]) (.ret)) e ks := (rfl)
@[simp] def q_s_l5Seen : QFn := ⟨19, [(.tmp 2, 4)], .seq (.ops [⟨some 2, .assign (.const (.bool false)), 4, none⟩]) (.seq (.seq (.ops [⟨some 3, .assign (.const (.int .i64 0)), 3, none⟩]) (.block 0 (.loop q_s_l5Seen_l0))) (q_s_l5Seen_c2))⟩
theorem conv_s_l5Seen : convF Try.f73 = some q_s_l5Seen := by kernel_rfl
/-! 74 i_plainText -/
abbrev fn_i_plainText : FuncId := 74
def q_i_plainText_c0 : QCode := .ops [⟨some 17, .binOp .add 3 (.tmp 9) (.const (.int .i64 1)) 3, 3, none⟩, ⟨some 9, .move (.tmp 17), 3, none⟩]
@[simp] theorem q_i_plainText_c0_run (c : Ctx) (e : Env) (ks : List Fr) : Run c q_i_plainText_c0 e ks = Run c (.ops [⟨some 17, .binOp .add 3 (.tmp 9) (.const (.int .i64 1)) 3, 3, none⟩, ⟨some 9, .move (.tmp 17), 3, none⟩]) e ks := (rfl)
def q_i_plainText_c1 : QCode := .seq (.block 1 (.seq (.ops [⟨some 11, .move (.tmp 9), 3, none⟩, ⟨some 3, .assign (.tmp 11), 3, none⟩]) (.seq (.ops [⟨some 12, .move (.tmp 0), 9, none⟩, ⟨some 13, .move (.tmp 3), 3, none⟩, ⟨some 14, .index 9 (.tmp 12) (.tmp 13), 5, none⟩, ⟨some 15, .call { callee := .value (.func 80), args := #[.tmp 14], argTypes := #[5] }, 4, none⟩, ⟨some 16, .unOp .not 4 (.tmp 15), 4, none⟩]) (.cond (.tmp 16) (.seq (.ops [⟨some 2, .assign (.const (.bool false)), 4, none⟩]) (.ret)) (.skip))))) (q_i_plainText_c0)
@[simp] theorem q_i_plainText_c1_run (c : Ctx) (e : Env) (ks : List Fr) : Run c q_i_plainText_c1 e ks = Run c (.seq (.block 1 (.seq (.ops [⟨some 11, .move (.tmp 9), 3, none⟩, ⟨some 3, .assign (.tmp 11), 3, none⟩]) (.seq (.ops [⟨some 12, .move (.tmp 0), 9, none⟩, ⟨some 13, .move (.tmp 3), 3, none⟩, ⟨some 14, .index 9 (.tmp 12) (.tmp 13), 5, none⟩, ⟨some 15, .call { callee := .value (.func 80), args := #[.tmp 14], argTypes := #[5] }, 4, none⟩, ⟨some 16, .unOp .not 4 (.tmp 15), 4, none⟩]) (.cond (.tmp 16) (.seq (.ops [⟨some 2, .assign (.const (.bool false)), 4, none⟩]) (.ret)) (.skip))))) (q_i_plainText_c0)) e ks := (rfl)
def q_i_plainText_l0 : QCode := .seq (.ops [⟨some 10, .binOp .lss 3 (.tmp 9) (.tmp 8) 3, 4, none⟩]) (.seq (.cond (.tmp 10) (.skip) (.exit 0)) (q_i_plainText_c1))
@[simp] theorem q_i_plainText_l0_run (c : Ctx) (e : Env) (ks : List Fr) : Run c q_i_plainText_l0 e ks = Run c (.seq (.ops [⟨some 10, .binOp .lss 3 (.tmp 9) (.tmp 8) 3, 4, none⟩]) (.seq (.cond (.tmp 10) (.skip) (.exit 0)) (q_i_plainText_c1))) e ks := (rfl)
def q_i_plainText_c2 : QCode := .seq (.ops [⟨some 2, .assign (.const (.bool true)), 4, none⟩]) (.ret)
@[simp] theorem q_i_plainText_c2_run (c : Ctx) (e : Env) (ks : List Fr) : Run c q_i_plainText_c2 e ks = Run c (.seq (.ops [⟨some 2, .assign (.const (.bool true)), 4, none⟩]) (.ret)) e ks := (rfl)
def q_i_plainText_c3 : QCode := .seq (.seq (.ops [⟨some 7, .move (.tmp 0), 9, none⟩, ⟨some 8, .call { callee := .builtin .len, args := #[.tmp 7], argTypes := #[9] }, 3, none⟩, ⟨some 9, .move (.const (.int .i64 0)), 3, none⟩]) (.block 0 (.loop q_i_plainText_l0))) (q_i_plainText_c2)
@[simp] theorem q_i_plainText_c3_run (c : Ctx) (e : Env) (ks : List Fr) : Run c q_i_plainText_c3 e ks = Run c (.seq (.seq (.ops [⟨some 7, .move (.tmp 0), 9, none⟩, ⟨some 8, .call { callee := .builtin .len, args := #[.tmp 7], argTypes := #[9] }, 3, none⟩, ⟨some 9, .move (.const (.int .i64 0)), 3, none⟩]) (.block 0 (.loop q_i_plainText_l0))) (q_i_plainText_c2)) e ks := (rfl)
@[simp] def q_i_plainText : QFn := ⟨18, [(.tmp 2, 4)], .seq (.ops [⟨some 2, .assign (.const (.bool false)), 4, none⟩]) (.seq (.seq (.ops [⟨some 4, .move (.tmp 0), 9, none⟩, ⟨some 5, .call { callee := .builtin .len, args := #[.tmp 4], argTypes := #[9] }, 3, none⟩, ⟨some 6, .binOp .gtr 3 (.tmp 5) (.const (.int .i64 80)) 3, 4, none⟩]) (.cond (.tmp 6) (.seq (.ops [⟨some 2, .assign (.const (.bool false)), 4, none⟩]) (.ret)) (.skip))) (q_i_plainText_c3))⟩
theorem conv_i_plainText : convF Try.f74 = some q_i_plainText := by kernel_rfl
/-! 80 i_plainByte -/
abbrev fn_i_plainByte : FuncId := 80
@[simp] def q_i_plainByte : QFn := ⟨9, [(.tmp 2, 4)], .seq (.ops [⟨some 2, .assign (.const (.bool false)), 4, none⟩]) (.seq (.ops [⟨some 3, .move (.tmp 0), 5, none⟩, ⟨some 4, .binOp .geq 5 (.tmp 3) (.const (.int .u8 32)) 5, 4, none⟩, ⟨some 5, .move (.tmp 4), 4, none⟩, ⟨some 6, .move (.tmp 0), 5, some (5, true)⟩, ⟨some 7, .binOp .leq 5 (.tmp 6) (.const (.int .u8 126)) 5, 4, some (5, true)⟩, ⟨some 8, .pick (.tmp 5) (.tmp 7) (.const (.bool false)), 4, none⟩, ⟨some 2, .assign (.tmp 8), 4, none⟩]) (.ret))⟩
theorem conv_i_plainByte : convF Try.f80 = some q_i_plainByte := by kernel_rfl
end Go.Qz
