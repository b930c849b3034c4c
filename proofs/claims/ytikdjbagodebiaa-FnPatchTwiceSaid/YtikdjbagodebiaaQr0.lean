/- The evaluator of the claim and what it says, part Qr0 (several texts in one). -/
import Derived.Test.YtikdjbagodebiaaQo0
import Derived.Test.YtikdjbagodebiaaQg0
import Derived.WalkKit
import Derived.Lib.Walk
import Derived.Lib.Overlaps
import Derived.Laws.Externs
import Derived.Shelf.RegionOpenPlain
import Derived.Shelf.Spec.SlicesInsert
/- slices.Insert at strings, walked. -/
namespace Go.Qz
open Go.Proofs Go.RowKit Go.Lib

theorem ins_info : ∃ i, Try.prog.info? 9 = some i ∧ i.zero = some (.string ⟨#[]⟩) ∧ i.size = 1 ∧ i.bytes = 16 := info_parts (by kernel_rfl)
theorem ins_mixed : Try.prog.follows .mixedOrders = true := by kernel_rfl

set_option maxHeartbeats 4000000 in
set_option maxRecDepth 100000 in
/-- Nothing is inserted. -/
theorem ins_none (a : Option Addr) (n c i : Nat) (hi : i ≤ n) (_ : n ≤ c) (_ : a = none → n = 0 ∧ c = 0) (x : Value) (w : World) (hx : ∃ vb vc, x = .slice vb 0 vc) :
    Calls Try.prog 54 #[.slice a n c, .int .i64 i, x] w fun en w' => en = .returned (.slice a n c) ∧ w' = w := by
  obtain ⟨vb, vc, rfl⟩ := hx
  have u23 := Try.underlying23
  have hin : (i : Int) ≤ n := by omega
  have hc0 : (0 : Int) ≤ i := by omega
  go_enter Try.func54, Try.ntmps54
  go_wp2
  all_goals go_ret
  all_goals exact ⟨rfl, rfl⟩

set_option maxHeartbeats 4000000 in
set_option maxRecDepth 100000 in
theorem ins_end (a : Option Addr) (n c m vc : Nat) (va : Option Addr) (hm : 0 < m) (w w' : World) (v : Value)
    (hr : ∀ ty, (Builtin.append_ #[23, 23] ty #[.slice a n c, .slice va m vc]).run Try.prog w = .ok v w') (_ : n ≤ c) :
    Calls Try.prog 54 #[.slice a n c, .int .i64 n, .slice va m vc] w fun en w1 => en = .returned v ∧ w1 = w' := by
  have u23 := Try.underlying23
  have hm0 : ¬ ((m : Int) = 0) := by omega
  go_enter Try.func54, Try.ntmps54
  go_wp2_with (at_builtin; refine Lib.wpList_append_run _ rfl _ _ _ _ rfl _ _ rfl rfl _ _ (hr _) ?_)
  all_goals go_ret
  all_goals exact ⟨rfl, rfl⟩

set_option maxHeartbeats 4000000 in
set_option maxRecDepth 100000 in
/-- There is no room: a new row. -/
theorem ins_grow (b n c i m vc : Nat) (va : Option Addr) (hi : i < n) (hm : 0 < m) (hn : n ≤ c) (hc : c < n + m) (hc63 : n + m ≤ 140737488355328) (w w1 w2 w3 : World) (b' c' : Nat) (hc' : n + m ≤ c')
    (h1 : ∀ ty, (Builtin.append_ #[23, 3] ty #[.slice (some ⟨b, 0, none⟩) i c, .int .i64 ((n : Int) + m - i)]).run Try.prog w = .ok (.slice (some ⟨b', 0, none⟩) (n + m) c') w1)
    (h2 : ∀ ty, (Builtin.copy_ #[23, 23] ty #[.slice (some ⟨b', i, none⟩) (n + m - i) (c' - i), .slice va m vc]).run Try.prog w1 = .ok (goInt m) w2)
    (h3 : ∀ ty, (Builtin.copy_ #[23, 23] ty #[.slice (some ⟨b', i + m, none⟩) (n + m - (i + m)) (c' - (i + m)), .slice (some ⟨b, i, none⟩) (n - i) (c - i)]).run Try.prog w2.drew = .ok (goInt (n - i)) w3) :
    Calls Try.prog 54 #[.slice (some ⟨b, 0, none⟩) n c, .int .i64 i, .slice va m vc] w fun en w' => en = .returned (.slice (some ⟨b', 0, none⟩) (n + m) c') ∧ w' = w3 := by
  have u23 := Try.underlying23
  have hmx := ins_mixed
  have hm0 : ¬ ((m : Int) = 0) := by omega
  have hin : ¬ ((i : Int) = n) := by omega
  have hw1 : IntKind.i64.wrap ((n : Int) + m) = (n : Int) + m := by rw [IntKind.wrap_i64]; omega
  have hw2 : IntKind.i64.wrap ((n : Int) + m - i) = (n : Int) + m - i := by rw [IntKind.wrap_i64]; omega
  have hw3 : IntKind.i64.wrap ((i : Int) + m) = (i : Int) + m := by rw [IntKind.wrap_i64]; omega
  have hgt : (c : Int) < (n : Int) + m := by omega
  have e1 : ((i : Int) + (m : Int)).toNat = i + m := by omega
  have e2 : (0 : Int) ≤ (i : Int) + m := by omega
  have e3 : (i : Int) + m ≤ (n : Int) + m := by omega
  have e4 : ¬ (c' = i + m) := by omega
  have e5 : ¬ (c' = i) := by omega
  have e6 : ¬ (c = i) := by omega
  have e7 : (i : Int) ≤ (n : Int) + m := by omega
  have e8 : i ≤ n := by omega
  go_enter Try.func54, Try.ntmps54
  go_wp2_with (at_builtin; first | refine Lib.wpList_append_run _ rfl _ _ _ _ rfl _ _ rfl rfl _ _ (h1 _) ?_ | refine wpList_copy_runI _ rfl _ _ 23 23 rfl _ _ rfl rfl (h2 _) ?_)
  go_region_law_o (refine step_copy_runI rfl _ _ 23 23 rfl _ _ (by simp [Act.eval, Act.put]) (by simp [Act.eval, Act.put]) (h3 _) ?_)
  go_wp2
  go_ret
  exact ⟨rfl, rfl⟩

set_option maxHeartbeats 4000000 in
set_option maxRecDepth 100000 in
/-- There is room: in place. -/
theorem ins_room (b n c i m vc : Nat) (va : Option Addr) (hi : i < n) (hm : 0 < m) (hn : n ≤ c) (hc : n + m ≤ c) (hc63 : n + m ≤ 140737488355328) (w w2 w3 : World)
    (hov : ∀ lb cb, (callFunc 55 #[.slice va m vc, .slice (some ⟨b, i + m, none⟩) lb cb]).run Try.prog w = .ok (.value (.bool false)) w)
    (h2 : ∀ ty, (Builtin.copy_ #[23, 23] ty #[.slice (some ⟨b, i + m, none⟩) (n + m - (i + m)) (c - (i + m)), .slice (some ⟨b, i, none⟩) (n + m - i) (c - i)]).run Try.prog w.drew = .ok (goInt (n - i)) w2)
    (h3 : ∀ ty, (Builtin.copy_ #[23, 23] ty #[.slice (some ⟨b, i, none⟩) (n + m - i) (c - i), .slice va m vc]).run Try.prog w2 = .ok (goInt m) w3) :
    Calls Try.prog 54 #[.slice (some ⟨b, 0, none⟩) n c, .int .i64 i, .slice va m vc] w fun en w' => en = .returned (.slice (some ⟨b, 0, none⟩) (n + m) c) ∧ w' = w3 := by
  have u23 := Try.underlying23
  have hmx := ins_mixed
  have hm0 : ¬ ((m : Int) = 0) := by omega
  have hin : ¬ ((i : Int) = n) := by omega
  have hw1 : IntKind.i64.wrap ((n : Int) + m) = (n : Int) + m := by rw [IntKind.wrap_i64]; omega
  have hw3 : IntKind.i64.wrap ((i : Int) + m) = (i : Int) + m := by rw [IntKind.wrap_i64]; omega
  have hgt : ¬ (c : Int) < (n : Int) + m := by omega
  have e0 : ((n : Int) + (m : Int)).toNat = n + m := by omega
  have e1 : ((i : Int) + (m : Int)).toNat = i + m := by omega
  have e2 : (0 : Int) ≤ (i : Int) + m := by omega
  have e2' : (0 : Int) ≤ (n : Int) + m := by omega
  have e3 : (i : Int) + m ≤ (n : Int) + m := by omega
  have e4 : ¬ (c = i + m) := by omega
  have e6 : ¬ (c = i) := by omega
  have e7 : (i : Int) ≤ (n : Int) + m := by omega
  have e8 : i ≤ n := by omega
  have e9 : (n : Int) + m ≤ c := by omega
  have e10 : i ≤ n + m := by omega
  go_enter Try.func54, Try.ntmps54
  go_wp2_with (simp only [hov])
  go_region_law_o (refine step_copy_runI rfl _ _ 23 23 rfl _ _ (by simp [Act.eval, Act.put]) (by simp [Act.eval, Act.put]) (h2 _) ?_)
  go_wp2_with (at_builtin; refine wpList_copy_runI _ rfl _ _ 23 23 rfl _ _ rfl rfl (h3 _) ?_)
  go_ret
  exact ⟨rfl, rfl⟩
end Go.Qz

/- slices.Replace at strings, walked. -/
namespace Go.Qz
open Go.Proofs Go.RowKit Go.Lib

set_option maxHeartbeats 4000000 in
set_option maxRecDepth 100000 in
/-- Nothing goes: Insert. -/
theorem rep_ins (a : Option Addr) (n c i : Nat) (x : Value) (hi : i ≤ n) (hn : n ≤ c) (w : World) (R : Ending → World → Prop) (hc : Calls Try.prog 54 #[.slice a n c, .int .i64 i, x] w fun en w' => (∃ v, en = .returned v) ∧ R en w') :
    Calls Try.prog 52 #[.slice a n c, .int .i64 i, .int .i64 i, x] w R := by
  have u23 := Try.underlying23
  have e1 : (i : Int) ≤ n := by omega
  have e2 : (i : Int) ≤ c := by omega
  have e3 : i ≤ c := by omega
  go_enter Try.func52, Try.ntmps52
  go_wp2_with (go_at_call 54; refine hc.mono ?_; rintro en w' ⟨⟨v, rfl⟩, hR⟩)
  all_goals exact hR

set_option maxHeartbeats 4000000 in
set_option maxRecDepth 100000 in
/-- All from i on goes. -/
theorem rep_end (b n c i m vc : Nat) (va : Option Addr) (hi : i < n) (hn : n ≤ c) (w w2 : World) (b2 c2 : Nat) (hs : n ≤ i + m)
    (h1 : ∀ ty, (Builtin.append_ #[23, 23] ty #[.slice (some ⟨b, 0, none⟩) i c, .slice va m vc]).run Try.prog w = .ok (.slice (some ⟨b2, 0, none⟩) (i + m) c2) w2) :
    Calls Try.prog 52 #[.slice (some ⟨b, 0, none⟩) n c, .int .i64 i, .int .i64 n, .slice va m vc] w fun en w' => en = .returned (.slice (some ⟨b2, 0, none⟩) (i + m) c2) ∧ w' = w2 := by
  have u23 := Try.underlying23
  have e1 : (i : Int) ≤ n := by omega
  have e2 : (n : Int) ≤ c := by omega
  have e3 : i ≤ n := by omega
  have e4 : ¬ ((i : Int) = n) := by omega
  have e5 : ¬ ((i : Int) + m < n) := by omega
  have e6 : ¬ (i + m < n) := by omega
  have e7 : i ≤ c := by omega
  have e8 : (i : Int) ≤ c := by omega
  have e9 : ¬ (c = i) := by omega
  go_enter Try.func52, Try.ntmps52
  go_wp2_with (at_builtin; refine Lib.wpList_append_run _ rfl _ _ _ _ rfl _ _ rfl rfl _ _ (h1 _) ?_)
  all_goals go_ret
  all_goals exact ⟨rfl, rfl⟩

theorem wp_clear_run {P : Program} (w : World) {o : Oper} {a : Act} {K : Act → World → Prop} {Q : Exit → Act → World → Prop} (s : Operand) (t : TypeId)
    (ho : o.op = .call { callee := .builtin .clear, args := #[s], argTypes := #[t] }) (v : Value) (hs : a.eval s = v) {v' : Value} {w' : World}
    (hr : (Builtin.clear_ #[t] o.type #[v]).run P w = .ok v' w') (h : K (a.put o.dst v') w') : o.wp P a w K Q := by
  unfold Oper.wp execOp
  simp only [ho, resolve, invoke, builtin, Sem.run_bind, Sem.run_pure, Result.andThen_ok, List.map_toArray, List.map_cons, List.map_nil, hs, hr]
  exact h
theorem wpList_clear_run {P : Program} (w : World) {ops : Array Oper} {rest : List Oper} {o : Oper} {a : Act} {Q : Exit → Act → World → Prop} (hgd : o.guard = none) (s : Operand) (t : TypeId)
    (ho : o.op = .call { callee := .builtin .clear, args := #[s], argTypes := #[t] }) (v : Value) (hs : a.eval s = v) {v' : Value} {w' : World}
    (hr : (Builtin.clear_ #[t] o.type #[v]).run P w = .ok v' w') (h : wpList P ops Q rest (a.put o.dst v') w') : wpList P ops Q (o :: rest) a w :=
  wpList_plain hgd fun _ hK => wp_clear_run w s t ho v hs hr (hK _ _ h)

set_option maxHeartbeats 4000000 in
set_option maxRecDepth 100000 in
/-- All from i on goes, less comes. -/
theorem rep_end_clear (b n c i m vc : Nat) (va : Option Addr) (hi : i < n) (hn : n ≤ c) (w w2 w3 : World) (b2 c2 : Nat) (hs : i + m < n)
    (h1 : ∀ ty, (Builtin.append_ #[23, 23] ty #[.slice (some ⟨b, 0, none⟩) i c, .slice va m vc]).run Try.prog w = .ok (.slice (some ⟨b2, 0, none⟩) (i + m) c2) w2)
    (h2 : ∀ ty, (Builtin.clear_ #[23] ty #[.slice (some ⟨b, i + m, none⟩) (n - (i + m)) (c - (i + m))]).run Try.prog w2 = .ok (.tuple #[]) w3) :
    Calls Try.prog 52 #[.slice (some ⟨b, 0, none⟩) n c, .int .i64 i, .int .i64 n, .slice va m vc] w fun en w' => en = .returned (.slice (some ⟨b2, 0, none⟩) (i + m) c2) ∧ w' = w3 := by
  have u23 := Try.underlying23
  have e1 : (i : Int) ≤ n := by omega
  have e2 : (n : Int) ≤ c := by omega
  have e3 : i ≤ n := by omega
  have e4 : ¬ ((i : Int) = n) := by omega
  have e5 : (i : Int) + m < n := by omega
  have e6 : (i : Int) + m ≤ n := by omega
  have e6' : i + m ≤ n := by omega
  have e7 : i ≤ c := by omega
  have e8 : (i : Int) ≤ c := by omega
  have e9 : ¬ (c = i) := by omega
  have e10 : ¬ (c = i + m) := by omega
  go_enter Try.func52, Try.ntmps52
  go_wp2_with (at_builtin; first | refine Lib.wpList_append_run _ rfl _ _ _ _ rfl _ _ rfl rfl _ _ (h1 _) ?_ | refine wpList_clear_run _ rfl _ 23 rfl _ rfl (h2 _) ?_)
  all_goals go_ret
  all_goals exact ⟨rfl, rfl⟩
end Go.Qz

/- slices.Replace at strings, walked: within. -/
namespace Go.Qz
open Go.Proofs Go.RowKit Go.Lib

set_option maxHeartbeats 8000000 in
set_option maxRecDepth 100000 in
/-- There is no room: a new row. -/
theorem rep_grow (b n c i j m vc : Nat) (va : Option Addr) (hi : i < j) (hj : j < n) (hn : n ≤ c) (hg : c < i + m + (n - j)) (hc63 : n + m ≤ 140737488355328) (w w1 w2 w3 : World) (b' c' : Nat) (hc' : i + m + (n - j) ≤ c')
    (h1 : ∀ ty, (Builtin.append_ #[23, 3] ty #[.slice (some ⟨b, 0, none⟩) i c, .int .i64 ((i : Int) + m + ((n : Int) - j) - i)]).run Try.prog w.drew = .ok (.slice (some ⟨b', 0, none⟩) (i + m + (n - j)) c') w1)
    (h2 : ∀ ty, (Builtin.copy_ #[23, 23] ty #[.slice (some ⟨b', i, none⟩) (i + m + (n - j) - i) (c' - i), .slice va m vc]).run Try.prog w1 = .ok (goInt m) w2)
    (h3 : ∀ ty, (Builtin.copy_ #[23, 23] ty #[.slice (some ⟨b', i + m, none⟩) (i + m + (n - j) - (i + m)) (c' - (i + m)), .slice (some ⟨b, j, none⟩) (n - j) (c - j)]).run Try.prog w2.drew = .ok (goInt (n - j)) w3) :
    Calls Try.prog 52 #[.slice (some ⟨b, 0, none⟩) n c, .int .i64 i, .int .i64 j, .slice va m vc] w fun en w' => en = .returned (.slice (some ⟨b', 0, none⟩) (i + m + (n - j)) c') ∧ w' = w3 := by
  have u23 := Try.underlying23
  have hmx := ins_mixed
  have d1 : (i : Int) ≤ j := by omega
  have d2 : (j : Int) ≤ c := by omega
  have d3 : i ≤ j := by omega
  have d4 : j ≤ c := by omega
  have d5 : ¬ ((i : Int) = j) := by omega
  have d6 : ¬ ((j : Int) = n) := by omega
  have d7 : i ≤ c := by omega
  have d8 : (i : Int) ≤ c := by omega
  have d9 : ¬ (c = i) := by omega
  have d10 : ¬ (c = j) := by omega
  have d11 : j ≤ n := by omega
  have d12 : (j : Int) ≤ n := by omega
  have d13 : ((n - j : Nat) : Int) = (n : Int) - j := by omega
  have hw0 : IntKind.i64.wrap ((i : Int) + m) = (i : Int) + m := by rw [IntKind.wrap_i64]; omega
  have hw1 : IntKind.i64.wrap ((i : Int) + m + ((n : Int) - j)) = (i : Int) + m + ((n : Int) - j) := by rw [IntKind.wrap_i64]; omega
  have hw2 : IntKind.i64.wrap ((i : Int) + m + ((n : Int) - j) - i) = (i : Int) + m + ((n : Int) - j) - i := by rw [IntKind.wrap_i64]; omega
  have hgt : (c : Int) < (i : Int) + m + ((n : Int) - j) := by omega
  have e1 : ((i : Int) + (m : Int)).toNat = i + m := by omega
  have e2 : (0 : Int) ≤ (i : Int) + m := by omega
  have e3 : ¬ (c' = i + m) := by omega
  have e4 : ¬ (c' = i) := by omega
  have e5 : i ≤ i + m + (n - j) := by omega
  have e6 : i + m ≤ i + m + (n - j) := by omega
  have e7 : (i : Int) + m ≤ (i : Int) + m + ((n : Int) - j) := by omega
  go_enter Try.func52, Try.ntmps52
  go_wp2
  go_region
  go_wp2_with (at_builtin; first | refine Lib.wpList_append_run _ rfl _ _ _ _ rfl _ _ rfl rfl _ _ (h1 _) ?_ | refine wpList_copy_runI _ rfl _ _ 23 23 rfl _ _ rfl rfl (h2 _) ?_)
  go_region_law_o (refine step_copy_runI rfl _ _ 23 23 rfl _ _ (by simp [Act.eval, Act.put]) (by simp [Act.eval, Act.put]) (h3 _) ?_)
  go_wp2
  all_goals go_ret
  all_goals exact ⟨rfl, rfl⟩

set_option maxHeartbeats 8000000 in
set_option maxRecDepth 100000 in
/-- It fits into what goes. -/
theorem rep_fit (b n c i j m vc : Nat) (va : Option Addr) (hi : i < j) (hj : j < n) (hn : n ≤ c) (hg : i + m < j) (hc63 : n + m ≤ 140737488355328) (w w1 w2 w3 : World)
    (h1 : ∀ ty, (Builtin.copy_ #[23, 23] ty #[.slice (some ⟨b, i, none⟩) (i + m + (n - j) - i) (c - i), .slice va m vc]).run Try.prog w.drew = .ok (goInt m) w1)
    (h2 : ∀ ty, (Builtin.copy_ #[23, 23] ty #[.slice (some ⟨b, i + m, none⟩) (i + m + (n - j) - (i + m)) (c - (i + m)), .slice (some ⟨b, j, none⟩) (n - j) (c - j)]).run Try.prog w1.drew = .ok (goInt (n - j)) w2)
    (h3 : ∀ ty, (Builtin.clear_ #[23] ty #[.slice (some ⟨b, i + m + (n - j), none⟩) (n - (i + m + (n - j))) (c - (i + m + (n - j)))]).run Try.prog w2 = .ok (.tuple #[]) w3) :
    Calls Try.prog 52 #[.slice (some ⟨b, 0, none⟩) n c, .int .i64 i, .int .i64 j, .slice va m vc] w fun en w' => en = .returned (.slice (some ⟨b, 0, none⟩) (i + m + (n - j)) c) ∧ w' = w3 := by
  have u23 := Try.underlying23
  have hmx := ins_mixed
  have d1 : (i : Int) ≤ j := by omega
  have d2 : (j : Int) ≤ c := by omega
  have d3 : i ≤ j := by omega
  have d4 : j ≤ c := by omega
  have d5 : ¬ ((i : Int) = j) := by omega
  have d6 : ¬ ((j : Int) = n) := by omega
  have d7 : i ≤ c := by omega
  have d8 : (i : Int) ≤ c := by omega
  have d9 : ¬ (c = i) := by omega
  have d10 : ¬ (c = j) := by omega
  have d11 : j ≤ n := by omega
  have d12 : (j : Int) ≤ n := by omega
  have d13 : ((n - j : Nat) : Int) = (n : Int) - j := by omega
  have hw0 : IntKind.i64.wrap ((i : Int) + m) = (i : Int) + m := by rw [IntKind.wrap_i64]; omega
  have hw1 : IntKind.i64.wrap ((i : Int) + m + ((n : Int) - j)) = (i : Int) + m + ((n : Int) - j) := by rw [IntKind.wrap_i64]; omega
  have hgt : ¬ (c : Int) < (i : Int) + m + ((n : Int) - j) := by omega
  have hgt' : (i : Int) + m + ((n : Int) - j) ≤ (c : Int) := by omega
  have e0 : ((i : Int) + (m : Int) + ((n : Int) - j)).toNat = i + m + (n - j) := by omega
  have e0' : (0 : Int) ≤ (i : Int) + m + ((n : Int) - j) := by omega
  have e1 : ((i : Int) + (m : Int)).toNat = i + m := by omega
  have e2 : (0 : Int) ≤ (i : Int) + m := by omega
  have e3 : ¬ (c = i + m) := by omega
  have e5 : i ≤ i + m + (n - j) := by omega
  have e6 : i + m ≤ i + m + (n - j) := by omega
  have e7 : (i : Int) + m ≤ (i : Int) + m + ((n : Int) - j) := by omega
  have f1 : (i : Int) + m ≤ j := by omega
  have f2 : ¬ (c = i + m + (n - j)) := by omega
  have f3 : i + m + (n - j) ≤ n := by omega
  have f4 : (i : Int) + m + ((n : Int) - j) ≤ n := by omega
  go_enter Try.func52, Try.ntmps52
  go_wp2
  go_region
  go_wp2_with (at_builtin; refine wpList_copy_runI _ rfl _ _ 23 23 rfl _ _ rfl rfl (h1 _) ?_)
  go_region_law_o (refine step_copy_runI rfl _ _ 23 23 rfl _ _ (by simp [Act.eval, Act.put]) (by simp [Act.eval, Act.put]) (h2 _) ?_)
  go_wp2_with (at_builtin; refine wpList_clear_run _ rfl _ 23 rfl _ rfl (h3 _) ?_)
  all_goals go_ret
  all_goals exact ⟨rfl, rfl⟩

set_option maxHeartbeats 8000000 in
set_option maxRecDepth 100000 in
/-- As much comes as goes. -/
theorem rep_same (b n c i j m vc : Nat) (va : Option Addr) (hi : i < j) (hj : j < n) (hn : n ≤ c) (hg : i + m ≤ j) (hg' : j ≤ i + m) (hc63 : n + m ≤ 140737488355328) (w w1 w2 : World)
    (h1 : ∀ ty, (Builtin.copy_ #[23, 23] ty #[.slice (some ⟨b, i, none⟩) (i + m + (n - j) - i) (c - i), .slice va m vc]).run Try.prog w.drew = .ok (goInt m) w1)
    (h2 : ∀ ty, (Builtin.copy_ #[23, 23] ty #[.slice (some ⟨b, i + m, none⟩) (i + m + (n - j) - (i + m)) (c - (i + m)), .slice (some ⟨b, j, none⟩) (n - j) (c - j)]).run Try.prog w1.drew = .ok (goInt (n - j)) w2) :
    Calls Try.prog 52 #[.slice (some ⟨b, 0, none⟩) n c, .int .i64 i, .int .i64 j, .slice va m vc] w fun en w' => en = .returned (.slice (some ⟨b, 0, none⟩) (i + m + (n - j)) c) ∧ w' = w2 := by
  have u23 := Try.underlying23
  have hmx := ins_mixed
  have d1 : (i : Int) ≤ j := by omega
  have d2 : (j : Int) ≤ c := by omega
  have d3 : i ≤ j := by omega
  have d4 : j ≤ c := by omega
  have d5 : ¬ ((i : Int) = j) := by omega
  have d6 : ¬ ((j : Int) = n) := by omega
  have d7 : i ≤ c := by omega
  have d8 : (i : Int) ≤ c := by omega
  have d9 : ¬ (c = i) := by omega
  have d10 : ¬ (c = j) := by omega
  have d11 : j ≤ n := by omega
  have d12 : (j : Int) ≤ n := by omega
  have d13 : ((n - j : Nat) : Int) = (n : Int) - j := by omega
  have hw0 : IntKind.i64.wrap ((i : Int) + m) = (i : Int) + m := by rw [IntKind.wrap_i64]; omega
  have hw1 : IntKind.i64.wrap ((i : Int) + m + ((n : Int) - j)) = (i : Int) + m + ((n : Int) - j) := by rw [IntKind.wrap_i64]; omega
  have hgt : ¬ (c : Int) < (i : Int) + m + ((n : Int) - j) := by omega
  have hgt' : (i : Int) + m + ((n : Int) - j) ≤ (c : Int) := by omega
  have e0 : ((i : Int) + (m : Int) + ((n : Int) - j)).toNat = i + m + (n - j) := by omega
  have e0' : (0 : Int) ≤ (i : Int) + m + ((n : Int) - j) := by omega
  have e1 : ((i : Int) + (m : Int)).toNat = i + m := by omega
  have e2 : (0 : Int) ≤ (i : Int) + m := by omega
  have e3 : ¬ (c = i + m) := by omega
  have e5 : i ≤ i + m + (n - j) := by omega
  have e6 : i + m ≤ i + m + (n - j) := by omega
  have e7 : (i : Int) + m ≤ (i : Int) + m + ((n : Int) - j) := by omega
  have f1 : (i : Int) + m ≤ j := by omega
  have f3 : i + m + (n - j) ≤ n := by omega
  have f4 : (i : Int) + m + ((n : Int) - j) ≤ n := by omega
  have f5 : n - (i + m + (n - j)) = 0 := by omega
  have h3 : ∀ ty a cc, (Builtin.clear_ #[23] ty #[.slice a 0 cc]).run Try.prog w2 = .ok (.tuple #[]) w2 := fun ty a cc => by
    cases a <;> simp [Builtin.clear_, run_underlying u23]
  go_enter Try.func52, Try.ntmps52
  go_wp2
  go_region
  go_wp2_with (at_builtin; refine wpList_copy_runI _ rfl _ _ 23 23 rfl _ _ rfl rfl (h1 _) ?_)
  go_region_law_o (refine step_copy_runI rfl _ _ 23 23 rfl _ _ (by simp [Act.eval, Act.put]) (by simp [Act.eval, Act.put]) (h2 _) ?_)
  go_wp2_with (at_builtin; refine wpList_clear_run _ rfl _ 23 rfl _ rfl (by first | exact h3 _ _ _ | (rw [f5]; exact h3 _ _ _)) ?_)
  all_goals go_ret
  all_goals exact ⟨rfl, rfl⟩

set_option maxHeartbeats 8000000 in
set_option maxRecDepth 100000 in
/-- More comes than goes, there is room. -/
theorem rep_wide (b n c i j m vc : Nat) (va : Option Addr) (hi : i < j) (hj : j < n) (hn : n ≤ c) (hg : j < i + m) (hr : i + m + (n - j) ≤ c) (hc63 : n + m ≤ 140737488355328) (w w1 w2 : World)
    (hov : ∀ W : World, W.heap = w.heap → ∀ lb cb, (callFunc 55 #[.slice (some ⟨b, i + m, none⟩) lb cb, .slice va m vc]).run Try.prog W = .ok (.value (.bool false)) W)
    (h1 : ∀ ty, (Builtin.copy_ #[23, 23] ty #[.slice (some ⟨b, i + m, none⟩) (i + m + (n - j) - (i + m)) (c - (i + m)), .slice (some ⟨b, j, none⟩) (n - j) (c - j)]).run Try.prog w.drew.drew = .ok (goInt (n - j)) w1)
    (h2 : ∀ ty, (Builtin.copy_ #[23, 23] ty #[.slice (some ⟨b, i, none⟩) (i + m + (n - j) - i) (c - i), .slice va m vc]).run Try.prog w1 = .ok (goInt m) w2) :
    Calls Try.prog 52 #[.slice (some ⟨b, 0, none⟩) n c, .int .i64 i, .int .i64 j, .slice va m vc] w fun en w' => en = .returned (.slice (some ⟨b, 0, none⟩) (i + m + (n - j)) c) ∧ w' = w2 := by
  have u23 := Try.underlying23
  have hmx := ins_mixed
  have d1 : (i : Int) ≤ j := by omega
  have d2 : (j : Int) ≤ c := by omega
  have d3 : i ≤ j := by omega
  have d4 : j ≤ c := by omega
  have d5 : ¬ ((i : Int) = j) := by omega
  have d6 : ¬ ((j : Int) = n) := by omega
  have d7 : i ≤ c := by omega
  have d8 : (i : Int) ≤ c := by omega
  have d9 : ¬ (c = i) := by omega
  have d10 : ¬ (c = j) := by omega
  have d11 : j ≤ n := by omega
  have d12 : (j : Int) ≤ n := by omega
  have d13 : ((n - j : Nat) : Int) = (n : Int) - j := by omega
  have hw0 : IntKind.i64.wrap ((i : Int) + m) = (i : Int) + m := by rw [IntKind.wrap_i64]; omega
  have hw1 : IntKind.i64.wrap ((i : Int) + m + ((n : Int) - j)) = (i : Int) + m + ((n : Int) - j) := by rw [IntKind.wrap_i64]; omega
  have hgt : ¬ (c : Int) < (i : Int) + m + ((n : Int) - j) := by omega
  have hgt' : (i : Int) + m + ((n : Int) - j) ≤ (c : Int) := by omega
  have e0 : ((i : Int) + (m : Int) + ((n : Int) - j)).toNat = i + m + (n - j) := by omega
  have e0' : (0 : Int) ≤ (i : Int) + m + ((n : Int) - j) := by omega
  have e1 : ((i : Int) + (m : Int)).toNat = i + m := by omega
  have e2 : (0 : Int) ≤ (i : Int) + m := by omega
  have e3 : ¬ (c = i + m) := by omega
  have e5 : i ≤ i + m + (n - j) := by omega
  have e6 : i + m ≤ i + m + (n - j) := by omega
  have e7 : (i : Int) + m ≤ (i : Int) + m + ((n : Int) - j) := by omega
  have f1 : ¬ ((i : Int) + m ≤ j) := by omega
  have hov' := hov w.drew rfl
  go_enter Try.func52, Try.ntmps52
  go_wp2
  go_region
  go_wp2_with (simp only [hov'])
  go_region_law_o (refine step_copy_runI rfl _ _ 23 23 rfl _ _ (by simp [Act.eval, Act.put]) (by simp [Act.eval, Act.put]) (h1 _) ?_)
  go_wp2_with (at_builtin; refine wpList_copy_runI _ rfl _ _ 23 23 rfl _ _ rfl rfl (h2 _) ?_)
  all_goals go_ret
  all_goals exact ⟨rfl, rfl⟩
end Go.Qz

/- slices.Insert and slices.Replace at strings: what comes of them. -/
namespace Go.Qz
open Go.Proofs Go.RowKit Go.Lib

/-- What is put in: a row of its own. -/
structure RowV (w : World) (va : Option Addr) (m vc : Nat) (cs : List Value) (b : Nat) : Prop where
  len : cs.length = m
  one : ∀ u ∈ cs, u.oneCell' = true
  row : (va = none ∧ m = 0 ∧ vc = 0) ∨ ∃ vb e T, va = some ⟨vb, 0, none⟩ ∧ RowIs w vb e (cs ++ T) ∧ vb ≠ b ∧ vb < w.heap.size
theorem RowV.from {w w' : World} {va : Option Addr} {m vc : Nat} {cs : List Value} {b : Nat} (h : RowV w va m vc cs b) (ht : Turns w w' (some b)) : From Try.prog 1 23 (.slice va m vc) m cs w' := by
  refine .of Try.underlying23 (by rw [h.len, Nat.mul_one]) (fun hn => ?_) (fun a ha j u hu => ?_) h.one
  · rcases h.row with ⟨_, h0, _⟩ | ⟨vb, e, T, hv, _⟩
    · exact h0
    · rw [hn] at hv; cases hv
  · rcases h.row with ⟨hv, _⟩ | ⟨vb, e, T, hv, hr, hne, hlt⟩
    · rw [ha] at hv; cases hv
    · rw [ha] at hv
      cases hv
      have hr' : RowIs w' vb e (cs ++ T) := by
        unfold RowIs
        rw [ht.old vb hlt (fun e => hne (Option.some.inj e).symm)]
        exact hr
      rw [hr'.add, Nat.zero_add, List.getElem?_append_left (List.getElem?_eq_some_iff.1 hu).1]
      exact hu

theorem fromRow {w : World} {b : Nat} {e : TypeId} {L : List Value} (h : RowIs w b e L) {o n c : Nat} (ho : o + n ≤ L.length) (h1 : ∀ u ∈ (L.drop o).take n, u.oneCell' = true) : From Try.prog 1 23 (.slice (some ⟨b, o, none⟩) n c) n ((L.drop o).take n) w := by
  have := From.row (P := Try.prog) (z := 1) (t := 23) Try.underlying23 h (o := o) (n := n) (c := c) (by omega) (by simpa using h1)
  simpa using this
theorem copy1 {w : World} {ty : TypeId} {b o dLen dCap : Nat} {L : List Value} {e : TypeId} {x : Value} {n : Nat} {cs : List Value} (hg : RowIs w b e L) (hs : From Try.prog 1 23 x n cs w) (hn : n ≤ dLen) (hf : o + n ≤ L.length) :
    (Builtin.copy_ #[23, 23] ty #[.slice (some ⟨b, o, none⟩) dLen dCap, x]).run Try.prog w = .ok (goInt n) (w.setRow b (L.take o ++ cs ++ L.drop (o + cs.length)).toArray) := by
  obtain ⟨i, h1, h2, h3, h4⟩ := ins_info
  have hc := hs.count
  exact copy_row Try.underlying23 h1 h3 hg hs hn (by omega)

/-- What 'slices.overlaps' says of rows in two blocks. -/
theorem apart_vb {w : World} {b o lb cb m vc : Nat} {va : Option Addr} {cs : List Value} {e : TypeId} {L : List Value} (hv : RowV w va m vc cs b) (hm : 0 < m) (hL : RowIs w b e L) (h0 : L ≠ []) (W : World) (hW : W.heap = w.heap) :
    (callFunc 55 #[.slice va m vc, .slice (some ⟨b, o, none⟩) lb cb]).run Try.prog W = .ok (.value (.bool false)) W ∧ (callFunc 55 #[.slice (some ⟨b, o, none⟩) lb cb, .slice va m vc]).run Try.prog W = .ok (.value (.bool false)) W := by
  rcases hv.row with ⟨_, h0, _⟩ | ⟨vb, e', T, rfl, hr, hne, hlt⟩
  · omega
  have hz : ∀ w, (Go.sizeOf 9).run Try.prog w = .ok 1 w := fun w => by
    obtain ⟨i, h1, h2, h3, h4⟩ := ins_info
    simp [sizeOf, typeInfo, h1, h3]
  have s1 : W.shape? vb = some (e', (cs ++ T).length) := by unfold RowIs at hr; simp [World.shape?, hW, hr]
  have s2 : W.shape? b = some (e, L.length) := by unfold RowIs at hL; simp [World.shape?, hW, hL]
  have f1 : ∀ o, W.frozen? ⟨vb, o, none⟩ = false := fun o => by unfold RowIs at hr; simp [World.frozen?, hW, hr]
  have f2 : ∀ o, W.frozen? ⟨b, o, none⟩ = false := fun o => by unfold RowIs at hL; simp [World.frozen?, hW, hL]
  have n1 : (cs ++ T).length ≠ 0 := by have := hv.len; rw [List.length_append]; omega
  have n2 : L.length ≠ 0 := by simpa using h0
  constructor
  · rw [run_callFunc_extern Try.func55 (by kernel_rfl) (by kernel_rfl) (by kernel_rfl) (e := Extern.SlicesOverlaps.overlaps #[23, 23] #[4]) (by kernel_rfl),
      Lib.run_overlaps_apart W 23 4 9 Try.underlying23 1 hz ⟨vb, 0, none⟩ ⟨b, o, none⟩ m vc lb cb hne e' e _ _ s1 s2 n2 (f1 _) (f1 _)]
    rfl
  · rw [run_callFunc_extern Try.func55 (by kernel_rfl) (by kernel_rfl) (by kernel_rfl) (e := Extern.SlicesOverlaps.overlaps #[23, 23] #[4]) (by kernel_rfl),
      Lib.run_overlaps_apart W 23 4 9 Try.underlying23 1 hz ⟨b, o, none⟩ ⟨vb, 0, none⟩ lb cb m vc hne.symm e e' _ _ s2 s1 n1 (f2 _) (f2 _)]
    rfl

/-- A row of its own, that is written. -/
structure RowS (w : World) (b n c : Nat) (e : TypeId) (L T : List Value) : Prop where
  row : RowIs w b e (L ++ T)
  len : L.length = n
  cap : (L ++ T).length = c
  max : c ≤ maxLen
  one : ∀ u ∈ L, u.oneCell' = true

theorem turns_of (w : World) (b : Nat) : Turns w w (some b) := Turns.refl w _
/-- Insert at the end. -/
theorem insert_end {w : World} {b n c m vc : Nat} {e : TypeId} {L T cs : List Value} {va : Option Addr} (hs : RowS w b n c e L T) (hv : RowV w va m vc cs b) (hm : 0 < m) (hb : (n + m) * 16 ≤ 140737488355328) :
    Calls Try.prog 54 #[.slice (some ⟨b, 0, none⟩) n c, .int .i64 n, .slice va m vc] w fun en w' => ∃ v, en = .returned v ∧ Came w w' (some b) 1 v (L ++ cs) := by
  obtain ⟨i, h1, h2, h3, h4⟩ := ins_info
  obtain ⟨hr, hl, hcap, hmax, hone⟩ := hs
  have hnc : n ≤ c := by rw [← hl, ← hcap]; simp
  have hvf := hv.from (turns_of w b)
  have hcl := hv.len
  by_cases hroom : n + m ≤ c
  · have hrun : ∀ ty, _ := fun ty => append_room (ty := ty) (t := 23) Try.underlying23 h1 h3 hr hvf hroom (by rw [hcap, hv.len]; omega)
    refine (ins_end _ n c m vc va hm w _ _ hrun hnc).mono ?_
    rintro en w' ⟨rfl, rfl⟩
    rw [Nat.mul_one, splice hl]
    refine ⟨_, rfl, (turns_of w b).set _ (.inl rfl), .inr ⟨b, n + m, c, e, T.drop cs.length, rfl, hr.set _, by simp [hl, hcl], ?_, hroom, hmax, .inl rfl⟩⟩
    simp only [List.length_append, List.length_drop] at hcap ⊢
    omega
  · have hf0 := fromRow hr (o := 0) (n := n) (c := c) (by simp [hl]) (by
      rw [List.drop_zero, List.take_append_of_le_length (by omega), List.take_of_length_le (by omega)]; exact hone)
    rw [List.drop_zero, List.take_append_of_le_length (by omega), List.take_of_length_le (by omega)] at hf0
    obtain ⟨c', T', p1, p2, p3, p4⟩ := append_grow (t := 23) (tx := 23) Try.underlying23 h1 h2 h3 rfl hf0 hvf (by omega) (by rw [h4]; exact hb) (by unfold maxLen; omega)
    refine (ins_end _ n c m vc va hm w _ _ p4 hnc).mono ?_
    rintro en w' ⟨rfl, rfl⟩
    refine ⟨_, rfl, ((turns_of w b).drew).alloc _, .inr ⟨w.heap.size, n + m, c', 9, T', rfl, ?_, by simp [hl, hcl], by rw [Nat.mul_one] at p3 ⊢; exact p3, p1, p2, .inr (Nat.le_refl _)⟩⟩
    have := RowIs.new w.drew 9 (L ++ cs ++ T').toArray
    simpa using this

theorem splice2 {A B cs ds : List Value} {o k : Nat} (h : A.length = o) (hk : k = o + cs.length) : (A ++ cs ++ B).take k ++ ds ++ (A ++ cs ++ B).drop (k + ds.length) = A ++ cs ++ ds ++ B.drop ds.length := by
  rw [splice (A := A ++ cs) (by simp [h, hk])]

theorem shift {R D Z cs A : List Value} {i : Nat} (hA : R.take i = A) (hk : R.length = i + cs.length) : (R ++ D ++ Z).take i ++ cs ++ (R ++ D ++ Z).drop (i + cs.length) = A ++ cs ++ D ++ Z := by
  rw [List.append_assoc R, List.take_append_of_le_length (by omega), hA, ← hk, List.drop_left]
  simp
theorem came {w w' : World} {b b' k c' : Nat} {e : TypeId} {X Z : List Value} (ht : Turns w w' (some b)) (hr : RowIs w' b' e (X ++ Z)) (hx : X.length = k) (hc : k + Z.length = c') (hm : c' ≤ maxLen) (hb : b = b' ∨ w.heap.size ≤ b') : Came w w' (some b) 1 (.slice (some ⟨b', 0, none⟩) k c') X :=
  ⟨ht, .inr ⟨b', k, c', e, Z, rfl, hr, by omega, by rw [List.length_append]; omega, by omega, hm, hb.imp (congrArg some) id⟩⟩
theorem came_set {w w1 : World} {b b' k c' : Nat} {e : TypeId} {R R' X Z : List Value} (ht : Turns w w1 (some b)) (hr : RowIs w1 b' e R) (he : R' = X ++ Z) (hx : X.length = k) (hc : R'.length = c') (hm : c' ≤ maxLen) (hb : b = b' ∨ w.heap.size ≤ b') : Came w (w1.setRow b' R'.toArray) (some b) 1 (.slice (some ⟨b', 0, none⟩) k c') X := by
  subst he
  exact came (ht.set _ (hb.imp (congrArg some) id)) (hr.set _) hx (by rw [List.length_append] at hc; omega) hm hb
/-- Parts of a row. -/
structure Cut (L T : List Value) (n c i : Nat) : Prop where
  take : (L ++ T).take i = L.take i
  drop : ((L ++ T).drop i).take (n - i) = L.drop i
  tl : (L.take i).length = i
  dl : (L.drop i).length = n - i
theorem RowS.cut {w : World} {b n c : Nat} {e : TypeId} {L T : List Value} (h : RowS w b n c e L T) {i : Nat} (hi : i ≤ n) : Cut L T n c i := by
  have hl := h.len
  refine ⟨by rw [List.take_append_of_le_length (by omega)], ?_, by rw [List.length_take]; omega, by rw [List.length_drop]; omega⟩
  rw [List.drop_append_of_le_length (by omega), List.take_append_of_le_length (by simp; omega), List.take_of_length_le (by simp; omega)]

/-- Insert. -/
theorem insert_came {w : World} {b n c i m vc : Nat} {e : TypeId} {L T cs : List Value} {va : Option Addr} (hs : RowS w b n c e L T) (hv : RowV w va m vc cs b) (hi : i ≤ n) (hb : (n + m) * 16 ≤ 140737488355328) :
    Calls Try.prog 54 #[.slice (some ⟨b, 0, none⟩) n c, .int .i64 i, .slice va m vc] w fun en w' => ∃ v, en = .returned v ∧ Came w w' (some b) 1 v (L.take i ++ cs ++ L.drop i) := by
  obtain ⟨f, h1, h2, h3, h4⟩ := ins_info
  have hnc : n ≤ c := by rw [← hs.len, ← hs.cap]; simp
  have hcl := hv.len
  rcases Nat.eq_zero_or_pos m with rfl | hm
  · obtain rfl : cs = [] := List.eq_nil_of_length_eq_zero hcl
    refine (ins_none _ n c i hi hnc (fun h => by cases h) _ w ⟨va, vc, rfl⟩).mono ?_
    rintro en w' ⟨rfl, rfl⟩
    rw [List.append_nil, List.take_append_drop]
    exact ⟨_, rfl, came (turns_of _ b) hs.row hs.len (by rw [← hs.cap, List.length_append, hs.len]) hs.max (.inl rfl)⟩
  rcases Nat.eq_or_lt_of_le hi with rfl | hlt
  · have := insert_end hs hv hm hb
    rw [show L.take i = L from List.take_of_length_le (by rw [hs.len]; exact Nat.le_refl _), show L.drop i = [] from List.drop_eq_nil_of_le (by rw [hs.len]; exact Nat.le_refl _), List.append_nil]
    exact this
  obtain ⟨ct, cd, hti, hdi⟩ := hs.cut hi
  obtain ⟨hr, hl, hcap, hmax, hone⟩ := hs
  have hTl : T.length = c - n := by rw [List.length_append] at hcap; omega
  have hfs : ∀ w1, RowIs w1 b e (L ++ T) → From Try.prog 1 23 (.slice (some ⟨b, i, none⟩) (n - i) (c - i)) (n - i) (L.drop i) w1 := fun w1 hr1 => by
    have := fromRow hr1 (o := i) (n := n - i) (c := c - i) (by rw [hcap]; omega) (by rw [cd]; exact fun u hu => hone u (List.mem_of_mem_drop hu))
    rwa [cd] at this
  by_cases hroom : n + m ≤ c
  · have hp2 : ∀ ty, _ := fun ty => copy_head (P := Try.prog) (ty := ty) (n := n - i) (dCap := c - (i + m)) (sLen := n + m - i) (sCap := c - i) (o := i + m) (o' := i) (cs := L.drop i) (dT := 23) (t := 23) Try.underlying23 Try.underlying23 h1 h3 hr.drew
      (by rw [hdi, Nat.mul_one]) (fun j u hj => by rw [List.getElem?_drop] at hj; rw [List.getElem?_append_left (List.getElem?_eq_some_iff.1 hj).1]; exact hj) (fun u hu => hone u (List.mem_of_mem_drop hu)) (by omega) (by rw [hcap]; omega)
    rw [show n - i = n + m - (i + m) by omega] at hp2
    have hr2 := hr.drew.set ((L ++ T).take (i + m) ++ L.drop i ++ (L ++ T).drop (i + m + (L.drop i).length))
    have ht2 := ((turns_of w b).drew).set (b := b) ((L ++ T).take (i + m) ++ L.drop i ++ (L ++ T).drop (i + m + (L.drop i).length)) (.inl rfl)
    have hp3 : ∀ ty, _ := fun ty => copy1 (ty := ty) (dCap := c - i) (dLen := n + m - i) (o := i) hr2 (hv.from ht2) (by omega) (by
      simp only [List.length_append, List.length_take, List.length_drop] at hcap ⊢
      omega)
    have hg : ((n + m - (i + m) : Nat) : Int) = (n : Int) - i := by omega
    rw [hg] at hp2
    refine (ins_room b n c i m vc va hlt hm hnc hroom (by omega) w _ _ (fun lb cb => (apart_vb hv hm hr (by intro h; rw [h] at hcap; simp at hcap; omega) w rfl).1) hp2 hp3).mono ?_
    rintro en w' ⟨rfl, rfl⟩
    refine ⟨_, rfl, came_set ht2 hr2 (shift (A := L.take i) (by rw [List.take_take, Nat.min_eq_left (by omega), ct]) (by rw [List.length_take, hcap, hcl]; omega)) (by simp only [List.length_append, hti, hdi, hcl]; omega) ?_ hmax (.inl rfl)⟩
    simp only [List.length_append, List.length_take, List.length_drop] at hcap ⊢
    omega
  · have hfi := fromRow hr (o := 0) (n := i) (c := c) (by rw [hcap]; omega) (by rw [List.drop_zero, ct]; exact fun u hu => hone u (List.mem_of_mem_take hu))
    rw [List.drop_zero, ct] at hfi
    obtain ⟨c', Z, p1, p2, p3, p4⟩ := append_zeros (t := 23) (tn := 3) (k := n + m - i) Try.underlying23 Try.underlying3 h1 h2 h3 rfl (by omega) hfi (by omega) (by omega) (by rw [h4]; omega) (by unfold maxLen; omega)
    rw [show i + (n + m - i) = n + m by omega, show ((n + m - i : Nat) : Int) = (n : Int) + m - i by omega] at p4
    rw [Nat.mul_one, List.length_append, hti] at p3
    have hr1 : RowIs (w.drew.alloc (.cells (L.take i ++ Z).toArray 9)) w.heap.size 9 (L.take i ++ Z) := by
      have := RowIs.new w.drew 9 (L.take i ++ Z).toArray
      simpa using this
    have ht1 := ((turns_of w b).drew).alloc (.cells (L.take i ++ Z).toArray 9)
    have hp2 : ∀ ty, _ := fun ty => copy1 (ty := ty) (dCap := c' - i) (dLen := n + m - i) (o := i) hr1 (hv.from ht1) (by omega) (by rw [List.length_append, hti]; omega)
    rw [splice hti] at hp2
    have hr2 := hr1.set (L.take i ++ cs ++ Z.drop cs.length)
    have ht2 := ht1.set (b := w.heap.size) (L.take i ++ cs ++ Z.drop cs.length) (.inr (Nat.le_refl _))
    have hne : b ≠ w.heap.size := Nat.ne_of_lt hr.lt
    have hrb := ((hr.drew.alloc (.cells (L.take i ++ Z).toArray 9)).other (L.take i ++ cs ++ Z.drop cs.length) hne).drew
    have hp3 : ∀ ty, _ := fun ty => copy1 (ty := ty) (dCap := c' - (i + m)) (dLen := n + m - (i + m)) (o := i + m) hr2.drew (hfs _ hrb) (by omega) (by simp only [List.length_append, List.length_drop, hti, hcl]; omega)
    rw [splice2 hti (by rw [hcl]), show ((n - i : Nat) : Int) = (n : Int) - i by omega] at hp3
    refine (ins_grow b n c i m vc va hlt hm hnc (by omega) (by omega) w _ _ _ w.heap.size c' (by omega) p4 hp2 hp3).mono ?_
    rintro en w' ⟨rfl, rfl⟩
    refine ⟨_, rfl, came_set ht2.drew hr2.drew rfl (by simp only [List.length_append, hti, hdi, hcl]; omega) ?_ p2 (.inr (Nat.le_refl _))⟩
    simp only [List.length_append, List.length_drop, hti, hdi, hcl]
    omega
end Go.Qz

/- slices.Replace at strings: what comes of it. -/
namespace Go.Qz
open Go.Proofs Go.RowKit Go.Lib

theorem insert_nil {w : World} {m vc : Nat} {cs : List Value} {va : Option Addr} {b : Nat} (hv : RowV w va m vc cs b) (hb : m * 16 ≤ 140737488355328) :
    Calls Try.prog 54 #[.slice none 0 0, .int .i64 (0 : Nat), .slice va m vc] w fun en w' => ∃ v, en = .returned v ∧ Came w w' none 1 v cs := by
  obtain ⟨f, h1, h2, h3, h4⟩ := ins_info
  have hcl := hv.len
  rcases Nat.eq_zero_or_pos m with rfl | hm
  · obtain rfl : cs = [] := List.eq_nil_of_length_eq_zero hcl
    refine (ins_none none 0 0 0 (Nat.le_refl _) (Nat.le_refl _) (fun _ => ⟨rfl, rfl⟩) _ w ⟨va, vc, rfl⟩).mono ?_
    rintro en w' ⟨rfl, rfl⟩
    exact ⟨_, rfl, Turns.refl _ _, .inl ⟨rfl, rfl⟩⟩
  · have hf0 : From Try.prog 1 23 (.slice none 0 0) 0 [] w := .of Try.underlying23 rfl (fun _ => rfl) (fun b hb => by cases hb) (fun u hu => by cases hu)
    obtain ⟨c', T', p1, p2, p3, p4⟩ := append_grow (t := 23) (tx := 23) Try.underlying23 h1 h2 h3 rfl hf0 (hv.from (turns_of w b)) (by omega) (by rw [h4]; omega) (by unfold maxLen; omega)
    refine (ins_end none 0 0 m vc va hm w _ _ p4 (Nat.le_refl _)).mono ?_
    rintro en w' ⟨rfl, rfl⟩
    have hr := RowIs.new w.drew 9 (([] : List Value) ++ cs ++ T').toArray
    refine ⟨_, rfl, ((Turns.refl w none).drew).alloc _, .inr ⟨w.heap.size, 0 + m, c', 9, T', rfl, by simpa using hr, by rw [hcl]; omega, by simpa using p3, p1, p2, .inr (Nat.le_refl _)⟩⟩

/-- Replace. -/
theorem replace_came {w : World} {b n c i j m vc : Nat} {e : TypeId} {L T cs : List Value} {va : Option Addr} (hs : RowS w b n c e L T) (hv : RowV w va m vc cs b) (hi : i ≤ j) (hj : j ≤ n) (hb : (n + m) * 16 ≤ 140737488355328) :
    Calls Try.prog 52 #[.slice (some ⟨b, 0, none⟩) n c, .int .i64 i, .int .i64 j, .slice va m vc] w fun en w' => ∃ v, en = .returned v ∧ Came w w' (some b) 1 v (L.take i ++ cs ++ L.drop j) := by
  obtain ⟨f, h1, h2, h3, h4⟩ := ins_info
  have hnc : n ≤ c := by rw [← hs.len, ← hs.cap]; simp
  have hcl := hv.len
  rcases Nat.eq_or_lt_of_le hi with rfl | hlt
  · refine rep_ins _ n c i _ hj hnc w _ ((insert_came hs hv hj hb).mono ?_)
    rintro en w' ⟨v, rfl, h⟩
    exact ⟨⟨v, rfl⟩, v, rfl, h⟩
  obtain ⟨ct, _, hti, _⟩ := hs.cut (i := i) (by omega)
  obtain ⟨_, cd, _, hdj⟩ := hs.cut (i := j) hj
  obtain ⟨hr, hl, hcap, hmax, hone⟩ := hs
  have hTl : T.length = c - n := by rw [List.length_append] at hcap; omega
  have hfi : ∀ w1, RowIs w1 b e (L ++ T) → From Try.prog 1 23 (.slice (some ⟨b, 0, none⟩) i c) i (L.take i) w1 := fun w1 hr1 => by
    have := fromRow hr1 (o := 0) (n := i) (c := c) (by rw [hcap]; omega) (by rw [List.drop_zero, ct]; exact fun u hu => hone u (List.mem_of_mem_take hu))
    rwa [List.drop_zero, ct] at this
  have hfj : ∀ w1 R, RowIs w1 b e R → R.length = c → (R.drop j).take (n - j) = L.drop j → From Try.prog 1 23 (.slice (some ⟨b, j, none⟩) (n - j) (c - j)) (n - j) (L.drop j) w1 := fun w1 R hr1 hRl hR => by
    have := fromRow hr1 (o := j) (n := n - j) (c := c - j) (by rw [hRl]; omega) (by rw [hR]; exact fun u hu => hone u (List.mem_of_mem_drop hu))
    rwa [hR] at this
  have hsplit : L ++ T = L.take i ++ (L.drop i ++ T) := by rw [← List.append_assoc, List.take_append_drop]
  have hgj : ((n - j : Nat) : Int) = (n : Int) - j := by omega
  rcases Nat.eq_or_lt_of_le hj with rfl | hjn
  · rw [show L.drop j = [] from List.drop_eq_nil_of_le (by rw [hl]; exact Nat.le_refl _), List.append_nil]
    have hvf := hv.from (turns_of w b)
    by_cases hroom : i + m ≤ c
    · have hrun : ∀ ty, _ := fun ty => append_room (ty := ty) (t := 23) (n := i) Try.underlying23 h1 h3 hr hvf hroom (by rw [hcap, hcl]; omega)
      rw [Nat.mul_one] at hrun
      have hr2 := hr.set ((L ++ T).take i ++ cs ++ (L ++ T).drop (i + cs.length))
      have ht2 := (turns_of w b).set (b := b) ((L ++ T).take i ++ cs ++ (L ++ T).drop (i + cs.length)) (.inl rfl)
      have hlen2 : ((L ++ T).take i ++ cs ++ (L ++ T).drop (i + cs.length)).length = c := by
        simp only [List.length_append, List.length_take, List.length_drop] at hcap ⊢
        omega
      have hx2 : (L.take i ++ cs).length = i + m := by rw [List.length_append, hti, hcl]
      by_cases hless : i + m < j
      · obtain ⟨zs, z1, z2⟩ := clear_row (P := Try.prog) (z := 1) (ty := 0) (t := 23) (o := i + m) (n := j - (i + m)) (c := c - (i + m)) Try.underlying23 h1 h2 rfl (fun u hu => by
          have : u = .string ⟨#[]⟩ := by simpa [Value.cells] using hu
          subst this; rfl) (by decide) (by omega) hr2 (by rw [hlen2]; omega)
        have hz : ∀ ty, _ := fun ty => (show (Builtin.clear_ #[23] ty #[.slice (some ⟨b, i + m, none⟩) (j - (i + m)) (c - (i + m))]).run Try.prog _ = _ from z2)
        refine (rep_end_clear b j c i m vc va hlt hnc w _ _ b c hless hrun hz).mono ?_
        rintro en w' ⟨rfl, rfl⟩
        have hz1 : zs.length = j - (i + m) := by rw [z1]; exact Nat.mul_one _
        refine ⟨_, rfl, came_set ht2 hr2 (X := L.take i ++ cs) (Z := zs ++ ((L ++ T).take i ++ cs ++ (L ++ T).drop (i + cs.length)).drop (i + m + zs.length)) ?_ hx2 ?_ hmax (.inl rfl)⟩
        · rw [ct, ← hcl, show i + cs.length = (L.take i ++ cs).length by rw [List.length_append, hti], List.take_left]
          simp
        · simp only [List.length_append, List.length_take, List.length_drop] at hcap hlen2 ⊢
          omega
      · refine (rep_end b j c i m vc va hlt hnc w _ b c (by omega) hrun).mono ?_
        rintro en w' ⟨rfl, rfl⟩
        exact ⟨_, rfl, came_set (turns_of w b) hr (X := L.take i ++ cs) (by rw [ct]) hx2 hlen2 hmax (.inl rfl)⟩
    · obtain ⟨c', T', p1, p2, p3, p4⟩ := append_grow (t := 23) (tx := 23) Try.underlying23 h1 h2 h3 rfl (hfi w hr) hvf (by omega) (by rw [h4]; omega) (by unfold maxLen; omega)
      refine (rep_end b j c i m vc va hlt hnc w _ w.heap.size c' (by omega) p4).mono ?_
      rintro en w' ⟨rfl, rfl⟩
      have hn := RowIs.new w.drew 9 (L.take i ++ cs ++ T').toArray
      exact ⟨_, rfl, came (((turns_of w b).drew).alloc _) (by simpa using hn) (by rw [List.length_append, hti, hcl]) (by rw [Nat.mul_one, List.length_append, List.length_append, hti, hcl] at p3; exact p3) p2 (.inr (Nat.le_refl _))⟩
  have hcap' : L.length + T.length = c := by rw [List.length_append] at hcap; exact hcap
  have hw : ∀ w1, RowIs w1 b e (L ++ T) → From Try.prog 1 23 (.slice (some ⟨b, j, none⟩) (n - j) (c - j)) (n - j) (L.drop j) w1 := fun w1 h => hfj w1 _ h hcap cd
  by_cases hroom : i + m + (n - j) ≤ c
  · rcases Nat.lt_or_ge j (i + m) with hwide | hfit
    · have hp1 : ∀ ty, _ := fun ty => copy1 (ty := ty) (dCap := c - (i + m)) (dLen := i + m + (n - j) - (i + m)) (o := i + m) hr.drew.drew (hw w.drew.drew hr) (by omega) (by rw [hcap]; omega)
      rw [hgj] at hp1
      have hr1 := hr.drew.drew.set ((L ++ T).take (i + m) ++ L.drop j ++ (L ++ T).drop (i + m + (L.drop j).length))
      have ht1 := ((turns_of w b).drew.drew).set (b := b) ((L ++ T).take (i + m) ++ L.drop j ++ (L ++ T).drop (i + m + (L.drop j).length)) (.inl rfl)
      have hl1 : ((L ++ T).take (i + m) ++ L.drop j ++ (L ++ T).drop (i + m + (L.drop j).length)).length = c := by
        simp only [List.length_append, List.length_take, List.length_drop]
        omega
      have hp2 : ∀ ty, _ := fun ty => copy1 (ty := ty) (dCap := c - i) (dLen := i + m + (n - j) - i) (o := i) hr1 (hv.from ht1) (by omega) (by rw [hl1]; omega)
      refine (rep_wide b n c i j m vc va hlt hjn hnc hwide hroom (by omega) w _ _ (fun W hW lb cb => (apart_vb hv (by omega) hr (by intro h; rw [h] at hcap; simp at hcap; omega) W hW).2) hp1 hp2).mono ?_
      rintro en w' ⟨rfl, rfl⟩
      refine ⟨_, rfl, came_set ht1 hr1 (shift (A := L.take i) (by rw [List.take_take, Nat.min_eq_left (by omega), ct]) (by rw [List.length_take, hcap, hcl]; omega)) (by simp only [List.length_append, hti, hdj, hcl]) ?_ hmax (.inl rfl)⟩
      simp only [List.length_append, List.length_take, List.length_drop] at hl1 ⊢
      omega
    · have hp1 : ∀ ty, _ := fun ty => copy1 (ty := ty) (dCap := c - i) (dLen := i + m + (n - j) - i) (o := i) hr.drew (hv.from (turns_of w b).drew) (by omega) (by rw [hcap]; omega)
      rw [ct] at hp1
      have hr1 := hr.drew.set (L.take i ++ cs ++ (L ++ T).drop (i + cs.length))
      have ht1 := ((turns_of w b).drew).set (b := b) (L.take i ++ cs ++ (L ++ T).drop (i + cs.length)) (.inl rfl)
      have hl1 : (L.take i ++ cs ++ (L ++ T).drop (i + cs.length)).length = c := by
        simp only [List.length_append, List.length_drop, hti, hcl]
        omega
      have hx : (L.take i ++ cs).length = i + m := by rw [List.length_append, hti, hcl]
      have hd1 : ((L.take i ++ cs ++ (L ++ T).drop (i + cs.length)).drop j).take (n - j) = L.drop j := by
        rw [List.drop_append, List.drop_eq_nil_of_le (by omega), List.nil_append, List.drop_drop, hx, hcl, show i + m + (j - (i + m)) = j by omega]
        exact cd
      have hp2 : ∀ ty, _ := fun ty => copy1 (ty := ty) (dCap := c - (i + m)) (dLen := i + m + (n - j) - (i + m)) (o := i + m) hr1.drew (hfj _ _ hr1.drew hl1 hd1) (by omega) (by rw [hl1]; omega)
      rw [hgj, splice hx] at hp2
      have hr2 := hr1.drew.set (L.take i ++ cs ++ L.drop j ++ ((L ++ T).drop (i + cs.length)).drop (L.drop j).length)
      have ht2 := ht1.drew.set (b := b) (L.take i ++ cs ++ L.drop j ++ ((L ++ T).drop (i + cs.length)).drop (L.drop j).length) (.inl rfl)
      have hx2 : (L.take i ++ cs ++ L.drop j).length = i + m + (n - j) := by rw [List.length_append, hx, hdj]
      have hl2 : (L.take i ++ cs ++ L.drop j ++ ((L ++ T).drop (i + cs.length)).drop (L.drop j).length).length = c := by
        rw [List.length_append, hx2, List.length_drop, List.length_drop, hcap, hcl, hdj]
        omega
      rcases Nat.lt_or_ge (i + m) j with hless | hsame
      · obtain ⟨zs, z1, z2⟩ := clear_row (P := Try.prog) (z := 1) (ty := 0) (t := 23) (o := i + m + (n - j)) (n := n - (i + m + (n - j))) (c := c - (i + m + (n - j))) Try.underlying23 h1 h2 rfl (fun u hu => by
          have : u = .string ⟨#[]⟩ := by simpa [Value.cells] using hu
          subst this; rfl) (by decide) (by omega) hr2 (by rw [hl2]; omega)
        have hz : ∀ ty, _ := fun ty => (show (Builtin.clear_ #[23] ty #[.slice (some ⟨b, i + m + (n - j), none⟩) (n - (i + m + (n - j))) (c - (i + m + (n - j)))]).run Try.prog _ = _ from z2)
        refine (rep_fit b n c i j m vc va hlt hjn hnc hless (by omega) w _ _ _ hp1 hp2 hz).mono ?_
        rintro en w' ⟨rfl, rfl⟩
        refine ⟨_, rfl, came_set ht2 hr2 (by rw [show i + m + (n - j) = (L.take i ++ cs ++ L.drop j).length from hx2.symm, List.take_left, List.append_assoc]) hx2 ?_ hmax (.inl rfl)⟩
        simp only [List.length_append, List.length_take, List.length_drop] at hl2 ⊢
        omega
      · refine (rep_same b n c i j m vc va hlt hjn hnc hfit hsame (by omega) w _ _ hp1 hp2).mono ?_
        rintro en w' ⟨rfl, rfl⟩
        exact ⟨_, rfl, came_set ht1.drew hr1.drew rfl hx2 hl2 hmax (.inl rfl)⟩
  · obtain ⟨c', Z, p1, p2, p3, p4⟩ := append_zeros (w := w.drew) (t := 23) (tn := 3) (k := m + (n - j)) Try.underlying23 Try.underlying3 h1 h2 h3 rfl (by omega) (hfi w.drew hr) (by omega) (by omega) (by rw [h4]; omega) (by unfold maxLen; omega)
    rw [← Nat.add_assoc, show ((m + (n - j) : Nat) : Int) = (i : Int) + m + ((n : Int) - j) - i by omega] at p4
    rw [Nat.mul_one, List.length_append, hti] at p3
    have hr1 : RowIs (w.drew.drew.alloc (.cells (L.take i ++ Z).toArray 9)) w.heap.size 9 (L.take i ++ Z) := by
      have := RowIs.new w.drew.drew 9 (L.take i ++ Z).toArray
      simpa using this
    have ht1 := ((turns_of w b).drew.drew).alloc (.cells (L.take i ++ Z).toArray 9)
    have hp2 : ∀ ty, _ := fun ty => copy1 (ty := ty) (dCap := c' - i) (dLen := i + m + (n - j) - i) (o := i) hr1 (hv.from ht1) (by omega) (by rw [List.length_append, hti]; omega)
    rw [splice hti] at hp2
    have hr2 := hr1.set (L.take i ++ cs ++ Z.drop cs.length)
    have ht2 := ht1.set (b := w.heap.size) (L.take i ++ cs ++ Z.drop cs.length) (.inr (Nat.le_refl _))
    have hne : b ≠ w.heap.size := Nat.ne_of_lt hr.lt
    have hrb := ((hr.drew.drew.alloc (.cells (L.take i ++ Z).toArray 9)).other (L.take i ++ cs ++ Z.drop cs.length) hne).drew
    have hp3 : ∀ ty, _ := fun ty => copy1 (ty := ty) (dCap := c' - (i + m)) (dLen := i + m + (n - j) - (i + m)) (o := i + m) hr2.drew (hw _ hrb) (by omega) (by simp only [List.length_append, List.length_drop, hti, hcl]; omega)
    rw [splice2 hti (by rw [hcl]), hgj] at hp3
    refine (rep_grow b n c i j m vc va hlt hjn hnc (by omega) (by omega) w _ _ _ w.heap.size c' (by omega) p4 hp2 hp3).mono ?_
    rintro en w' ⟨rfl, rfl⟩
    refine ⟨_, rfl, came_set ht2.drew hr2.drew rfl (by simp only [List.length_append, hti, hdj, hcl]) ?_ p2 (.inr (Nat.le_refl _))⟩
    simp only [List.length_append, List.length_drop, hti, hcl]
    omega
end Go.Qz
