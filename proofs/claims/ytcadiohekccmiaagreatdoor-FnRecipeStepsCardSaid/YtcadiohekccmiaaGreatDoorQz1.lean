import Derived.Test.YtcadiohekccmiaaGreatDoorQz0
namespace Go.Qz
open Go.Proofs
theorem formS_eq (r : Rc) : (r.srcs.all srcOk && (r.pcs.all pcOk && (r.steps.all lineB && ((decide (r.lets.length ≤ 6) && decide (r.srcs.length ≤ 6) && decide (r.pcs.length ≤ 6) && decide (r.steps.length ≤ 10)) &&
  (packOk r.name && verOk r.ver && letsB r.lets && (r.builds.all needOk && decide (r.builds.length ≤ 6)) && (r.runs.all needOk && decide (r.runs.length ≤ 6))))))) = formOk r := by
 unfold formOk letsB
 rw [Bool.eq_iff_iff]
 simp only [Bool.and_eq_true, decide_eq_true_eq]
 constructor
 ·rintro ⟨a1, a2, a3, ⟨⟨⟨a4, a5⟩, a6⟩, a7⟩, ⟨⟨⟨b1, b2⟩, b3, b4⟩, b5, b6⟩, b7, b8⟩
  exact ⟨⟨⟨⟨b1, b2⟩, a7⟩, ⟨⟨⟨a4, b6⟩, b8⟩, a5⟩, a6⟩, ⟨⟨⟨⟨b3, b5⟩, b7⟩, a1⟩, a2⟩, a3⟩
 ·rintro ⟨⟨⟨⟨b1, b2⟩, a7⟩, ⟨⟨⟨a4, b6⟩, b8⟩, a5⟩, a6⟩, ⟨⟨⟨⟨b3, b5⟩, b7⟩, a1⟩, a2⟩, a3⟩
  exact ⟨a1, a2, a3, ⟨⟨⟨a4, a5⟩, a6⟩, a7⟩, ⟨⟨⟨b1, b2⟩, b3, by omega⟩, b5, b6⟩, b7, b8⟩
abbrev RB1 (r : Rc) : List A := [.ro (T r.name), .ro (T r.ver), .ro (FS r.lets), .ro (NeS r.builds), .ro (NeS r.runs), .ro (FS r.srcs), .ro (FS r.pcs), .ro (SS r.steps)]
set_option maxHeartbeats 4000000 in
theorem l4Form_ev (r : Rc) (h : RcSz r) : C Fn38 [.ro (RcD r)] [] = some (.one (.ro (.bool (formOk r))), []) := by
 refine ctx_call Tryz.func38 Cv38 rfl ?_
 rw [← formS_eq]
 have h1 := l3Pack_ev r.name (by have := h.name; omega)
 rw [packS_eq] at h1
 have h2 := VersionOkS_ev r.ver h.ver
 have h3 := l4Lets_ev r.lets (by have := h.lets; omega) (fun f hf => ⟨by have := (h.letz f hf).1; omega, by have := (h.letz f hf).2; omega⟩)
 have h4 := l4Needs_ev r.builds h.bld h.builds
 have h5 := l4Needs_ev r.runs h.run h.runs
 have hsrc : ∀ i (hi : i < r.srcs.length), C Fn107 [.ro (T r.srcs[i].1)] [] = some (.one (.ro (.bool (nameOk r.srcs[i].1))), []) ∧ C Fn108 [.ro (T r.srcs[i].2)] [] = some (.one (.ro (.bool (sumOk r.srcs[i].2))), []) := fun i hi => by
  have := h.src _ (List.getElem_mem hi)
  exact ⟨l1Name_ev _ (by have := this.1; omega), l4Sum_ev _ this.2⟩
 have hpc : ∀ i (hi : i < r.pcs.length), C Fn109 [.ro (T r.pcs[i].1)] [] = some (.one (.ro (.bool (packOk r.pcs[i].1))), []) ∧ C Fn110 [.ro (T r.pcs[i].2)] [] = some (.one (.ro (.bool (globOk r.pcs[i].2))), []) := fun i hi => by
  have := h.pc _ (List.getElem_mem hi)
  have k := l3Pack_ev r.pcs[i].1 (by have := this.1; omega)
  rw [packS_eq] at k
  exact ⟨k, GlobOkS_ev _ this.2⟩
 have hst : ∀ i (hi : i < r.steps.length), C Fn111 [.ro (T r.steps[i])] [] = some (.one (.ro (.bool (lineB r.steps[i]))), []) := fun i hi => l4Plain_ev _ (by have := h.step _ (List.getElem_mem hi); omega)
 have g1 := h.srcs
 have g2 := h.pcs
 have g3 := h.steps
 have rend : r.srcs.all srcOk = true → r.pcs.all pcOk = true → r.steps.all lineB = true → ∀ e : Env, e.size = 119 → e.get 1 = .one (.ptr 1 0) → e.box 1 = some (RB1 r) →
   Run cx q38c6 e [.fn [(.tmp 2, 4)] []] = some (.one (.ro (.bool ((decide (r.lets.length ≤ 6) && decide (r.srcs.length ≤ 6) && decide (r.pcs.length ≤ 6) && decide (r.steps.length ≤ 10)) &&
    (packOk r.name && verOk r.ver && letsB r.lets && (r.builds.all needOk && decide (r.builds.length ≤ 6)) && (r.runs.all needOk && decide (r.runs.length ≤ 6)))))), []) := by
  intro _ _ _ e hsz e1 b1
  generalize (r.builds.all needOk && decide (r.builds.length ≤ 6)) = c4 at *
  generalize (r.runs.all needOk && decide (r.runs.length ≤ 6)) = c5 at *
  generalize letsB r.lets = c3 at *
  generalize packOk r.name = c1 at *
  generalize verOk r.ver = c2 at *
  by_cases m1 : r.lets.length ≤ 6
  ·by_cases m2 : r.srcs.length ≤ 6
   ·by_cases m3 : r.pcs.length ≤ 6
    ·by_cases m4 : r.steps.length ≤ 10
     ·cases c1
      ·simp [hsz, e1, b1, m1, m2, m3, m4, h1]
      cases c2
      ·simp [hsz, e1, b1, m1, m2, m3, m4, h1, h2]
      cases c3
      ·simp [hsz, e1, b1, m1, m2, m3, m4, h1, h2, h3]
      cases c4
      ·simp [hsz, e1, b1, m1, m2, m3, m4, h1, h2, h3, h4]
      simp [hsz, e1, b1, m1, m2, m3, m4, h1, h2, h3, h4, h5]
     ·simp [hsz, e1, b1, m1, m2, m3, m4]
    ·simp [hsz, e1, b1, m1, m2, m3]
   ·simp [hsz, e1, b1, m1, m2]
  ·simp [hsz, e1, b1, m1]
 generalize ((decide (r.lets.length ≤ 6) && decide (r.srcs.length ≤ 6) && decide (r.pcs.length ≤ 6) && decide (r.steps.length ≤ 10)) &&
       (packOk r.name && verOk r.ver && letsB r.lets && (r.builds.all needOk && decide (r.builds.length ≤ 6)) && (r.runs.all needOk && decide (r.runs.length ≤ 6)))) = last at *
 have r3 : r.srcs.all srcOk = true → r.pcs.all pcOk = true → ∀ e : Env, e.size = 119 → e.get 1 = .one (.ptr 1 0) → e.box 1 = some (RB1 r) →
   Run cx q38c7 e [.fn [(.tmp 2, 4)] []] = some (.one (.ro (.bool (r.steps.all lineB && last))), []) := by
  intro q1 q2 e hsz e1 b1
  simp [hsz, -q38c6R]
  refine loop_run (fun m e => ∃ i, m = r.steps.length - i ∧ i ≤ r.steps.length ∧ e.size = 119 ∧ e.get 1 = .one (.ptr 1 0) ∧ e.box 1 = some (RB1 r) ∧ e.get 5 = .one (.ro (N i)) ∧ (r.steps.drop i).all lineB = r.steps.all lineB)
   ?_ r.steps.length _ ⟨0, rfl, Nat.zero_le _, by simp [hsz], by simp [e1], by simp [b1], by simp, rfl⟩
  rintro m e ⟨i, rfl, hi, hsz, e1, b1, h5, hr⟩ ih
  rcases Nat.lt_or_ge i r.steps.length with hlt | hge
  ·have hd : r.steps.drop i = r.steps[i] :: r.steps.drop (i + 1) := List.drop_eq_getElem_cons hlt
   have hwi : IntKind.i64.wrap ((i : Int) + 1) = ((i + 1 : Nat) : Int) := wrap64_succ (by omega)
   have hev := hst i hlt
   rw [hd, List.all_cons] at hr
   cases hp : lineB r.steps[i] with
   | false =>
     rw [hp] at hr hev
     simp [hsz, e1, b1, h5, hlt, hev, ← hr]
   | true =>
     rw [hp] at hr hev
     rw [Bool.true_and] at hr
     simp [hsz, e1, b1, h5, hlt, hev, hwi]
     exact ih _ _ (by omega) ⟨i + 1, rfl, by omega, by simp [hsz], by simp [e1], by simp [b1], by simp, hr⟩
  ·obtain rfl : i = r.steps.length := by omega
   rw [List.drop_length, List.all_nil] at hr
   simp [hsz, e1, b1, h5, -q38c6R]
   rw [← hr, Bool.true_and]
   exact rend q1 q2 hr.symm _ (by simp [hsz]) (by simp [e1]) (by simp [b1])
 have r2 : r.srcs.all srcOk = true → ∀ e : Env, e.size = 119 → e.get 1 = .one (.ptr 1 0) → e.box 1 = some (RB1 r) →
   Run cx q38c8 e [.fn [(.tmp 2, 4)] []] = some (.one (.ro (.bool (r.pcs.all pcOk && (r.steps.all lineB && last)))), []) := by
  intro q1 e hsz e1 b1
  simp [hsz, -q38c7R]
  refine loop_run (fun m e => ∃ i, m = r.pcs.length - i ∧ i ≤ r.pcs.length ∧ e.size = 119 ∧ e.get 1 = .one (.ptr 1 0) ∧ e.box 1 = some (RB1 r) ∧ e.get 4 = .one (.ro (N i)) ∧ (r.pcs.drop i).all pcOk = r.pcs.all pcOk)
   ?_ r.pcs.length _ ⟨0, rfl, Nat.zero_le _, by simp [hsz], by simp [e1], by simp [b1], by simp, rfl⟩
  rintro m e ⟨i, rfl, hi, hsz, e1, b1, h5, hr⟩ ih
  rcases Nat.lt_or_ge i r.pcs.length with hlt | hge
  ·have hd : r.pcs.drop i = r.pcs[i] :: r.pcs.drop (i + 1) := List.drop_eq_getElem_cons hlt
   have hwi : IntKind.i64.wrap ((i : Int) + 1) = ((i + 1 : Nat) : Int) := wrap64_succ (by omega)
   obtain ⟨v1, v2⟩ := hpc i hlt
   have hx : pcOk r.pcs[i] = (packOk r.pcs[i].1 && globOk r.pcs[i].2) := rfl
   rw [hd, List.all_cons, hx] at hr
   cases p1 : packOk r.pcs[i].1 with
   | false =>
     rw [p1] at hr v1
     simp [hsz, e1, b1, h5, hlt, v1, ← hr]
   | true =>
     cases p2 : globOk r.pcs[i].2 with
     | false =>
       rw [p1, p2] at hr
       rw [p1] at v1; rw [p2] at v2
       simp [hsz, e1, b1, h5, hlt, v1, v2, ← hr]
     | true =>
       rw [p1, p2, Bool.and_self, Bool.true_and] at hr
       rw [p1] at v1; rw [p2] at v2
       simp [hsz, e1, b1, h5, hlt, v1, v2, hwi]
       exact ih _ _ (by omega) ⟨i + 1, rfl, by omega, by simp [hsz], by simp [e1], by simp [b1], by simp, hr⟩
  ·obtain rfl : i = r.pcs.length := by omega
   rw [List.drop_length, List.all_nil] at hr
   simp [hsz, e1, b1, h5, -q38c7R]
   rw [← hr, Bool.true_and]
   exact r3 q1 hr.symm _ (by simp [hsz]) (by simp [e1]) (by simp [b1])
 simp [-q38c8R]
 refine loop_run (fun m e => ∃ i, m = r.srcs.length - i ∧ i ≤ r.srcs.length ∧ e.size = 119 ∧ e.get 1 = .one (.ptr 1 0) ∧ e.box 1 = some (RB1 r) ∧ e.get 3 = .one (.ro (N i)) ∧ (r.srcs.drop i).all srcOk = r.srcs.all srcOk)
  ?_ r.srcs.length _ ⟨0, rfl, Nat.zero_le _, by simp, by simp, by simp, by simp, rfl⟩
 rintro m e ⟨i, rfl, hi, hsz, e1, b1, h5, hr⟩ ih
 rcases Nat.lt_or_ge i r.srcs.length with hlt | hge
 ·have hd : r.srcs.drop i = r.srcs[i] :: r.srcs.drop (i + 1) := List.drop_eq_getElem_cons hlt
  have hwi : IntKind.i64.wrap ((i : Int) + 1) = ((i + 1 : Nat) : Int) := wrap64_succ (by omega)
  obtain ⟨v1, v2⟩ := hsrc i hlt
  have hx : srcOk r.srcs[i] = (nameOk r.srcs[i].1 && sumOk r.srcs[i].2) := rfl
  rw [hd, List.all_cons, hx] at hr
  cases p1 : nameOk r.srcs[i].1 with
  | false =>
    rw [p1] at hr v1
    simp [hsz, e1, b1, h5, hlt, v1, ← hr]
  | true =>
    cases p2 : sumOk r.srcs[i].2 with
    | false =>
      rw [p1, p2] at hr
      rw [p1] at v1; rw [p2] at v2
      simp [hsz, e1, b1, h5, hlt, v1, v2, ← hr]
    | true =>
      rw [p1, p2, Bool.and_self, Bool.true_and] at hr
      rw [p1] at v1; rw [p2] at v2
      simp [hsz, e1, b1, h5, hlt, v1, v2, hwi]
      exact ih _ _ (by omega) ⟨i + 1, rfl, by omega, by simp [hsz], by simp [e1], by simp [b1], by simp, hr⟩
 ·obtain rfl : i = r.srcs.length := by omega
  rw [List.drop_length, List.all_nil] at hr
  simp [hsz, e1, b1, h5, -q38c8R]
  rw [← hr, Bool.true_and]
  exact r2 hr.symm _ (by simp [hsz]) (by simp [e1]) (by simp [b1])
end Go.Qz
namespace Go.Qz
open Go.Proofs
def NmEnv0 (r : Rc) (e : Env) : Prop := e.size = 120 ∧ e.get 1 = .one (.ptr 1 0) ∧ e.box 1 = some (RB1 r)
def NmEnv1 (r : Rc) (e : Env) : Prop := e.size = 120 ∧ e.get 1 = .one (.ptr 1 0) ∧ e.box 1 = some (RB1 r) ∧ e.get 3 = .one (.own (SS ([[110, 97, 109, 101], [118, 101, 114, 115, 105, 111, 110]] ++ (r.lets).map fun x : Fl => x.1)))
def NmEnv2 (r : Rc) (e : Env) : Prop := e.size = 120 ∧ e.get 1 = .one (.ptr 1 0) ∧ e.box 1 = some (RB1 r) ∧ e.get 3 = .one (.own (SS ([[110, 97, 109, 101], [118, 101, 114, 115, 105, 111, 110]] ++ (r.lets).map fun x : Fl => x.1))) ∧ e.get 5 = .one (.own (SS ([] ++ (r.builds).map fun x : Ne => x.name)))
def NmEnv3 (r : Rc) (e : Env) : Prop := e.size = 120 ∧ e.get 1 = .one (.ptr 1 0) ∧ e.box 1 = some (RB1 r) ∧ e.get 3 = .one (.own (SS ([[110, 97, 109, 101], [118, 101, 114, 115, 105, 111, 110]] ++ (r.lets).map fun x : Fl => x.1))) ∧ e.get 5 = .one (.own (SS ([] ++ (r.builds).map fun x : Ne => x.name))) ∧ e.get 7 = .one (.own (SS ([r.name] ++ (r.runs).map fun x : Ne => x.name)))
def NmEnv4 (r : Rc) (e : Env) : Prop := e.size = 120 ∧ e.get 1 = .one (.ptr 1 0) ∧ e.box 1 = some (RB1 r) ∧ e.get 3 = .one (.own (SS ([[110, 97, 109, 101], [118, 101, 114, 115, 105, 111, 110]] ++ (r.lets).map fun x : Fl => x.1))) ∧ e.get 5 = .one (.own (SS ([] ++ (r.builds).map fun x : Ne => x.name))) ∧ e.get 7 = .one (.own (SS ([r.name] ++ (r.runs).map fun x : Ne => x.name))) ∧ e.get 9 = .one (.own (SS ([] ++ (r.srcs).map fun x : Fl => x.1)))
def NmEnv5 (r : Rc) (e : Env) : Prop := e.size = 120 ∧ e.get 1 = .one (.ptr 1 0) ∧ e.box 1 = some (RB1 r) ∧ e.get 3 = .one (.own (SS ([[110, 97, 109, 101], [118, 101, 114, 115, 105, 111, 110]] ++ (r.lets).map fun x : Fl => x.1))) ∧ e.get 5 = .one (.own (SS ([] ++ (r.builds).map fun x : Ne => x.name))) ∧ e.get 7 = .one (.own (SS ([r.name] ++ (r.runs).map fun x : Ne => x.name))) ∧ e.get 9 = .one (.own (SS ([] ++ (r.srcs).map fun x : Fl => x.1))) ∧ e.get 11 = .one (.own (SS ([r.name] ++ (r.pcs).map fun x : Fl => x.1)))
theorem dup_head (a b : List UInt8) (xs : Lines) (h : (a == b) = false) : dupT [] ([a, b] ++ xs) = dupT [a, b] xs := by
 have h' : ¬ a = b := by simpa using h
 have h2 : ¬ b = a := fun e => h' e.symm
 show dupT [] (a :: b :: xs) = _
 rw [dupT, dupT]
 simp [h2]
theorem dup_one (a : List UInt8) (xs : Lines) : dupT [] ([a] ++ xs) = dupT [a] xs := by
 show dupT [] (a :: xs) = _
 rw [dupT]
 simp
theorem names_end (r : Rc) (h : RcSz r) (e : Env) (he : NmEnv5 r e) : Run cx q39c10 e [.fn [(.tmp 2, 4)] []] = some (.one (.ro (.bool (twiceB r))), []) := by
 obtain ⟨hsz, e1, b1, k1, k2, k3, k4, k5⟩ := he
 have t1 := l4Twice_ev ([[110, 97, 109, 101], [118, 101, 114, 115, 105, 111, 110]] ++ r.lets.map fun x => x.1) (by have := h.lets; simp; omega)
 have t2 := l4Twice_ev ([] ++ r.builds.map fun x => x.name) (by have := h.builds; simp; omega)
 have t3 := l4Twice_ev ([r.name] ++ r.runs.map fun x => x.name) (by have := h.runs; simp; omega)
 have t4 := l4Twice_ev ([] ++ r.srcs.map fun x => x.1) (by have := h.srcs; simp; omega)
 have t5 := l4Twice_ev ([r.name] ++ r.pcs.map fun x => x.1) (by have := h.pcs; simp; omega)
 rw [dup_head _ _ _ (by decide)] at t1
 rw [dup_one] at t3 t5
 have z2 : dupT [] ([] ++ r.builds.map fun x => x.name) = dupT [] (r.builds.map fun x => x.name) := by rw [List.nil_append]
 have z4 : dupT [] ([] ++ r.srcs.map fun x => x.1) = dupT [] (r.srcs.map fun x => x.1) := by rw [List.nil_append]
 rw [z2] at t2
 rw [z4] at t4
 clear z2 z4
 unfold twiceB
 generalize ([[110, 97, 109, 101], [118, 101, 114, 115, 105, 111, 110]] ++ r.lets.map fun x => x.1) = l1 at *
 generalize ([] ++ r.builds.map fun x => x.name) = l2 at *
 generalize ([r.name] ++ r.runs.map fun x => x.name) = l3 at *
 generalize ([] ++ r.srcs.map fun x => x.1) = l4 at *
 generalize ([r.name] ++ r.pcs.map fun x => x.1) = l5 at *
 generalize dupT [[110, 97, 109, 101], [118, 101, 114, 115, 105, 111, 110]] (r.lets.map fun x => x.1) = b1 at *
 generalize dupT [] (r.builds.map fun x => x.name) = b2 at *
 generalize dupT [r.name] (r.runs.map fun x => x.name) = b3 at *
 generalize dupT [] (r.srcs.map fun x => x.1) = b4 at *
 generalize dupT [r.name] (r.pcs.map fun x => x.1) = b5 at *
 cases b1
 ·cases b2
  ·cases b3
   ·cases b4
    ·simp [hsz, k1, k2, k3, k4, k5, t1, t2, t3, t4, t5]
    ·simp [hsz, k1, k2, k3, k4, k5, t1, t2, t3, t4]
   ·simp [hsz, k1, k2, k3, k4, k5, t1, t2, t3]
  ·simp [hsz, k1, k2, k3, k4, k5, t1, t2]
 ·simp [hsz, k1, k2, k3, k4, k5, t1]
theorem names_loop4 (r : Rc) (h : RcSz r) (e : Env) (he : NmEnv4 r e) (ht : e.get 11 = .one (.own (SS [r.name]))) (hi : e.get 12 = .one (.ro (N 0))) :
  Run cx (.loop q39l4) e [.blk 8, .seq q39c10, .fn [(.tmp 2, 4)] []] = some (.one (.ro (.bool (twiceB r))), []) := by
 obtain ⟨hsz, e1, b1, k1, k2, k3, k4⟩ := he
 have hl := h.pcs
 refine loop_run (fun m e => ∃ i, m = r.pcs.length - i ∧ i ≤ r.pcs.length ∧ NmEnv4 r e ∧ e.get 11 = .one (.own (SS ([r.name] ++ (r.pcs.take i).map fun x : Fl => x.1))) ∧ e.get 12 = .one (.ro (N i)))
  ?_ r.pcs.length _ ⟨0, rfl, Nat.zero_le _, ⟨by simp [hsz], by simp [e1], by simp [b1], by simp [k1], by simp [k2], by simp [k3], by simp [k4]⟩, by simp [ht], by simp [hi]⟩
 clear hsz e1 b1 k1 k2 k3 k4 ht hi
 rintro m e ⟨i, rfl, hi, ⟨hsz, e1, b1, k1, k2, k3, k4⟩, ht, hc⟩ ih
 rcases Nat.lt_or_ge i r.pcs.length with hlt | hge
 ·have hwi : IntKind.i64.wrap ((i : Int) + 1) = ((i + 1 : Nat) : Int) := wrap64_succ (by omega)
  have hll : ([r.name] ++ (r.pcs.take i).map fun x : Fl => x.1).length ≤ 1048578 := by simp; omega
  have hs : ([r.name] ++ (r.pcs.take (i + 1)).map fun x : Fl => x.1) = ([r.name] ++ (r.pcs.take i).map fun x : Fl => x.1) ++ [r.pcs[i].1] := by rw [List.take_succ_eq_append_getElem hlt, List.map_append, List.map_cons, List.map_nil, List.append_assoc]
  generalize ([r.name] ++ (r.pcs.take i).map fun x : Fl => x.1) = ys at *
  have ha : ys.length + 1 ≤ appendMax := by simp only [appendMax]; omega
  simp [hsz, e1, b1, ht, hc, hlt, hwi, ha]
  exact ih _ _ (by omega) ⟨i + 1, rfl, by omega, ⟨by simp [hsz], by simp [e1], by simp [b1], by simp [k1], by simp [k2], by simp [k3], by simp [k4]⟩, by rw [hs]; simp, by simp⟩
 ·obtain rfl : i = r.pcs.length := by omega
  rw [List.take_length] at ht
  simp [hsz, e1, b1, hc, -q39c10R]
  exact names_end r h _ ⟨by simp [hsz], by simp [e1], by simp [b1], by simp [k1], by simp [k2], by simp [k3], by simp [k4], by simp [ht]⟩
theorem names_go4 (r : Rc) (h : RcSz r) (e : Env) (he : NmEnv4 r e) : Run cx q39c11 e [.fn [(.tmp 2, 4)] []] = some (.one (.ro (.bool (twiceB r))), []) := by
 obtain ⟨hsz, e1, b1, k1, k2, k3, k4⟩ := he
 simp [hsz, e1, b1]
 exact names_loop4 r h _ ⟨by simp [hsz], by simp [e1], by simp [b1], by simp [k1], by simp [k2], by simp [k3], by simp [k4]⟩ (by simp) (by simp)
theorem names_loop3 (r : Rc) (h : RcSz r) (e : Env) (he : NmEnv3 r e) (ht : e.get 9 = .one (.own (SS []))) (hi : e.get 10 = .one (.ro (N 0))) :
  Run cx (.loop q39l3) e [.blk 6, .seq q39c11, .fn [(.tmp 2, 4)] []] = some (.one (.ro (.bool (twiceB r))), []) := by
 obtain ⟨hsz, e1, b1, k1, k2, k3⟩ := he
 have hl := h.srcs
 refine loop_run (fun m e => ∃ i, m = r.srcs.length - i ∧ i ≤ r.srcs.length ∧ NmEnv3 r e ∧ e.get 9 = .one (.own (SS ([] ++ (r.srcs.take i).map fun x : Fl => x.1))) ∧ e.get 10 = .one (.ro (N i)))
  ?_ r.srcs.length _ ⟨0, rfl, Nat.zero_le _, ⟨by simp [hsz], by simp [e1], by simp [b1], by simp [k1], by simp [k2], by simp [k3]⟩, by simp [ht], by simp [hi]⟩
 clear hsz e1 b1 k1 k2 k3 ht hi
 rintro m e ⟨i, rfl, hi, ⟨hsz, e1, b1, k1, k2, k3⟩, ht, hc⟩ ih
 rcases Nat.lt_or_ge i r.srcs.length with hlt | hge
 ·have hwi : IntKind.i64.wrap ((i : Int) + 1) = ((i + 1 : Nat) : Int) := wrap64_succ (by omega)
  have hll : ([] ++ (r.srcs.take i).map fun x : Fl => x.1).length ≤ 1048578 := by simp; omega
  have hs : ([] ++ (r.srcs.take (i + 1)).map fun x : Fl => x.1) = ([] ++ (r.srcs.take i).map fun x : Fl => x.1) ++ [r.srcs[i].1] := by rw [List.take_succ_eq_append_getElem hlt, List.map_append, List.map_cons, List.map_nil, List.append_assoc]
  generalize ([] ++ (r.srcs.take i).map fun x : Fl => x.1) = ys at *
  have ha : ys.length + 1 ≤ appendMax := by simp only [appendMax]; omega
  simp [hsz, e1, b1, ht, hc, hlt, hwi, ha]
  exact ih _ _ (by omega) ⟨i + 1, rfl, by omega, ⟨by simp [hsz], by simp [e1], by simp [b1], by simp [k1], by simp [k2], by simp [k3]⟩, by rw [hs]; simp, by simp⟩
 ·obtain rfl : i = r.srcs.length := by omega
  rw [List.take_length] at ht
  simp [hsz, e1, b1, hc, -q39c11R]
  exact names_go4 r h _ ⟨by simp [hsz], by simp [e1], by simp [b1], by simp [k1], by simp [k2], by simp [k3], by simp [ht]⟩
theorem names_go3 (r : Rc) (h : RcSz r) (e : Env) (he : NmEnv3 r e) : Run cx q39c12 e [.fn [(.tmp 2, 4)] []] = some (.one (.ro (.bool (twiceB r))), []) := by
 obtain ⟨hsz, e1, b1, k1, k2, k3⟩ := he
 simp [hsz]
 exact names_loop3 r h _ ⟨by simp [hsz], by simp [e1], by simp [b1], by simp [k1], by simp [k2], by simp [k3]⟩ (by simp) (by simp)
theorem names_loop2 (r : Rc) (h : RcSz r) (e : Env) (he : NmEnv2 r e) (ht : e.get 7 = .one (.own (SS [r.name]))) (hi : e.get 8 = .one (.ro (N 0))) :
  Run cx (.loop q39l2) e [.blk 4, .seq q39c12, .fn [(.tmp 2, 4)] []] = some (.one (.ro (.bool (twiceB r))), []) := by
 obtain ⟨hsz, e1, b1, k1, k2⟩ := he
 have hl := h.runs
 refine loop_run (fun m e => ∃ i, m = r.runs.length - i ∧ i ≤ r.runs.length ∧ NmEnv2 r e ∧ e.get 7 = .one (.own (SS ([r.name] ++ (r.runs.take i).map fun x : Ne => x.name))) ∧ e.get 8 = .one (.ro (N i)))
  ?_ r.runs.length _ ⟨0, rfl, Nat.zero_le _, ⟨by simp [hsz], by simp [e1], by simp [b1], by simp [k1], by simp [k2]⟩, by simp [ht], by simp [hi]⟩
 clear hsz e1 b1 k1 k2 ht hi
 rintro m e ⟨i, rfl, hi, ⟨hsz, e1, b1, k1, k2⟩, ht, hc⟩ ih
 rcases Nat.lt_or_ge i r.runs.length with hlt | hge
 ·have hwi : IntKind.i64.wrap ((i : Int) + 1) = ((i + 1 : Nat) : Int) := wrap64_succ (by omega)
  have hll : ([r.name] ++ (r.runs.take i).map fun x : Ne => x.name).length ≤ 1048578 := by simp; omega
  have hs : ([r.name] ++ (r.runs.take (i + 1)).map fun x : Ne => x.name) = ([r.name] ++ (r.runs.take i).map fun x : Ne => x.name) ++ [r.runs[i].name] := by rw [List.take_succ_eq_append_getElem hlt, List.map_append, List.map_cons, List.map_nil, List.append_assoc]
  generalize ([r.name] ++ (r.runs.take i).map fun x : Ne => x.name) = ys at *
  have ha : ys.length + 1 ≤ appendMax := by simp only [appendMax]; omega
  simp [hsz, e1, b1, ht, hc, hlt, hwi, ha]
  exact ih _ _ (by omega) ⟨i + 1, rfl, by omega, ⟨by simp [hsz], by simp [e1], by simp [b1], by simp [k1], by simp [k2]⟩, by rw [hs]; simp, by simp⟩
 ·obtain rfl : i = r.runs.length := by omega
  rw [List.take_length] at ht
  simp [hsz, e1, b1, hc, -q39c12R]
  exact names_go3 r h _ ⟨by simp [hsz], by simp [e1], by simp [b1], by simp [k1], by simp [k2], by simp [ht]⟩
theorem names_go2 (r : Rc) (h : RcSz r) (e : Env) (he : NmEnv2 r e) : Run cx q39c13 e [.fn [(.tmp 2, 4)] []] = some (.one (.ro (.bool (twiceB r))), []) := by
 obtain ⟨hsz, e1, b1, k1, k2⟩ := he
 simp [hsz, e1, b1]
 exact names_loop2 r h _ ⟨by simp [hsz], by simp [e1], by simp [b1], by simp [k1], by simp [k2]⟩ (by simp) (by simp)
theorem names_loop1 (r : Rc) (h : RcSz r) (e : Env) (he : NmEnv1 r e) (ht : e.get 5 = .one (.own (SS []))) (hi : e.get 6 = .one (.ro (N 0))) :
  Run cx (.loop q39l1) e [.blk 2, .seq q39c13, .fn [(.tmp 2, 4)] []] = some (.one (.ro (.bool (twiceB r))), []) := by
 obtain ⟨hsz, e1, b1, k1⟩ := he
 have hl := h.builds
 refine loop_run (fun m e => ∃ i, m = r.builds.length - i ∧ i ≤ r.builds.length ∧ NmEnv1 r e ∧ e.get 5 = .one (.own (SS ([] ++ (r.builds.take i).map fun x : Ne => x.name))) ∧ e.get 6 = .one (.ro (N i)))
  ?_ r.builds.length _ ⟨0, rfl, Nat.zero_le _, ⟨by simp [hsz], by simp [e1], by simp [b1], by simp [k1]⟩, by simp [ht], by simp [hi]⟩
 clear hsz e1 b1 k1 ht hi
 rintro m e ⟨i, rfl, hi, ⟨hsz, e1, b1, k1⟩, ht, hc⟩ ih
 rcases Nat.lt_or_ge i r.builds.length with hlt | hge
 ·have hwi : IntKind.i64.wrap ((i : Int) + 1) = ((i + 1 : Nat) : Int) := wrap64_succ (by omega)
  have hll : ([] ++ (r.builds.take i).map fun x : Ne => x.name).length ≤ 1048578 := by simp; omega
  have hs : ([] ++ (r.builds.take (i + 1)).map fun x : Ne => x.name) = ([] ++ (r.builds.take i).map fun x : Ne => x.name) ++ [r.builds[i].name] := by rw [List.take_succ_eq_append_getElem hlt, List.map_append, List.map_cons, List.map_nil, List.append_assoc]
  generalize ([] ++ (r.builds.take i).map fun x : Ne => x.name) = ys at *
  have ha : ys.length + 1 ≤ appendMax := by simp only [appendMax]; omega
  simp [hsz, e1, b1, ht, hc, hlt, hwi, ha]
  exact ih _ _ (by omega) ⟨i + 1, rfl, by omega, ⟨by simp [hsz], by simp [e1], by simp [b1], by simp [k1]⟩, by rw [hs]; simp, by simp⟩
 ·obtain rfl : i = r.builds.length := by omega
  rw [List.take_length] at ht
  simp [hsz, e1, b1, hc, -q39c13R]
  exact names_go2 r h _ ⟨by simp [hsz], by simp [e1], by simp [b1], by simp [k1], by simp [ht]⟩
theorem names_go1 (r : Rc) (h : RcSz r) (e : Env) (he : NmEnv1 r e) : Run cx q39c14 e [.fn [(.tmp 2, 4)] []] = some (.one (.ro (.bool (twiceB r))), []) := by
 obtain ⟨hsz, e1, b1, k1⟩ := he
 simp [hsz]
 exact names_loop1 r h _ ⟨by simp [hsz], by simp [e1], by simp [b1], by simp [k1]⟩ (by simp) (by simp)
theorem names_loop0 (r : Rc) (h : RcSz r) (e : Env) (he : NmEnv0 r e) (ht : e.get 3 = .one (.own (SS [[110, 97, 109, 101], [118, 101, 114, 115, 105, 111, 110]]))) (hi : e.get 4 = .one (.ro (N 0))) :
  Run cx (.loop q39l0) e [.blk 0, .seq q39c14, .fn [(.tmp 2, 4)] []] = some (.one (.ro (.bool (twiceB r))), []) := by
 obtain ⟨hsz, e1, b1⟩ := he
 have hl := h.lets
 refine loop_run (fun m e => ∃ i, m = r.lets.length - i ∧ i ≤ r.lets.length ∧ NmEnv0 r e ∧ e.get 3 = .one (.own (SS ([[110, 97, 109, 101], [118, 101, 114, 115, 105, 111, 110]] ++ (r.lets.take i).map fun x : Fl => x.1))) ∧ e.get 4 = .one (.ro (N i)))
  ?_ r.lets.length _ ⟨0, rfl, Nat.zero_le _, ⟨by simp [hsz], by simp [e1], by simp [b1]⟩, by simp [ht], by simp [hi]⟩
 clear hsz e1 b1 ht hi
 rintro m e ⟨i, rfl, hi, ⟨hsz, e1, b1⟩, ht, hc⟩ ih
 rcases Nat.lt_or_ge i r.lets.length with hlt | hge
 ·have hwi : IntKind.i64.wrap ((i : Int) + 1) = ((i + 1 : Nat) : Int) := wrap64_succ (by omega)
  have hll : ([[110, 97, 109, 101], [118, 101, 114, 115, 105, 111, 110]] ++ (r.lets.take i).map fun x : Fl => x.1).length ≤ 1048578 := by simp; omega
  have hs : ([[110, 97, 109, 101], [118, 101, 114, 115, 105, 111, 110]] ++ (r.lets.take (i + 1)).map fun x : Fl => x.1) = ([[110, 97, 109, 101], [118, 101, 114, 115, 105, 111, 110]] ++ (r.lets.take i).map fun x : Fl => x.1) ++ [r.lets[i].1] := by rw [List.take_succ_eq_append_getElem hlt, List.map_append, List.map_cons, List.map_nil, List.append_assoc]
  generalize ([[110, 97, 109, 101], [118, 101, 114, 115, 105, 111, 110]] ++ (r.lets.take i).map fun x : Fl => x.1) = ys at *
  have ha : ys.length + 1 ≤ appendMax := by simp only [appendMax]; omega
  simp [hsz, e1, b1, ht, hc, hlt, hwi, ha]
  exact ih _ _ (by omega) ⟨i + 1, rfl, by omega, ⟨by simp [hsz], by simp [e1], by simp [b1]⟩, by rw [hs]; simp, by simp⟩
 ·obtain rfl : i = r.lets.length := by omega
  rw [List.take_length] at ht
  simp [hsz, e1, b1, hc, -q39c14R]
  exact names_go1 r h _ ⟨by simp [hsz], by simp [e1], by simp [b1], by simp [ht]⟩
theorem l4Names_ev (r : Rc) (h : RcSz r) : C Fn39 [.ro (RcD r)] [] = some (.one (.ro (.bool (twiceB r))), []) := by
 refine ctx_call Tryz.func39 Cv39 rfl ?_
 simp
 exact names_loop0 r h _ ⟨by simp, by simp, by simp⟩ (by simp) (by simp)
end Go.Qz
namespace Go.Qz
open Go.Proofs
theorem exAll_is {fs : List Fl} {l : List UInt8} (h1 : letsB fs = true) (h2 : lineB l = true) : exAll fs l = exLoop (exVar fs (fs.length + 1) []) [] l := by
 unfold exAll
 rw [h1, h2]
 rfl
theorem lineB_iff {l : List UInt8} : lineB l = true ↔ l.all plainB = true ∧ 1 ≤ l.length ∧ l.length ≤ 80 := by
 unfold lineB inI
 simp only [Bool.and_eq_true, decide_eq_true_eq]
 constructor
 ·rintro ⟨h1, h2, h3⟩; exact ⟨h1, by omega, by omega⟩
 ·rintro ⟨h1, h2, h3⟩; exact ⟨h1, by omega, by omega⟩
def noMark : List UInt8 → Bool
 | [] => true
 | c :: r => !isMark (c :: r) && noMark r
theorem exLoop_noMark {var : List UInt8 → Nat × List UInt8} : ∀ (t out : List UInt8), noMark t = true → exLoop var out t = if 80 < (out ++ t).length then (5, []) else (0, out ++ t)
 | [], out, _ => by rw [exLoop_nil]; simp
 | c :: r, out, h => by
   unfold noMark at h
   simp only [Bool.and_eq_true, Bool.not_eq_true'] at h
   rw [exLoop_char h.1, exLoop_noMark r _ h.2]
   simp
theorem packB_plain {b : UInt8} (h : packB b = true) : plainB b = true ∧ b ≠ 125 ∧ b ≠ 36 := by
 unfold packB lowB at h
 unfold plainB
 simp only [Bool.or_eq_true, Bool.and_eq_true, decide_eq_true_eq] at h ⊢
 refine ⟨by omega, ?_, ?_⟩
 ·rintro rfl; rcases h with h | h <;> simp at h
 ·rintro rfl; rcases h with h | h <;> simp at h
theorem packOk_all {n : List UInt8} (h : packOk n = true) : (∀ b ∈ n, packB b = true) ∧ n.length ≤ 10 := by
 cases n with
 | nil => simp [packOk] at h
 | cons c r =>
   unfold packOk at h
   simp only [Bool.and_eq_true, decide_eq_true_eq, List.all_eq_true] at h
   exact ⟨h.2.2, by simp; omega⟩
theorem cutB_name : ∀ {n : List UInt8} (r : List UInt8), (∀ b ∈ n, b ≠ 125) → cutB (n ++ 125 :: r) = some (n, r)
 | [], r, _ => by simp [cutB]
 | c :: n, r, h => by
   have hc : (c == 125) = false := by have := h c (by simp); simpa using this
   rw [List.cons_append, cutB, hc, cutB_name r (fun b hb => h b (by simp [hb]))]
   rfl
theorem exLoop_name {var : List UInt8 → Nat × List UInt8} {n : List UInt8} (hn : packOk n = true) (out rest : List UInt8) : exLoop var out (36 :: 123 :: (n ++ 125 :: rest)) =
  if (var n).1 = 0 then (if 80 < (out ++ (var n).2).length then (5, []) else exLoop var (out ++ (var n).2) rest) else ((var n).1, []) := by
 have hc := cutB_name (n := n) rest (fun b hb => (packB_plain ((packOk_all hn).1 b hb)).2.1)
 rw [exLoop_some rfl hc]
 simp only [hn, if_true]
theorem name_line {n : List UInt8} (hn : packOk n = true) (a b : List UInt8) (ha : a.all plainB = true) (hb : b.all plainB = true) (hab : a.length + b.length ≤ 10) : lineB (a ++ (36 :: 123 :: (n ++ 125 :: b))) = true := by
 obtain ⟨h1, h2⟩ := packOk_all hn
 refine lineB_iff.2 ⟨?_, by simp; omega, by simp; omega⟩
 have h3 : n.all plainB = true := List.all_eq_true.2 (fun x hx => (packB_plain (h1 x hx)).1)
 simp only [List.all_append, List.all_cons, ha, hb, h3, Bool.and_true, Bool.true_and]
 decide
end Go.Qz
namespace Go.Qz
open Go.Proofs
theorem cutAt_char (b : UInt8) : ∀ (l : List UInt8) (c : UInt8), c ∈ l → c = b ∨ ∃ x ∈ cutAt b l, c ∈ x
 | [], c, h => by cases h
 | a :: r, c, h => by
   rw [cutAt]
   split
   ·rename_i ha
    rcases List.mem_cons.1 h with rfl | h
    ·exact .inl ha
    ·rcases cutAt_char b r c h with h | ⟨x, hx, hc⟩
     ·exact .inl h
     ·exact .inr ⟨x, by simp [hx], hc⟩
   ·cases hq : cutAt b r with
    | nil => exact absurd hq (cutAt_ne b r)
    | cons y t =>
      rcases List.mem_cons.1 h with rfl | h
      ·exact .inr ⟨c :: y, by simp, by simp⟩
      ·rcases cutAt_char b r c h with h | ⟨x, hx, hc⟩
       ·exact .inl h
       ·rw [hq] at hx
        rcases List.mem_cons.1 hx with rfl | hx
        ·exact .inr ⟨a :: x, by simp, by simp [hc]⟩
        ·exact .inr ⟨x, by simp [hx], hc⟩
theorem cutAt_sum (b : UInt8) : ∀ l : List UInt8, ((cutAt b l).map fun x => x.length + 1).sum = l.length + 1
 | [] => by simp [cutAt]
 | a :: r => by
   have ih := cutAt_sum b r
   rw [cutAt]
   split
   ·simp [ih]; omega
   ·cases hq : cutAt b r with
    | nil => exact absurd hq (cutAt_ne b r)
    | cons y t =>
      rw [hq] at ih
      simp at ih ⊢
      omega
theorem sum_le {xs : Lines} {k : Nat} (h : ∀ x ∈ xs, x.length ≤ k) : (xs.map fun x => x.length + 1).sum ≤ xs.length * (k + 1) := by
 induction xs with
 | nil => simp
 | cons x r ih =>
   have h1 := h x (by simp)
   have h2 := ih (fun y hy => h y (by simp [hy]))
   simp only [List.map_cons, List.sum_cons, List.length_cons, Nat.add_mul, Nat.one_mul]
   omega
theorem ver_line {v : List UInt8} (h : verOk v = true) : lineB v = true ∧ (∀ c ∈ v, c ≠ 36) := by
 unfold verOk at h
 simp only [Bool.and_eq_true, decide_eq_true_eq, List.all_eq_true] at h
 obtain ⟨h4, hall⟩ := h
 have hpart : ∀ x ∈ cutAt 46 v, 1 ≤ x.length ∧ x.length ≤ 3 ∧ ∀ c ∈ x, figB c = true := by
  intro x hx
  have hp := hall x hx
  unfold partOk at hp
  have h1 := numI_is (l := x) (m := 999) (x := (numI x 999).1) (by rw [← hp])
  have h2 := numI_le hp
  refine ⟨?_, ?_, fun c hc => ?_⟩
  ·rcases Nat.eq_zero_or_pos x.length with h0 | h0
   ·rw [List.length_eq_zero_iff] at h0
    subst h0
    rw [show (numI [] 999).2 = false by decide] at hp
    cases hp
   ·exact h0
  ·rw [← h1]; exact dec_three _ h2
  ·rw [← h1] at hc; exact dec_fig _ c hc
 have hsum := cutAt_sum 46 v
 have hle := sum_le (k := 3) (fun x hx => (hpart x hx).2.1)
 have hmul : (cutAt 46 v).length * (3 + 1) ≤ 4 * 4 := Nat.mul_le_mul h4 (Nat.le_refl _)
 have hchar : ∀ c ∈ v, c = 46 ∨ figB c = true := fun c hc => by
  rcases cutAt_char 46 v c hc with h | ⟨x, hx, hcx⟩
  ·exact .inl h
  ·exact .inr ((hpart x hx).2.2 c hcx)
 have hfig : ∀ c : UInt8, figB c = true → plainB c = true ∧ c ≠ 36 := fun c hc => by
  unfold figB at hc
  unfold plainB
  simp only [Bool.and_eq_true, decide_eq_true_eq] at hc ⊢
  refine ⟨by omega, ?_⟩
  rintro rfl
  simp at hc
 refine ⟨lineB_iff.2 ⟨List.all_eq_true.2 fun c hc => ?_, ?_, by omega⟩, fun c hc => ?_⟩
 ·rcases hchar c hc with rfl | h
  ·decide
  ·exact (hfig c h).1
 ·rcases Nat.eq_zero_or_pos v.length with h0 | h0
  ·rw [List.length_eq_zero_iff] at h0
   subst h0
   have := (hpart [] (by simp [cutAt])).1
   simp at this
  ·exact h0
 ·rcases hchar c hc with rfl | h
  ·decide
  ·exact (hfig c h).2
theorem noMark_of : ∀ {l : List UInt8}, (∀ c ∈ l, c ≠ 36) → noMark l = true
 | [], _ => rfl
 | c :: r, h => by
   rw [noMark, noMark_of (fun x hx => h x (by simp [hx])), Bool.and_true]
   cases r with
   | nil => rfl
   | cons d r =>
     have := h c (by simp)
     simp [isMark, this]
theorem pack_line {n : List UInt8} (h : packOk n = true) : lineB n = true ∧ (∀ c ∈ n, c ≠ 36) := by
 obtain ⟨h1, h2⟩ := packOk_all h
 refine ⟨lineB_iff.2 ⟨List.all_eq_true.2 fun c hc => (packB_plain (h1 c hc)).1, ?_, by omega⟩, fun c hc => (packB_plain (h1 c hc)).2.2⟩
 cases n with
 | nil => cases h
 | cons c r => simp
def ownR (r : Rc) : List Fl := ([110, 97, 109, 101], r.name) :: ([118, 101, 114, 115, 105, 111, 110], r.ver) :: r.lets
def refT (n : List UInt8) : List UInt8 := 36 :: 123 :: (n ++ [125])
def chk (fs : List Fl) : Lines → Nat
 | [] => 0
 | x :: xs => if (exAll fs x).1 = 0 then chk fs xs else (exAll fs x).1
def outs (fs : List Fl) (xs : Lines) : Lines := xs.map fun x => (exAll fs x).2
def texts (r : Rc) : Lines := (ownR r).map (fun f => refT f.1) ++ r.steps
def rcCheck (r : Rc) : Nat := if formOk r then (if twiceB r then 2 else chk (ownR r) (texts r)) else 1
theorem form_parts {r : Rc} (h : formOk r = true) : packOk r.name = true ∧ verOk r.ver = true ∧ r.lets.length ≤ 6 ∧ r.lets.all letB = true ∧ r.steps.all lineB = true ∧ r.steps.length ≤ 10 := by
 unfold formOk at h
 simp only [Bool.and_eq_true, decide_eq_true_eq] at h
 obtain ⟨⟨⟨⟨b1, b2⟩, a7⟩, ⟨⟨⟨a4, _⟩, _⟩, _⟩, _⟩, ⟨⟨⟨⟨b3, _⟩, _⟩, _⟩, _⟩, a3⟩ := h
 exact ⟨b1, b2, a4, b3, a3, a7⟩
theorem own_lets {r : Rc} (h : formOk r = true) : letsB (ownR r) = true := by
 obtain ⟨h1, h2, h3, h4, h5, _⟩ := form_parts h
 unfold letsB ownR
 rw [List.all_cons, List.all_cons, h4]
 have e1 : letB ([110, 97, 109, 101], r.name) = true := by
  show (packOk [110, 97, 109, 101] && lineB r.name) = true
  rw [(pack_line h1).1]
  decide
 have e2 : letB ([118, 101, 114, 115, 105, 111, 110], r.ver) = true := by
  show (packOk [118, 101, 114, 115, 105, 111, 110] && lineB r.ver) = true
  rw [(ver_line h2).1]
  decide
 rw [e1, e2]
 simp
 omega
theorem own_code {fs : List Fl} (hf : letsB fs = true) {n v : List UInt8} (hfind : findT n fs = some v) (hn : packOk n = true) (hv : lineB v = true) (hm : ∀ c ∈ v, c ≠ 36) : exAll fs (refT n) = (0, v) := by
 have l1 : lineB (36 :: 123 :: (n ++ [125])) = true := name_line hn [] [] rfl rfl (by simp)
 have hv80 := (lineB_iff.1 hv).2.2
 have hxv : exVar fs (fs.length + 1) [] n = (0, v) := by
  rw [exVar, hfind]
  show exLoop _ [] v = _
  rw [exLoop_noMark v [] (noMark_of hm), if_neg (by simp; omega)]
  rfl
 unfold refT
 rw [exAll_is hf l1, exLoop_name hn [] [], hxv]
 simp only [if_true]
 rw [if_neg (by simp; omega), exLoop_nil, if_neg (by simp; omega)]
 rfl
theorem own_name {r : Rc} (h : formOk r = true) : exAll (ownR r) (refT [110, 97, 109, 101]) = (0, r.name) := by
 have hp := form_parts h
 exact own_code (own_lets h) rfl (by decide) (pack_line hp.1).1 (pack_line hp.1).2
theorem own_ver {r : Rc} (h : formOk r = true) : exAll (ownR r) (refT [118, 101, 114, 115, 105, 111, 110]) = (0, r.ver) := by
 have hp := form_parts h
 exact own_code (own_lets h) (by simp [ownR, findT]) (by decide) (ver_line hp.2.1).1 (ver_line hp.2.1).2
theorem chk_own {r : Rc} (h : formOk r = true) : chk (ownR r) (texts r) = chk (ownR r) (r.lets.map (fun f => refT f.1) ++ r.steps) := by
 have e : texts r = refT [110, 97, 109, 101] :: refT [118, 101, 114, 115, 105, 111, 110] :: (r.lets.map (fun f => refT f.1) ++ r.steps) := rfl
 rw [e, chk, own_name h, if_pos rfl, chk, own_ver h, if_pos rfl]
theorem chk_zero {fs : List Fl} : ∀ {xs : Lines}, chk fs xs = 0 → ∀ x ∈ xs, (exAll fs x).1 = 0
 | [], _, x, hx => by cases hx
 | y :: xs, h, x, hx => by
   rw [chk] at h
   split at h
   ·rename_i h0
    rcases List.mem_cons.1 hx with rfl | hx
    ·exact h0
    ·exact chk_zero h x hx
   ·rename_i h0; exact absurd h h0
end Go.Qz
namespace Go.Qz
open Go.Proofs
theorem recipeLets_ev (r : Rc) (h : RcSz r) : C Fn105 [.ro (RcD r)] [] = some (.one (.own (FS (ownR r))), []) := by
 refine ctx_call Tryz.func105 Cv105 rfl ?_
 have ha : 2 + r.lets.length ≤ appendMax := by have := h.lets; simp [appendMax]; omega
 simp [ownR, ha]
theorem l4Own_ev (r : Rc) (h : RcSz r) : C Fn41 [.ro (RcD r)] [] = some (.one (.own (FS (ownR r))), []) := by
 refine ctx_call Tryz.func41 Cv41 rfl ?_
 have ha : 2 + r.lets.length ≤ appendMax := by have := h.lets; simp [appendMax]; omega
 simp [ownR, ha]
theorem own_sz {r : Rc} (h : RcSz r) : (ownR r).length ≤ 1048578 ∧ ∀ f ∈ ownR r, f.1.length ≤ 1048576 ∧ f.2.length ≤ 1048576 := by
 have := h.lets
 refine ⟨by simp [ownR]; omega, fun f hf => ?_⟩
 simp only [ownR, List.mem_cons] at hf
 rcases hf with rfl | rfl | hf
 ·exact ⟨by simp, h.name⟩
 ·exact ⟨by simp, h.ver⟩
 ·exact h.letz f hf
theorem recipeSteps_ev (r : Rc) (h : RcSz r) : C Fn37 [.ro (RcD r)] [] =
  some (.tup [.own (SS (if chk (ownR r) (texts r) = 0 then outs (ownR r) r.steps else [])), .ro (N (chk (ownR r) (texts r)))], []) := by
 refine ctx_call Tryz.func37 Cv37 rfl ?_
 have hl := recipeLets_ev r h
 obtain ⟨hn, hsz2⟩ := own_sz h
 unfold texts
 generalize ownR r = fs at *
 have hst := h.steps
 have hE : ∀ l : List UInt8, l.length ≤ 1048600 → C Fn106 [.ro (FS fs), .ro (T l)] [] = some (.tup [.ro (T (exAll fs l).2), .ro (N (exAll fs l).1)], []) := fun l hl =>
  ExpandI_ev fs l (by omega) (fun f hf => ⟨by have := (hsz2 f hf).1; omega, by have := (hsz2 f hf).2; omega⟩) (by omega)
 have go2 : ∀ e : Env, e.size = 57 → e.get 1 = .one (.ptr 1 0) → e.box 1 = some (RB1 r) → e.get 4 = .one (.own (FS fs)) →
   Run cx q37c6 e [.fn [(.tmp 2, 27), (.tmp 3, 3)] []] = some (.tup [.own (SS (if chk fs r.steps = 0 then outs fs r.steps else [])), .ro (N (chk fs r.steps))], []) := by
  intro e hsz e1 b1 e4
  simp [hsz, e1, b1]
  refine loop_run (fun m e => ∃ i, m = r.steps.length - i ∧ i ≤ r.steps.length ∧ e.size = 57 ∧ e.get 4 = .one (.own (FS fs)) ∧ e.get 9 = .one (.own (SS (outs fs (r.steps.take i)))) ∧ e.get 36 = .one (.ro (SS r.steps)) ∧ e.get 37 = .one (.ro (N r.steps.length)) ∧ e.get 38 = .one (.ro (N i)) ∧
   chk fs (r.steps.drop i) = chk fs r.steps) ?_ r.steps.length _ ⟨0, rfl, Nat.zero_le _, by simp [hsz], by simp [e4], by simp [outs], by simp, by simp, by simp, rfl⟩
  clear hsz e1 b1 e4
  rintro m e ⟨i, rfl, hi, hsz, e4, e9, e36, e37, e38, hr⟩ ih
  rcases Nat.lt_or_ge i r.steps.length with hlt | hge
  ·have hd : r.steps.drop i = r.steps[i] :: r.steps.drop (i + 1) := List.drop_eq_getElem_cons hlt
   have hwi : IntKind.i64.wrap ((i : Int) + 1) = ((i + 1 : Nat) : Int) := wrap64_succ (by omega)
   have hev := hE r.steps[i] (by have := h.step _ (List.getElem_mem hlt); omega)
   rw [hd, chk] at hr
   have ho : outs fs (r.steps.take (i + 1)) = outs fs (r.steps.take i) ++ [(exAll fs r.steps[i]).2] := by
    unfold outs
    rw [List.take_succ_eq_append_getElem hlt, List.map_append, List.map_cons, List.map_nil]
   have hol : (outs fs (r.steps.take i)).length ≤ 1048576 := by unfold outs; simp; omega
   generalize exAll fs r.steps[i] = xv at *
   obtain ⟨c, x⟩ := xv
   simp only at hev hr ho
   generalize outs fs (r.steps.take i) = ys at *
   have ha : ys.length + 1 ≤ appendMax := by simp only [appendMax]; omega
   by_cases hc : c = 0
   ·subst hc
    rw [if_pos rfl] at hr
    simp [hsz, e4, e9, e36, e37, e38, hlt, hwi, hev, ha]
    exact ih _ _ (by omega) ⟨i + 1, rfl, by omega, by simp [hsz], by simp [e4], by rw [ho]; simp, by simp [e36], by simp [e37], by simp, hr⟩
   ·rw [if_neg hc] at hr
    have hc' : (c == 0) = false := by simpa using hc
    have hc2 : ¬ chk fs r.steps = 0 := by rw [← hr]; exact hc
    rw [← hr]
    simp [hsz, e4, e36, e37, e38, hlt, hev, hc, hc']
  ·obtain rfl : i = r.steps.length := by omega
   rw [List.drop_length, chk] at hr
   rw [List.take_length] at e9
   rw [← hr]
   simp [hsz, e9, e37, e38]
 simp [hl]
 refine loop_run (fun m e => ∃ i, m = fs.length - i ∧ i ≤ fs.length ∧ e.size = 57 ∧ e.get 1 = .one (.ptr 1 0) ∧ e.box 1 = some (RB1 r) ∧ e.get 4 = .one (.own (FS fs)) ∧ e.get 16 = .one (.view ⟨.tmp 4, []⟩) ∧ e.get 17 = .one (.ro (N fs.length)) ∧ e.get 18 = .one (.ro (N i)) ∧
  chk fs ((fs.drop i).map (fun f => refT f.1) ++ r.steps) = chk fs (fs.map (fun f => refT f.1) ++ r.steps)) ?_ fs.length _ ⟨0, rfl, Nat.zero_le _, by simp, by simp, by simp, by simp, by simp, by simp, by simp, rfl⟩
 rintro m e ⟨i, rfl, hi, hsz, e1, b1, e4, e16, e17, e18, hr⟩ ih
 rcases Nat.lt_or_ge i fs.length with hlt | hge
 ·have hd : fs.drop i = fs[i] :: fs.drop (i + 1) := List.drop_eq_getElem_cons hlt
  have hwi : IntKind.i64.wrap ((i : Int) + 1) = ((i + 1 : Nat) : Int) := wrap64_succ (by omega)
  have hz := (hsz2 _ (List.getElem_mem hlt)).1
  have hev := hE (refT fs[i].1) (by unfold refT; simp; omega)
  rw [hd, List.map_cons, List.cons_append, chk] at hr
  unfold refT at hev
  have m1 : 2 + fs[i].1.length ≤ maxStr := by simp only [maxStr]; omega
  have m2 : fs[i].1.length + 1 + 1 + 1 ≤ maxStr := by simp only [maxStr]; omega
  rw [show refT fs[i].1 = 36 :: 123 :: (fs[i].1 ++ [125]) from rfl] at hr
  generalize exAll fs (36 :: 123 :: (fs[i].1 ++ [125])) = xv at *
  obtain ⟨c, x⟩ := xv
  simp only at hev hr
  by_cases hc : c = 0
  ·subst hc
   rw [if_pos rfl] at hr
   simp [hsz, e4, e16, e17, e18, hlt, hwi, hev, m1, m2]
   exact ih _ _ (by omega) ⟨i + 1, rfl, by omega, by simp [hsz], by simp [e1], by simp [b1], by simp [e4], by simp [e16], by simp [e17], by simp, hr⟩
  ·rw [if_neg hc] at hr
   have hc' : (c == 0) = false := by simpa using hc
   rw [← hr]
   simp [hsz, e4, e16, e17, e18, hlt, hev, m1, m2, hc, hc']
 ·obtain rfl : i = fs.length := by omega
  rw [List.drop_length, List.map_nil, List.nil_append] at hr
  rw [← hr]
  simp [hsz, e17, e18, -q37c6R]
  exact go2 _ (by simp [hsz]) (by simp [e1]) (by simp [b1]) (by simp [e4])
theorem RecipeCheckI_ev (r : Rc) (h : RcSz r) : C Fn12 [.ro (RcD r)] [] = some (.one (.ro (N (rcCheck r))), []) := by
 refine ctx_call Tryz.func12 Cv12 rfl ?_
 have h1 := recipeForm_ev r h
 have h2 := recipeTwice_ev r h
 have h3 := recipeSteps_ev r h
 unfold rcCheck
 generalize formOk r = b1 at *
 generalize twiceB r = b2 at *
 generalize chk (ownR r) (texts r) = c at *
 cases b1
 ·simp [h1]
 ·cases b2
  ·simp [h1, h2, h3]
  ·simp [h1, h2]
def rcSteps (r : Rc) : Lines := if rcCheck r = 0 then outs (ownR r) r.steps else []
theorem check_zero {r : Rc} (h : rcCheck r = 0) : formOk r = true ∧ twiceB r = false ∧ chk (ownR r) (texts r) = 0 := by
 unfold rcCheck at h
 split at h
 ·rename_i h1
  split at h
  ·cases h
  ·rename_i h2
   exact ⟨h1, by simpa using h2, h⟩
 ·cases h
theorem RecipeStepsI_ev (r : Rc) (h : RcSz r) : C Fn15 [.ro (RcD r)] [] = some (.one (.own (SS (rcSteps r))), []) := by
 refine ctx_call Tryz.func15 Cv15 rfl ?_
 have h1 := RecipeCheckI_ev r h
 have h3 := recipeSteps_ev r h
 unfold rcSteps
 by_cases hc : rcCheck r = 0
 ·rw [(check_zero hc).2.2] at h3
  rw [hc] at h1 ⊢
  simp only [if_true] at h3 ⊢
  simp [h1, h3]
 ·have hc' : (rcCheck r == 0) = false := by simpa using hc
  rw [if_neg hc]
  generalize rcCheck r = c at *
  simp [h1, hc']
end Go.Qz
namespace Go.Qz
open Go.Proofs
theorem expS_ev {fs : List Fl} (hf : letsB fs = true) {l : List UInt8} (hl : lineB l = true) : C Fn40 [.ro (FS fs), .ro (T l), .ro (.sl 1 [])] [] = some (.tup [.ro (T (exAll fs l).2), .ro (N (exAll fs l).1)], []) := by
 rw [exAll_is hf hl]
 exact l4Expand_ev fs (letsB_lets hf) (fs.length + 1) [] l (deep_all fs) (lineB_len hl)
theorem let_name {fs : List Fl} (h : fs.all letB = true) {i : Nat} (hi : i < fs.length) : packOk fs[i].1 = true := by
 have := List.all_eq_true.1 h _ (List.getElem_mem hi)
 unfold letB at this
 simp only [Bool.and_eq_true] at this
 exact this.1
set_option maxHeartbeats 2000000 in
theorem RecipeCheckS_ev (r : Rc) (h : RcSz r) : C Fn13 [.ro (RcD r)] [] = some (.one (.ro (N (rcCheck r))), []) := by
 refine ctx_call Tryz.func13 Cv13 rfl ?_
 have h1 := l4Form_ev r h
 have h2 := l4Names_ev r h
 have hown := l4Own_ev r h
 unfold rcCheck
 cases hf : formOk r with
 | false => rw [hf] at h1; simp [h1]
 | true =>
   rw [hf] at h1
   simp only [if_true]
   cases ht : twiceB r with
   | true => rw [ht] at h2; simp [h1, h2]
   | false =>
     rw [ht] at h2
     simp only [Bool.false_eq_true, if_false]
     rw [chk_own hf]
     obtain ⟨p1, p2, p3, p4, p5, p6⟩ := form_parts hf
     have hfs := own_lets hf
     generalize ownR r = fs at *
     have hst : ∀ i (hi : i < r.steps.length), C Fn40 [.ro (FS fs), .ro (T r.steps[i]), .ro (.sl 1 [])] [] = some (.tup [.ro (T (exAll fs r.steps[i]).2), .ro (N (exAll fs r.steps[i]).1)], []) := fun i hi =>
      expS_ev hfs (List.all_eq_true.1 p5 _ (List.getElem_mem hi))
     have hrf : ∀ i (hi : i < r.lets.length), C Fn40 [.ro (FS fs), .ro (T (36 :: 123 :: (r.lets[i].1 ++ [125]))), .ro (.sl 1 [])] [] = some (.tup [.ro (T (exAll fs (36 :: 123 :: (r.lets[i].1 ++ [125]))).2), .ro (N (exAll fs (36 :: 123 :: (r.lets[i].1 ++ [125]))).1)], []) := fun i hi =>
      expS_ev hfs (name_line (let_name p4 hi) [] [] rfl rfl (by simp))
     have go2 : ∀ e : Env, e.size = 61 → e.get 1 = .one (.ptr 1 0) → e.box 1 = some (RB1 r) → Run cx q13c5 e [.fn [(.tmp 2, 3)] []] = some (.one (.ro (N (chk fs r.steps))), []) := by
      intro e hsz e1 b1
      simp [hsz]
      refine loop_run (fun m e => ∃ i, m = r.steps.length - i ∧ i ≤ r.steps.length ∧ e.size = 61 ∧ e.get 1 = .one (.ptr 1 0) ∧ e.box 1 = some (RB1 r) ∧ e.get 6 = .one (.ro (N i)) ∧ chk fs (r.steps.drop i) = chk fs r.steps)
       ?_ r.steps.length _ ⟨0, rfl, Nat.zero_le _, by simp [hsz], by simp [e1], by simp [b1], by simp, rfl⟩
      clear hsz e1 b1
      rintro m e ⟨i, rfl, hi, hsz, e1, b1, e6, hr⟩ ih
      rcases Nat.lt_or_ge i r.steps.length with hlt | hge
      ·have hd : r.steps.drop i = r.steps[i] :: r.steps.drop (i + 1) := List.drop_eq_getElem_cons hlt
       have hwi : IntKind.i64.wrap ((i : Int) + 1) = ((i + 1 : Nat) : Int) := wrap64_succ (by omega)
       have hev := hst i hlt
       rw [hd, chk] at hr
       generalize exAll fs r.steps[i] = xv at *
       obtain ⟨c, x⟩ := xv
       simp only at hev hr
       by_cases hc : c = 0
       ·subst hc
        rw [if_pos rfl] at hr
        simp [hsz, e1, b1, e6, hlt, hwi, hown, hev]
        exact ih _ _ (by omega) ⟨i + 1, rfl, by omega, by simp [hsz], by simp [e1], by simp [b1], by simp, hr⟩
       ·rw [if_neg hc] at hr
        have hc' : (c == 0) = false := by simpa using hc
        rw [← hr]
        simp [hsz, e1, b1, e6, hlt, hown, hev, hc']
      ·obtain rfl : i = r.steps.length := by omega
       rw [List.drop_length, chk] at hr
       rw [← hr]
       simp [hsz, e1, b1, e6]
     simp [h1, h2]
     refine loop_run (fun m e => ∃ i, m = r.lets.length - i ∧ i ≤ r.lets.length ∧ e.size = 61 ∧ e.get 1 = .one (.ptr 1 0) ∧ e.box 1 = some (RB1 r) ∧ e.get 3 = .one (.ro (N i)) ∧
      chk fs ((r.lets.drop i).map (fun f => refT f.1) ++ r.steps) = chk fs (r.lets.map (fun f => refT f.1) ++ r.steps)) ?_ r.lets.length _ ⟨0, rfl, Nat.zero_le _, by simp, by simp, by simp, by simp, rfl⟩
     rintro m e ⟨i, rfl, hi, hsz, e1, b1, e3, hr⟩ ih
     rcases Nat.lt_or_ge i r.lets.length with hlt | hge
     ·have hd : r.lets.drop i = r.lets[i] :: r.lets.drop (i + 1) := List.drop_eq_getElem_cons hlt
      have hwi : IntKind.i64.wrap ((i : Int) + 1) = ((i + 1 : Nat) : Int) := wrap64_succ (by omega)
      have hev := hrf i hlt
      have hz := (h.letz _ (List.getElem_mem hlt)).1
      have m1 : 2 + r.lets[i].1.length ≤ maxStr := by simp only [maxStr]; omega
      have m2 : r.lets[i].1.length + 1 + 1 + 1 ≤ maxStr := by simp only [maxStr]; omega
      rw [hd, List.map_cons, List.cons_append, chk, show refT r.lets[i].1 = 36 :: 123 :: (r.lets[i].1 ++ [125]) from rfl] at hr
      generalize exAll fs (36 :: 123 :: (r.lets[i].1 ++ [125])) = xv at *
      obtain ⟨c, x⟩ := xv
      simp only at hev hr
      by_cases hc : c = 0
      ·subst hc
       rw [if_pos rfl] at hr
       simp [hsz, e1, b1, e3, hlt, hwi, hown, hev, m1, m2]
       exact ih _ _ (by omega) ⟨i + 1, rfl, by omega, by simp [hsz], by simp [e1], by simp [b1], by simp, hr⟩
      ·rw [if_neg hc] at hr
       have hc' : (c == 0) = false := by simpa using hc
       rw [← hr]
       simp [hsz, e1, b1, e3, hlt, hown, hev, m1, m2, hc']
     ·obtain rfl : i = r.lets.length := by omega
      rw [List.drop_length, List.map_nil, List.nil_append] at hr
      rw [← hr]
      simp [hsz, e1, b1, e3, -q13c5R]
      exact go2 _ (by simp [hsz]) (by simp [e1]) (by simp [b1])
theorem RecipeStepsS_ev (r : Rc) (h : RcSz r) : C Fn17 [.ro (RcD r)] [] = some (.one (.own (SS (rcSteps r))), []) := by
 refine ctx_call Tryz.func17 Cv17 rfl ?_
 have h1 := RecipeCheckS_ev r h
 have hown := l4Own_ev r h
 unfold rcSteps
 by_cases hc : rcCheck r = 0
 ·rw [hc] at h1 ⊢
  simp only [if_true]
  obtain ⟨hf, _, _⟩ := check_zero hc
  obtain ⟨p1, p2, p3, p4, p5, p6⟩ := form_parts hf
  have hfs := own_lets hf
  generalize ownR r = fs at *
  have hst : ∀ i (hi : i < r.steps.length), C Fn40 [.ro (FS fs), .ro (T r.steps[i]), .ro (.sl 1 [])] [] = some (.tup [.ro (T (exAll fs r.steps[i]).2), .ro (N (exAll fs r.steps[i]).1)], []) := fun i hi =>
   expS_ev hfs (List.all_eq_true.1 p5 _ (List.getElem_mem hi))
  simp [h1]
  refine loop_run (fun m e => ∃ i, m = r.steps.length - i ∧ i ≤ r.steps.length ∧ e.size = 36 ∧ e.get 1 = .one (.ptr 1 0) ∧ e.box 1 = some (RB1 r) ∧ e.get 4 = .one (.ro (N i)) ∧ e.get 3 = .one (.own (SS (outs fs (r.steps.take i)))))
   ?_ r.steps.length _ ⟨0, rfl, Nat.zero_le _, by simp, by simp, by simp, by simp, by simp [outs]⟩
  rintro m e ⟨i, rfl, hi, hsz, e1, b1, e4, e3⟩ ih
  rcases Nat.lt_or_ge i r.steps.length with hlt | hge
  ·have hwi : IntKind.i64.wrap ((i : Int) + 1) = ((i + 1 : Nat) : Int) := wrap64_succ (by omega)
   have hev := hst i hlt
   have ho : outs fs (r.steps.take (i + 1)) = outs fs (r.steps.take i) ++ [(exAll fs r.steps[i]).2] := by
    unfold outs
    rw [List.take_succ_eq_append_getElem hlt, List.map_append, List.map_cons, List.map_nil]
   have hol : (outs fs (r.steps.take i)).length ≤ 1048576 := by unfold outs; simp; omega
   generalize exAll fs r.steps[i] = xv at *
   obtain ⟨c, x⟩ := xv
   simp only at hev ho
   generalize outs fs (r.steps.take i) = ys at *
   have ha : ys.length + 1 ≤ appendMax := by simp only [appendMax]; omega
   simp [hsz, e1, b1, e3, e4, hlt, hwi, hown, hev, ha]
   exact ih _ _ (by omega) ⟨i + 1, rfl, by omega, by simp [hsz], by simp [e1], by simp [b1], by simp, by rw [ho]; simp⟩
  ·obtain rfl : i = r.steps.length := by omega
   rw [List.take_length] at e3
   simp [hsz, e1, b1, e3, e4]
 ·have hc' : (rcCheck r == 0) = false := by simpa using hc
  rw [if_neg hc]
  generalize rcCheck r = c at *
  simp [h1, hc']
end Go.Qz
namespace Go.Qz
open Go.Proofs
theorem RcSm.sz {r : Rc} {n : Nat} (h : RcSm r n) (hn : n ≤ 100) : RcSz r where
 name := by have := h.name; omega
 ver := by have := h.ver; omega
 lets := by have := h.lets.1; omega
 builds := by have := h.builds.1; omega
 runs := by have := h.runs.1; omega
 srcs := by have := h.srcs.1; omega
 pcs := by have := h.pcs.1; omega
 steps := by have := h.steps.1; omega
 letz := fun f hf => ⟨by have := (h.lets.2 f hf).1; omega, by have := (h.lets.2 f hf).2; omega⟩
 bld := fun f hf => ⟨by have := (h.builds.2 f hf).1; omega, by have := (h.builds.2 f hf).2; omega⟩
 run := fun f hf => ⟨by have := (h.runs.2 f hf).1; omega, by have := (h.runs.2 f hf).2; omega⟩
 src := fun f hf => ⟨by have := (h.srcs.2 f hf).1; omega, by have := (h.srcs.2 f hf).2; omega⟩
 pc := fun f hf => ⟨by have := (h.pcs.2 f hf).1; omega, by have := (h.pcs.2 f hf).2; omega⟩
 step := fun x hx => by have := h.steps.2 x hx; omega
def oneStep (r : Rc) : Rc := { r with steps := [[36, 123, 110, 97, 109, 101, 125, 32, 36, 123, 118, 101, 114, 115, 105, 111, 110, 125]] }
theorem form_all {r : Rc} : formOk r = true ↔ packOk r.name = true ∧ verOk r.ver = true ∧ r.steps.length ≤ 10 ∧ r.lets.length ≤ 6 ∧ r.builds.length ≤ 6 ∧ r.runs.length ≤ 6 ∧ r.srcs.length ≤ 6 ∧ r.pcs.length ≤ 6 ∧
  r.lets.all letB = true ∧ r.builds.all needOk = true ∧ r.runs.all needOk = true ∧ r.srcs.all srcOk = true ∧ r.pcs.all pcOk = true ∧ r.steps.all lineB = true := by
 unfold formOk
 simp only [Bool.and_eq_true, decide_eq_true_eq]
 constructor
 ·rintro ⟨⟨⟨⟨b1, b2⟩, a7⟩, ⟨⟨⟨a4, c1⟩, c2⟩, c3⟩, c4⟩, ⟨⟨⟨⟨b3, c5⟩, c6⟩, c7⟩, c8⟩, a3⟩
  exact ⟨b1, b2, a7, a4, c1, c2, c3, c4, b3, c5, c6, c7, c8, a3⟩
 ·rintro ⟨b1, b2, a7, a4, c1, c2, c3, c4, b3, c5, c6, c7, c8, a3⟩
  exact ⟨⟨⟨⟨b1, b2⟩, a7⟩, ⟨⟨⟨a4, c1⟩, c2⟩, c3⟩, c4⟩, ⟨⟨⟨⟨b3, c5⟩, c6⟩, c7⟩, c8⟩, a3⟩
theorem exLoop_le {var : List UInt8 → Nat × List UInt8} (hv : ∀ n, (var n).1 ≤ 5) : ∀ (k : Nat) (out text : List UInt8), text.length ≤ k → (exLoop var out text).1 ≤ 5
 | k, out, [], _ => by rw [exLoop_nil]; split <;> simp
 | 0, out, c :: r, h => by simp at h
 | k + 1, out, c :: r, h => by
   cases hm : isMark (c :: r) with
   | false =>
     rw [exLoop_char hm]
     exact exLoop_le hv k _ _ (by simp at h; omega)
   | true =>
     obtain ⟨q, hq⟩ := isMark_two hm
     rw [hq] at hm h ⊢
     cases hc : cutB q with
     | none => rw [exLoop_none hm hc]; simp
     | some p =>
       have := cutB_len (n := p.1) (r := p.2) hc
       rw [exLoop_some hm hc]
       split
       ·split
        ·split
         ·simp
         ·exact exLoop_le hv k _ _ (by simp at h; omega)
        ·exact hv _
       ·simp
theorem exVar_le (fs : List Fl) : ∀ (d : Nat) (us : Lines) (n : List UInt8), (exVar fs d us n).1 ≤ 5
 | 0, us, n => by rw [exVar]; simp
 | d + 1, us, n => by
   rw [exVar]
   split
   ·simp
   ·split
    ·simp
    ·exact exLoop_le (exVar_le fs d _) _ _ _ (Nat.le_refl _)
theorem exAll_le (fs : List Fl) (l : List UInt8) : (exAll fs l).1 ≤ 5 := by
 unfold exAll
 split
 ·exact exLoop_le (exVar_le fs _ _) _ _ _ (Nat.le_refl _)
 ·simp
theorem chk_le (fs : List Fl) : ∀ xs : Lines, chk fs xs ≤ 5
 | [] => Nat.zero_le _
 | x :: xs => by
   rw [chk]
   split
   ·exact chk_le fs xs
   ·exact exAll_le fs x
theorem rcCheck_le (r : Rc) : rcCheck r ≤ 5 := by
 unfold rcCheck
 split
 ·split
  ·omega
  ·exact chk_le _ _
 ·omega
theorem chk_all {fs : List Fl} : ∀ {xs : Lines}, (∀ x ∈ xs, (exAll fs x).1 = 0) → chk fs xs = 0
 | [], _ => rfl
 | x :: xs, h => by
   rw [chk, if_pos (h x (by simp))]
   exact chk_all fun y hy => h y (by simp [hy])
theorem ver_len {v : List UInt8} (h : verOk v = true) : v.length ≤ 60 := by
 unfold verOk at h
 simp only [Bool.and_eq_true, decide_eq_true_eq, List.all_eq_true] at h
 obtain ⟨h4, hall⟩ := h
 have hs := cutAt_sum 46 v
 have h3 : ∀ x ∈ cutAt 46 v, x.length ≤ 3 := by
  intro x hx
  have hp := hall x hx
  unfold partOk at hp
  have h1 := numI_is (l := x) (m := 999) (x := (numI x 999).1) (by rw [← hp])
  have h2 := numI_le hp
  rw [← h1]; exact dec_three _ h2
 have := sum_le h3
 have : (cutAt 46 v).length * 4 ≤ 4 * 4 := Nat.mul_le_mul_right _ h4
 omega
theorem one_step {r : Rc} (h : rcCheck r = 0) : rcCheck (oneStep r) = 0 ∧ rcSteps (oneStep r) = [r.name ++ 32 :: r.ver] := by
 obtain ⟨hf, ht, hc⟩ := check_zero h
 obtain ⟨b1, b2, a7, a4, c1, c2, c3, c4, b3, c5, c6, c7, c8, a3⟩ := form_all.1 hf
 have hline : lineB [36, 123, 110, 97, 109, 101, 125, 32, 36, 123, 118, 101, 114, 115, 105, 111, 110, 125] = true := by decide
 have f2 : formOk (oneStep r) = true := form_all.2 ⟨b1, b2, by simp [oneStep], a4, c1, c2, c3, c4, b3, c5, c6, c7, c8, by
  show ([_] : Lines).all lineB = true
  decide⟩
 have t2 : twiceB (oneStep r) = false := ht
 have hn : exVar (ownR r) ((ownR r).length + 1) [] [110, 97, 109, 101] = (0, r.name) := by
  rw [exVar, show findT [110, 97, 109, 101] (ownR r) = some r.name from rfl]
  have h80 := (lineB_iff.1 (pack_line b1).1).2.2
  show exLoop _ [] r.name = _
  rw [exLoop_noMark r.name [] (noMark_of (pack_line b1).2), if_neg (by simp; omega)]
  rfl
 have hv : exVar (ownR r) ((ownR r).length + 1) [] [118, 101, 114, 115, 105, 111, 110] = (0, r.ver) := by
  rw [exVar, show findT [118, 101, 114, 115, 105, 111, 110] (ownR r) = some r.ver from by simp [ownR, findT]]
  have h80 := (lineB_iff.1 (ver_line b2).1).2.2
  show exLoop _ [] r.ver = _
  rw [exLoop_noMark r.ver [] (noMark_of (ver_line b2).2), if_neg (by simp; omega)]
  rfl
 have l1 : r.name.length ≤ 10 := (packOk_all b1).2
 have l2 := ver_len b2
 have hx : exAll (ownR r) [36, 123, 110, 97, 109, 101, 125, 32, 36, 123, 118, 101, 114, 115, 105, 111, 110, 125] = (0, r.name ++ 32 :: r.ver) := by
  rw [exAll_is (own_lets hf) hline]
  have e1 := exLoop_name (var := exVar (ownR r) ((ownR r).length + 1) []) (n := [110, 97, 109, 101]) (by decide) [] [32, 36, 123, 118, 101, 114, 115, 105, 111, 110, 125]
  rw [hn] at e1
  have e2 := exLoop_name (var := exVar (ownR r) ((ownR r).length + 1) []) (n := [118, 101, 114, 115, 105, 111, 110]) (by decide) (r.name ++ [32]) []
  rw [hv] at e2
  simp only [List.cons_append, List.nil_append, if_true] at e1 e2
  rw [e1, if_neg (by simp; omega), exLoop_char (by decide)]
  rw [e2, if_neg (by simp; omega), exLoop_nil, if_neg (by simp; omega)]
  simp
 have h2 : rcCheck (oneStep r) = 0 := by
  unfold rcCheck
  rw [f2, t2]
  show chk (ownR r) ((ownR r).map (fun f => refT f.1) ++ [_]) = 0
  refine chk_all fun x hx' => ?_
  have hz := chk_zero hc
  rcases List.mem_append.1 hx' with h1 | h1
  ·exact hz x (List.mem_append_left _ h1)
  ·obtain rfl := List.mem_singleton.1 h1
   rw [hx]
 refine ⟨h2, ?_⟩
 unfold rcSteps
 rw [if_pos h2]
 show outs (ownR r) [_] = _
 unfold outs
 rw [List.map_singleton, hx]
end Go.Qz
namespace Go.Qz
open Go.Proofs
theorem jsTexts_self (xs : Lines) (hn : xs.length ≤ 1048576) : C Fn16 [.ro (SS xs), .ro (SS xs)] [] = some (.one (.ro (.bool true)), []) := by
 refine ctx_call Tryz.func16 Cv16 rfl ?_
 simp
 refine loop_run (fun m e => ∃ i, m = xs.length - i ∧ i ≤ xs.length ∧ e.size = 26 ∧ e.get 0 = .one (.ro (SS xs)) ∧ e.get 1 = .one (.ro (SS xs)) ∧ e.get 5 = .one (.ro (N i)))
  ?_ xs.length _ ⟨0, rfl, Nat.zero_le _, by simp, by simp, by simp, by simp⟩
 rintro m e ⟨i, rfl, hi, hsz, h0, h1, h5⟩ ih
 rcases Nat.lt_or_ge i xs.length with hlt | hge
 ·have hwi : IntKind.i64.wrap ((i : Int) + 1) = ((i + 1 : Nat) : Int) := wrap64_succ (by omega)
  simp [hsz, h0, h1, h5, hlt, hwi]
  exact ih _ _ (by omega) ⟨i + 1, rfl, by omega, by simp [hsz], by simp [h0], by simp [h1], by simp⟩
 ·obtain rfl : i = xs.length := by omega
  simp [hsz, h0, h5]
end Go.Qz
namespace Go.Qz
open Go.Proofs
theorem RcSm.oneStep {r : Rc} {n : Nat} (h : RcSm r n) : RcSm (oneStep r) (n + 1) := ⟨h.name, h.ver, h.lets.up (by omega), h.builds.up (by omega), h.runs.up (by omega), h.srcs.up (by omega), h.pcs.up (by omega), ⟨by simp [Go.Qz.oneStep], by simp [Go.Qz.oneStep]⟩⟩
set_option maxRecDepth 4000 in
theorem recipeSteps_law (bs : List Int) (hb : ∀ b ∈ bs, 0 ≤ b ∧ b ≤ 255) : C Fn5 [.ro (BS bs)] [] = some (.one (.ro (.bool true)), []) := by
 refine ctx_call Tryz.func5 Cv5 rfl ?_
 by_cases hl : 1048576 < bs.length
 ·simp [hl]
 obtain ⟨r, hr, d1⟩ := drawRecipeSteps_ev bs hb
 have cI := RecipeCheckI_ev r (hr.sz (by omega))
 have cS := RecipeCheckS_ev r (hr.sz (by omega))
 have hI := RecipeStepsI_ev r (hr.sz (by omega))
 have hS := RecipeStepsS_ev r (hr.sz (by omega))
 have hsl : (rcSteps r).length ≤ 13 := by
  unfold rcSteps
  split
  ·simp [outs]; exact hr.steps.1
  ·simp
 have hj := jsTexts_self (rcSteps r) (by omega)
 by_cases h0 : rcCheck r = 0
 ·obtain ⟨k1, k2⟩ := one_step h0
  have hM := RecipeStepsI_ev (oneStep r) (hr.oneStep.sz (by omega))
  rw [k2] at hM
  have hlen : (rcSteps r).length = r.steps.length := by
   unfold rcSteps
   rw [if_pos h0]
   simp [outs]
  rw [h0] at cI cS
  unfold oneStep at hM
  simp only [RcD, SS, List.map_cons, List.map_nil] at hM
  generalize rcSteps r = xs at *
  have m1 : r.name.length + 1 ≤ maxStr := by have := hr.name; simp [maxStr]; omega
  have m2 : r.name.length + 1 + r.ver.length ≤ maxStr := by have := hr.name; have := hr.ver; simp [maxStr]; omega
  simp [hl, d1, hI, hS, cI, cS, hj, hM, hlen, m1, m2]
 ·have b0 : (rcCheck r == 0) = false := by simpa using h0
  have h5 := rcCheck_le r
  generalize rcCheck r = c at *
  generalize rcSteps r = xs at *
  simp [hl, d1, hI, hS, cI, cS, hj, h0, b0, h5]
end Go.Qz
