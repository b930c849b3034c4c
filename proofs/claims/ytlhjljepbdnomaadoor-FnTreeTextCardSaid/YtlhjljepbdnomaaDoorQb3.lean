/- The evaluator of the claim and what it says, part Qb3 (several texts in one). -/
import Derived.Test.YtlhjljepbdnomaaDoorQb0
import GoSem.Dispatch
namespace Go.Qz
theorem iter_mono (f : Env → Res) : ∀ (n : Nat) (e : Env) (r : Ex × Env), iter f n e = some r → iter f (n + 1) e = some r
  | 0, e, r, h => by cases h
  | n + 1, e, r, h => by
    rw [iter] at h ⊢
    cases hf : f e with
    | none => rw [hf] at h; cases h
    | some x =>
      obtain ⟨ex, e'⟩ := x
      rw [hf] at h
      cases ex with
      | n => exact iter_mono f n e' r h
      | x id => exact h
      | r => exact h
theorem iter_mono_le (f : Env → Res) {n m : Nat} (hnm : n ≤ m) {e : Env} {r : Ex × Env} (h : iter f n e = some r) : iter f m e = some r := by
  induction hnm with
  | refl => exact h
  | step _ ih => exact iter_mono f _ e r ih
noncomputable def loopLim : LoopF := fun f e => open Classical in if h : ∃ r, ∃ n, iter f n e = some r then some h.choose else none
theorem loopLim_of {f : Env → Res} {e : Env} {r : Ex × Env} {n : Nat} (h : iter f n e = some r) : loopLim f e = some r := by
  unfold loopLim
  have hex : ∃ r, ∃ n, iter f n e = some r := ⟨r, n, h⟩
  rw [dif_pos hex]
  obtain ⟨m, hm⟩ := hex.choose_spec
  have h1 := iter_mono_le f (Nat.le_max_left n m) h
  have h2 := iter_mono_le f (Nat.le_max_right n m) hm
  rw [h1] at h2
  exact congrArg some (Option.some.inj h2).symm
theorem loopLim_some {f : Env → Res} {e : Env} {r : Ex × Env} (h : loopLim f e = some r) : ∃ n, iter f n e = some r := by
  unfold loopLim at h
  split at h
  · rename_i hex
    have := hex.choose_spec
    rwa [Option.some.inj h] at this
  · cases h
end Go.Qz
namespace Go.Qz
open Go
abbrev lessT (a b : List UInt8) : Bool := Op.bytesLess a b
theorem less_irr : ∀ a : List UInt8, lessT a a = false
  | [] => rfl
  | x :: r => by simp [lessT, Op.bytesLess, less_irr r]
theorem less_trans : ∀ {a b c : List UInt8}, lessT a b = true → lessT b c = true → lessT a c = true
  | _, [], _, h, _ => by cases ‹List UInt8› <;> simp [lessT, Op.bytesLess] at h
  | _, _ :: _, [], _, h => by simp [lessT, Op.bytesLess] at h
  | [], _ :: _, _ :: _, _, _ => by simp [lessT, Op.bytesLess]
  | x :: a, y :: b, z :: c, h, h' => by
    simp only [lessT, Op.bytesLess, Bool.or_eq_true, Bool.and_eq_true, decide_eq_true_eq, beq_iff_eq] at h h' ⊢
    rcases h with h | ⟨rfl, h⟩
    · rcases h' with h' | ⟨rfl, h'⟩
      · exact .inl (UInt8.lt_trans h h')
      · exact .inl h
    · rcases h' with h' | ⟨rfl, h'⟩
      · exact .inl h'
      · exact .inr ⟨rfl, less_trans h h'⟩
theorem less_asymm {a b : List UInt8} (h : lessT a b = true) : lessT b a = false := by
  cases h' : lessT b a with
  | false => rfl
  | true => have := less_trans h h'; rw [less_irr] at this; exact this.symm
theorem less_ext : ∀ (a b : List UInt8), b ≠ [] → lessT a (a ++ b) = true
  | [], [], h => absurd rfl h
  | [], _ :: _, _ => by simp [lessT, Op.bytesLess]
  | x :: a, b, h => by have ih := less_ext a b h; simp only [lessT] at ih; simp [lessT, Op.bytesLess, ih]
def below {α : Type} (f : α → List UInt8) (p : List UInt8) : List α → Nat
  | [] => 0
  | x :: r => if lessT (f x) p then below f p r + 1 else 0
theorem below_le {α : Type} (f : α → List UInt8) (p : List UInt8) : ∀ l : List α, below f p l ≤ l.length
  | [] => Nat.le_refl _
  | x :: r => by have := below_le f p r; simp only [below, List.length_cons]; split <;> omega
def ascending {α : Type} (f : α → List UInt8) : List α → Bool
  | [] => true
  | x :: r => (match r with | [] => true | y :: _ => lessT (f x) (f y)) && ascending f r
theorem asc_tail {α : Type} {f : α → List UInt8} {x : α} {r : List α} (h : ascending f (x :: r) = true) : ascending f r = true := by
  unfold ascending at h; rw [Bool.and_eq_true] at h; exact h.2
theorem asc_head {α : Type} {f : α → List UInt8} : ∀ {r : List α} {x : α}, ascending f (x :: r) = true → ∀ y ∈ r, lessT (f x) (f y) = true
  | [], _, _, y, hy => by cases hy
  | z :: r, x, h, y, hy => by
    have h2 := asc_tail h
    have h1 : lessT (f x) (f z) = true := by unfold ascending at h; rw [Bool.and_eq_true] at h; exact h.1
    rcases List.mem_cons.1 hy with rfl | hy
    · exact h1
    · exact less_trans h1 (asc_head h2 y hy)
theorem asc_get {α : Type} {f : α → List UInt8} : ∀ {l : List α}, ascending f l = true → ∀ (i j : Nat) (hj : j < l.length) (h : i < j), lessT (f (l[i]'(by omega))) (f l[j]) = true
  | [], _, _, _, hj, _ => by simp at hj
  | x :: r, h, 0, j + 1, hj, _ => asc_head h _ (List.getElem_mem _)
  | x :: r, h, i + 1, j + 1, hj, hij => by
    simp only [List.getElem_cons_succ]
    exact asc_get (asc_tail h) i j (by simpa using hj) (by omega)
theorem below_lt {α : Type} {f : α → List UInt8} {p : List UInt8} : ∀ {l : List α} (i : Nat) (h : i < l.length), i < below f p l → lessT (f l[i]) p = true
  | [], _, h, _ => by simp at h
  | x :: r, i, h, hi => by
    rw [below] at hi
    split at hi
    · rename_i hx
      cases i with
      | zero => exact hx
      | succ i => exact below_lt (l := r) i (by simpa using h) (by omega)
    · omega
theorem below_is {α : Type} {f : α → List UInt8} {p : List UInt8} {l : List α} (k : Nat) (hk : k ≤ l.length) (h1 : ∀ i (h : i < l.length), i < k → lessT (f l[i]) p = true) (h2 : ∀ i (h : i < l.length), k ≤ i → lessT (f l[i]) p = false) : below f p l = k := by
  have hb := below_le f p l
  rcases Nat.lt_trichotomy (below f p l) k with h | h | h
  · induction l generalizing k with
    | nil => simp at hk; omega
    | cons x r ih =>
      have hx : lessT (f x) p = true := h1 0 (by simp) (by omega)
      cases k with
      | zero => omega
      | succ k =>
        rw [below, if_pos hx]
        rw [below, if_pos hx] at h hb
        rw [ih k (by simpa using hk) (fun i hi hik => h1 (i + 1) (by simpa using hi) (by omega)) (fun i hi hik => h2 (i + 1) (by simpa using hi) (by omega)) (below_le _ _ _) (by omega)]
  · exact h
  · have := below_lt (f := f) (p := p) k (by omega) h
    rw [h2 k (by omega) (Nat.le_refl _)] at this
    cases this
end Go.Qz
