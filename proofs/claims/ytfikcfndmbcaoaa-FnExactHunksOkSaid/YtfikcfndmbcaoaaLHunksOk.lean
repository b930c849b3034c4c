/- The program's HunksOk returns what the reference's returns: the law holds at every input that can be read.
   Conditions: none beyond those that the row itself states. -/
import Derived.Test.YtfikcfndmbcaoaaRows
import Derived.Test.YtfikcfndmbcaoaaQk0
import Derived.Test.YtfikcfndmbcaoaaQl0
namespace Go.Proofs.Ytfikcfndmbcaoaa.hunksOk
open Go.ChangeShapes Go.WideShapes Go.ChangeAt Go.RowKit Go.Qz

theorem own : ownKnob Try.prog.godebug = none := by kernel_rfl
theorem laidOut : laidOutB Try.prog = true := by kernel_rfl
theorem mixed : Try.prog.follows .mixedOrders = true := by kernel_rfl
theorem noGo : (Try.prog.funcs.all fun fn => !(fn.name == "runtime.NumGoroutine")) = true := by kernel_rfl
theorem sound : CallSound Try.prog C := by
  refine callLim_sound mixed (fun f us bx r bx' h => by cases h) (fun f fn hf hn => ?_)
  have h := Array.all_eq_true_iff_forall_mem.1 noGo fn (Array.mem_of_getElem? hf)
  rw [hn] at h
  exact absurd h (by decide)

section
variable {W : World}
theorem r_str : Reads Try.prog W 9 1 (fun l : List UInt8 => [T l]) (fun l => l.length ≤ reachBytes) := reads_string Try.underlying9 (by kernel_rfl)
theorem r_strs : Reads Try.prog W 36 1 (fun xs : Lines => [SS xs]) (fun xs => xs.length * Try.prog.bytesOf 9 ≤ reachBytes ∧ ∀ x ∈ xs, x.length ≤ reachBytes) := reads_slice Try.underlying36 (by kernel_rfl) r_str (by decide) T (fun _ => rfl)
theorem r_hunk : Reads Try.prog W 68 2 (fun h : Hk => [I h.1, SS h.2]) (fun h => h.2.length * Try.prog.bytesOf 9 ≤ reachBytes ∧ ∀ x ∈ h.2, x.length ≤ reachBytes) :=
  (reads_struct Try.underlying68 (by kernel_rfl) (readsF_cons rfl (reads_int (k := .i64) Try.underlying3 (by kernel_rfl)) (readsF_cons rfl r_strs readsF_nil))).map (fun p => (p.1, p.2.1)) (fun _ => rfl) (fun _ h => h.2.1)
theorem r_hunks : Reads Try.prog W 29 1 (fun hs : List Hk => [HS hs]) (fun hs => hs.length * Try.prog.bytesOf 68 ≤ reachBytes ∧ ∀ h ∈ hs, h.2.length * Try.prog.bytesOf 9 ≤ reachBytes ∧ ∀ x ∈ h.2, x.length ≤ reachBytes) :=
  reads_slice Try.underlying29 (by kernel_rfl) r_hunk (by decide) HD (fun _ => rfl)
end
theorem b9 : Try.prog.bytesOf 9 = 16 := by kernel_rfl
theorem b68 : Try.prog.bytesOf 68 = 32 := by kernel_rfl
theorem reach_is : reachBytes = 140737488351232 := by decide

set_option maxRecDepth 100000 in
theorem lifted (os : Os) (started : os.Started) (H : Type) (enc : TypeId × Value → H) :
    ReturnsInHanded {} Try.checked os 4 .any (Rows.fnExactHunksOkSpec.pre6 enc Try.prog Try.f4 Rows.fnExactHunksOkRow.domain false) (Rows.fnExactHunksOkSpec.post enc Try.prog Try.f4 false true false false) := by
  refine law_lifted (Ck := Try.checked) own started (by kernel_rfl) Try.func4
    (ChangeSpec.witness6 (enc := enc) (C := Try.checked) false ⟨#[], #[.slice none 0 0], []⟩ 8 (by kernel_rfl) (by kernel_rfl) (by kernel_rfl) (by kernel_rfl))
    rfl (rt := 4) rfl Try.underlying4 laidOut ?_ ?_ ?_
  · intro t ht
    rw [Try.params4] at ht
    simp only [List.mem_cons, List.not_mem_nil, or_false] at ht
    subst ht
    exact ⟨by kernel_rfl, of_decide_eq_true (by kernel_rfl)⟩
  · intro ds hds
    match ds, hds with
    | [d], _ => rfl
  · intro W base args ds ps hval hA hsz
    rw [Try.params4] at hA hsz hval
    obtain ⟨v0, vs0, d0, ds0, p0, q0, hargs, rfl, rfl, h0, r0⟩ := trodAll_cons hA
    obtain ⟨rfl, rfl, rfl⟩ := trodAll_nil r0
    obtain rfl : args = #[v0] := by cases args; simp_all
    obtain ⟨a0, len0, cap0, rfl⟩ := okWide_slice Try.underlying29 (hval 0 29 v0 rfl rfl)
    simp only [DataW.weightsEach, List.append_nil] at hsz
    obtain ⟨hs, ⟨g1, g2⟩, hr⟩ := arg_one r_hunks rfl h0 hsz
    rw [b68, reach_is] at g1
    simp only [b9, reach_is] at g2
    refine law_calls sound (ds := [HS hs]) rfl (fun k d hd => ?_) (exactHunksOk_ev hs (by omega) (fun h hh => by have := (g2 h hh).1; omega) (fun h hh x hx => (g2 h hh).2 x hx))
    cases k with
    | zero =>
      simp only [List.getElem?_cons_zero, Option.some.injEq] at hd
      subst hd
      exact hr
    | succ k => simp at hd

theorem over : Rows.fnExactHunksOkRow.holds Try.pinned (OpenSpec.ofChange Rows.fnExactHunksOkSpec) :=
  OpenClaim.holds_of_wide 4 Try.f4 rfl rfl rfl rfl rfl rfl rfl ⟨rfl, rfl, rfl, rfl, rfl⟩ rfl rfl rfl rfl rfl (by kernel_rfl) Try.func4 (by kernel_rfl)
    (of_decide_eq_true (by kernel_rfl)) (by unfold Func.isWrapper; first | (rw [if_pos (by decide +kernel)]; kernel_rfl) | (rw [if_neg (by decide +kernel)]; exact ⟨rfl, rfl⟩))
    (fun os started H enc _ => lifted os started H enc)
theorem proved : Rows.FnExactHunksOkSaid := over
#print axioms proved
end Go.Proofs.Ytfikcfndmbcaoaa.hunksOk
namespace Go.Proofs.Ytfikcfndmbcaoaa
/-- The row, under a short name, for the claim. -/
theorem hunksOk_holds : Rows.FnExactHunksOkSaid := hunksOk.proved
end Go.Proofs.Ytfikcfndmbcaoaa
