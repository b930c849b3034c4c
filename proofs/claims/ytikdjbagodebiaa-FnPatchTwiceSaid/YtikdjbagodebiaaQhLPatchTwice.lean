/- Repeating a pure insertion inserts again or fails: the law holds at every input that can be read.
   Conditions: none beyond those that the row itself states. -/
import Derived.Test.YtikdjbagodebiaaRows
import Derived.Test.YtikdjbagodebiaaQs0
import Derived.Test.YtikdjbagodebiaaQq0
namespace Go.Proofs.Ytikdjbagodebiaa.patchTwice
open Go.ChangeShapes Go.WideShapes Go.ChangeAt Go.RowKit Go.Qz

theorem own : ownKnob Try.prog.godebug = none := by kernel_rfl
theorem laidOut : laidOutB Try.prog = true := by kernel_rfl
section
variable {W : World}
theorem r_u8 : Reads Try.prog W 5 1 (fun n : Int => [.int .u8 n]) (fun n => (Lit.int .u8 n).wf = true) := reads_int (k := .u8) Try.underlying5 (by kernel_rfl)
theorem r_bytes : Reads Try.prog W 22 1 (fun bs : List Int => [BS bs]) (fun bs => bs.length * Try.prog.bytesOf 5 ≤ reachBytes ∧ ∀ b ∈ bs, (Lit.int .u8 b).wf = true) := reads_slice Try.underlying22 (by kernel_rfl) r_u8 (by decide) (.int .u8) (fun _ => rfl)
end
theorem b_u8 : Try.prog.bytesOf 5 = 1 := by kernel_rfl
theorem reach_is : reachBytes = 140737488351232 := by decide

set_option maxRecDepth 100000 in
theorem lifted (os : Os) (started : os.Started) (H : Type) (enc : TypeId × Value → H) :
    ReturnsInHanded {} Try.checked os 8 .any (Rows.fnPatchTwiceSpec.pre6 enc Try.prog Try.f8 Rows.fnPatchTwiceRow.domain false) (Rows.fnPatchTwiceSpec.post enc Try.prog Try.f8 false true false false) := by
  refine law_lifted (Ck := Try.checked) own started (by kernel_rfl) Try.func8
    (ChangeSpec.witness6 (enc := enc) (C := Try.checked) false ⟨#[], #[.slice none 0 0], []⟩ 8 (by kernel_rfl) (by kernel_rfl) (by kernel_rfl) (by kernel_rfl))
    rfl (rt := 4) rfl Try.underlying4 laidOut ?_ ?_ ?_
  · intro t ht
    rw [Try.params8] at ht
    simp only [List.mem_cons, List.not_mem_nil, or_false] at ht
    subst ht
    exact ⟨by kernel_rfl, of_decide_eq_true (by kernel_rfl)⟩
  · intro ds hds
    match ds, hds with
    | [d0], _ => rfl
  · intro W base args ds ps hval hA hsz
    rw [Try.params8] at hA hsz hval
    obtain ⟨v0, vs0, d0, ds0, p0, q0, hargs, rfl, rfl, h0, r0⟩ := trodAll_cons hA
    obtain ⟨rfl, rfl, rfl⟩ := trodAll_nil r0
    obtain rfl : args = #[v0] := by cases args; simp_all
    obtain ⟨a0, len0, cap0, rfl⟩ := okWide_slice Try.underlying22 (hval 0 22 v0 rfl rfl)
    simp only [DataW.weightsEach, List.append_nil] at hsz
    obtain ⟨x0, ⟨g0, k0⟩, hr0⟩ := arg_one r_bytes rfl h0 hsz
    rw [b_u8, reach_is] at g0
    refine law_calls (@Go.Qz.sound ⟨W⟩) (ds := [BS x0]) rfl (fun k d hd => ?_) (patchTwice_ev x0 (by omega) k0)
    match k with
    | 0 =>
      simp only [List.getElem?_cons_zero, Option.some.injEq] at hd
      subst hd
      exact hr0
    | k + 1 => simp at hd

theorem over : Rows.fnPatchTwiceRow.holds Try.pinned (OpenSpec.ofChange Rows.fnPatchTwiceSpec) :=
  OpenClaim.holds_of_wide 8 Try.f8 rfl rfl rfl rfl rfl rfl rfl ⟨rfl, rfl, rfl, rfl, rfl⟩ rfl rfl rfl rfl rfl (by kernel_rfl) Try.func8 (by kernel_rfl)
    (of_decide_eq_true (by kernel_rfl)) (by unfold Func.isWrapper; first | (rw [if_pos (by decide +kernel)]; kernel_rfl) | (rw [if_neg (by decide +kernel)]; exact ⟨rfl, rfl⟩))
    (fun os started H enc _ => lifted os started H enc)
theorem proved : Rows.FnPatchTwiceSaid := over
#print axioms proved
end Go.Proofs.Ytikdjbagodebiaa.patchTwice
namespace Go.Proofs.Ytikdjbagodebiaa
/-- The row, under a short name, for the claim. -/
theorem patchTwice_holds : Rows.FnPatchTwiceSaid := patchTwice.proved
end Go.Proofs.Ytikdjbagodebiaa
