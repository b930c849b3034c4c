/- The program's Patch returns what the reference's returns: the law holds at every input that can be read.
   Conditions: none beyond those that the row itself states. -/
import Derived.Test.YtfikcfndmbcaoaaRows
import Derived.Test.YtfikcfndmbcaoaaQs0
import Derived.Test.YtfikcfndmbcaoaaQq0
namespace Go.Proofs.Ytfikcfndmbcaoaa.exactPatch
open Go.ChangeShapes Go.WideShapes Go.ChangeAt Go.RowKit Go.Qz

theorem own : ownKnob Try.prog.godebug = none := by kernel_rfl
theorem laidOut : laidOutB Try.prog = true := by kernel_rfl
section
variable {W : World}
theorem r_str : Reads Try.prog W 9 1 (fun l : List UInt8 => [T l]) (fun l => l.length ≤ reachBytes) := reads_string Try.underlying9 (by kernel_rfl)
theorem r_strs : Reads Try.prog W 36 1 (fun xs : Lines => [SS xs]) (fun xs => xs.length * Try.prog.bytesOf 9 ≤ reachBytes ∧ ∀ x ∈ xs, x.length ≤ reachBytes) := reads_slice Try.underlying36 (by kernel_rfl) r_str (by decide) T (fun _ => rfl)
theorem r_hunk : Reads Try.prog W 68 2 (fun h : Hk => [I h.1, SS h.2]) (fun h => h.2.length * Try.prog.bytesOf 9 ≤ reachBytes ∧ ∀ x ∈ h.2, x.length ≤ reachBytes) :=
  (reads_struct Try.underlying68 (by kernel_rfl) (readsF_cons rfl (reads_int (k := .i64) Try.underlying3 (by kernel_rfl)) (readsF_cons rfl r_strs readsF_nil))).map (fun p => (p.1, p.2.1)) (fun _ => rfl) (fun _ h => h.2.1)
theorem r_hunks : Reads Try.prog W 29 1 (fun hs : List Hk => [HS hs]) (fun hs => hs.length * Try.prog.bytesOf 68 ≤ reachBytes ∧ ∀ h ∈ hs, h.2.length * Try.prog.bytesOf 9 ≤ reachBytes ∧ ∀ x ∈ h.2, x.length ≤ reachBytes) :=
  reads_slice Try.underlying29 (by kernel_rfl) r_hunk (by decide) HD (fun _ => rfl)
theorem r_int : Reads Try.prog W 3 1 (fun n : Int => [.int .i64 n]) (fun n => (Lit.int .i64 n).wf = true) := reads_int (k := .i64) Try.underlying3 (by kernel_rfl)
end
theorem b_str : Try.prog.bytesOf 9 = 16 := by kernel_rfl
theorem b_hunk : Try.prog.bytesOf 68 = 32 := by kernel_rfl
theorem reach_is : reachBytes = 140737488351232 := by decide

set_option maxRecDepth 100000 in
theorem lifted (os : Os) (started : os.Started) (H : Type) (enc : TypeId × Value → H) :
    ReturnsInHanded {} Try.checked os 8 .any (Rows.fnExactPatchSpec.pre6 enc Try.prog Try.f8 Rows.fnExactPatchRow.domain false) (Rows.fnExactPatchSpec.post enc Try.prog Try.f8 false true false false) := by
  refine law_lifted (Ck := Try.checked) own started (by kernel_rfl) Try.func8
    (ChangeSpec.witness6 (enc := enc) (C := Try.checked) false ⟨#[], #[.slice none 0 0, .slice none 0 0, .int .i64 0], []⟩ 8 (by kernel_rfl) (by kernel_rfl) (by kernel_rfl) (by kernel_rfl))
    rfl (rt := 4) rfl Try.underlying4 laidOut ?_ ?_ ?_
  · intro t ht
    rw [Try.params8] at ht
    simp only [List.mem_cons, List.not_mem_nil, or_false] at ht
    rcases ht with rfl | rfl | rfl
    all_goals exact ⟨by kernel_rfl, of_decide_eq_true (by kernel_rfl)⟩
  · intro ds hds
    match ds, hds with
    | [d0, d1, d2], _ => rfl
  · intro W base args ds ps hval hA hsz
    rw [Try.params8] at hA hsz hval
    obtain ⟨v0, vs0, d0, ds0, p0, q0, hargs, rfl, rfl, h0, r0⟩ := trodAll_cons hA
    obtain ⟨v1, vs1, d1, ds1, p1, q1, rfl, rfl, rfl, h1, r1⟩ := trodAll_cons r0
    obtain ⟨v2, vs2, d2, ds2, p2, q2, rfl, rfl, rfl, h2, r2⟩ := trodAll_cons r1
    obtain ⟨rfl, rfl, rfl⟩ := trodAll_nil r2
    obtain rfl : args = #[v0, v1, v2] := by cases args; simp_all
    obtain ⟨a0, len0, cap0, rfl⟩ := okWide_slice Try.underlying36 (hval 0 36 v0 rfl rfl)
    obtain ⟨a1, len1, cap1, rfl⟩ := okWide_slice Try.underlying29 (hval 1 29 v1 rfl rfl)
    obtain ⟨n2, rfl⟩ := okWide_int (k := .i64) Try.underlying3 (hval 2 3 v2 rfl rfl)
    simp only [DataW.weightsEach, List.append_nil, List.all_append, Bool.and_eq_true] at hsz
    obtain ⟨x0, ⟨g0, k0⟩, hr0⟩ := arg_one r_strs rfl h0 hsz.1
    rw [b_str, reach_is] at g0
    rw [reach_is] at k0
    obtain ⟨x1, ⟨g1, k1⟩, hr1⟩ := arg_one r_hunks rfl h1 hsz.2.1
    rw [b_hunk, reach_is] at g1
    simp only [b_str, reach_is] at k1
    obtain ⟨x2, g2, hr2⟩ := arg_one r_int rfl h2 hsz.2.2
    refine law_calls (@Go.Qz.sound ⟨W⟩) (ds := [SS x0, HS x1, I x2]) rfl (fun k d hd => ?_) (exactPatch_ev x0 x1 x2 (by omega) k0 (by omega) (fun h hh => by have := (k1 h hh).1; omega) (fun h hh x hx => (k1 h hh).2 x hx) )
    match k with
    | 0 =>
      simp only [List.getElem?_cons_zero, Option.some.injEq] at hd
      subst hd
      exact hr0
    | 1 =>
      simp only [List.getElem?_cons_zero, Option.some.injEq, List.getElem?_cons_succ] at hd
      subst hd
      exact hr1
    | 2 =>
      simp only [List.getElem?_cons_zero, Option.some.injEq, List.getElem?_cons_succ] at hd
      subst hd
      exact hr2
    | k + 3 => simp at hd

theorem over : Rows.fnExactPatchRow.holds Try.pinned (OpenSpec.ofChange Rows.fnExactPatchSpec) :=
  OpenClaim.holds_of_wide 8 Try.f8 rfl rfl rfl rfl rfl rfl rfl ⟨rfl, rfl, rfl, rfl, rfl⟩ rfl rfl rfl rfl rfl (by kernel_rfl) Try.func8 (by kernel_rfl)
    (of_decide_eq_true (by kernel_rfl)) (by unfold Func.isWrapper; first | (rw [if_pos (by decide +kernel)]; kernel_rfl) | (rw [if_neg (by decide +kernel)]; exact ⟨rfl, rfl⟩))
    (fun os started H enc _ => lifted os started H enc)
theorem proved : Rows.FnExactPatchSaid := over
#print axioms proved
end Go.Proofs.Ytfikcfndmbcaoaa.exactPatch
namespace Go.Proofs.Ytfikcfndmbcaoaa
/-- The row, under a short name, for the claim. -/
theorem exactPatch_holds : Rows.FnExactPatchSaid := exactPatch.proved
end Go.Proofs.Ytfikcfndmbcaoaa
