/- The program's FilesOk returns what the reference's returns: the law holds at every input that can be read.
   Conditions: none beyond those that the row itself states. -/
import Derived.Test.YtfikcfndmbcaoaaRows
import Derived.Test.YtfikcfndmbcaoaaQk0
import Derived.Test.YtfikcfndmbcaoaaQl0
namespace Go.Proofs.Ytfikcfndmbcaoaa.filesOk
open Go.ChangeShapes Go.WideShapes Go.ChangeAt Go.RowKit Go.Qz

theorem own : ownKnob Try.prog.godebug = none := by kernel_rfl
theorem laidOut : laidOutB Try.prog = true := by kernel_rfl
section
variable {W : World}
theorem r_str : Reads Try.prog W 9 1 (fun l : List UInt8 => [T l]) (fun l => l.length ≤ reachBytes) := reads_string Try.underlying9 (by kernel_rfl)
theorem r_file : Reads Try.prog W 57 2 (fun f : Fl => [T f.1, T f.2]) (fun f => f.1.length ≤ reachBytes ∧ f.2.length ≤ reachBytes) :=
  (reads_struct Try.underlying57 (by kernel_rfl) (readsF_cons rfl r_str (readsF_cons rfl r_str readsF_nil))).map (fun p => (p.1, p.2.1)) (fun _ => rfl) (fun _ h => ⟨h.1, h.2.1⟩)
theorem r_files : Reads Try.prog W 22 1 (fun fs : List Fl => [FS fs]) (fun fs => fs.length * Try.prog.bytesOf 57 ≤ reachBytes ∧ ∀ f ∈ fs, f.1.length ≤ reachBytes ∧ f.2.length ≤ reachBytes) :=
  reads_slice Try.underlying22 (by kernel_rfl) r_file (by decide) FD (fun _ => rfl)
end
theorem b57 : Try.prog.bytesOf 57 = 32 := by kernel_rfl
theorem reach_is : reachBytes = 140737488351232 := by decide

set_option maxRecDepth 100000 in
theorem lifted (os : Os) (started : os.Started) (H : Type) (enc : TypeId × Value → H) :
    ReturnsInHanded {} Try.checked os 3 .any (Rows.fnExactFilesOkSpec.pre6 enc Try.prog Try.f3 Rows.fnExactFilesOkRow.domain false) (Rows.fnExactFilesOkSpec.post enc Try.prog Try.f3 false true false false) := by
  refine law_lifted (Ck := Try.checked) own started (by kernel_rfl) Try.func3
    (ChangeSpec.witness6 (enc := enc) (C := Try.checked) false ⟨#[], #[.slice none 0 0], []⟩ 8 (by kernel_rfl) (by kernel_rfl) (by kernel_rfl) (by kernel_rfl))
    rfl (rt := 4) rfl Try.underlying4 laidOut ?_ ?_ ?_
  · intro t ht
    rw [Try.params3] at ht
    simp only [List.mem_cons, List.not_mem_nil, or_false] at ht
    subst ht
    exact ⟨by kernel_rfl, of_decide_eq_true (by kernel_rfl)⟩
  · intro ds hds
    match ds, hds with
    | [d], _ => rfl
  · intro W base args ds ps hval hA hsz
    rw [Try.params3] at hA hsz hval
    obtain ⟨v0, vs0, d0, ds0, p0, q0, hargs, rfl, rfl, h0, r0⟩ := trodAll_cons hA
    obtain ⟨rfl, rfl, rfl⟩ := trodAll_nil r0
    obtain rfl : args = #[v0] := by cases args; simp_all
    obtain ⟨a0, len0, cap0, rfl⟩ := okWide_slice Try.underlying22 (hval 0 22 v0 rfl rfl)
    simp only [DataW.weightsEach, List.append_nil] at hsz
    obtain ⟨hs, ⟨g1, g2⟩, hr⟩ := arg_one r_files rfl h0 hsz
    rw [b57, reach_is] at g1
    simp only [reach_is] at g2
    refine law_calls Go.Qz.sound (ds := [FS hs]) rfl (fun k d hd => ?_) (exactFilesOk_ev hs (by omega) (fun f hf => (g2 f hf).1) (fun f hf => (g2 f hf).2))
    cases k with
    | zero =>
      simp only [List.getElem?_cons_zero, Option.some.injEq] at hd
      subst hd
      exact hr
    | succ k => simp at hd

theorem over : Rows.fnExactFilesOkRow.holds Try.pinned (OpenSpec.ofChange Rows.fnExactFilesOkSpec) :=
  OpenClaim.holds_of_wide 3 Try.f3 rfl rfl rfl rfl rfl rfl rfl ⟨rfl, rfl, rfl, rfl, rfl⟩ rfl rfl rfl rfl rfl (by kernel_rfl) Try.func3 (by kernel_rfl)
    (of_decide_eq_true (by kernel_rfl)) (by unfold Func.isWrapper; first | (rw [if_pos (by decide +kernel)]; kernel_rfl) | (rw [if_neg (by decide +kernel)]; exact ⟨rfl, rfl⟩))
    (fun os started H enc _ => lifted os started H enc)
theorem proved : Rows.FnExactFilesOkSaid := over
#print axioms proved
end Go.Proofs.Ytfikcfndmbcaoaa.filesOk
namespace Go.Proofs.Ytfikcfndmbcaoaa
/-- The row, under a short name, for the claim. -/
theorem filesOk_holds : Rows.FnExactFilesOkSaid := filesOk.proved
end Go.Proofs.Ytfikcfndmbcaoaa
