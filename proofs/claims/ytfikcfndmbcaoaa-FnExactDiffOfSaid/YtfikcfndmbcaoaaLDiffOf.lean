/- The program's DiffOf returns what the reference's returns: the law holds at every input that can be read.
   Conditions: none beyond those that the row itself states. -/
import Derived.Test.YtfikcfndmbcaoaaRows
import Derived.Test.YtfikcfndmbcaoaaQk0
import Derived.Test.YtfikcfndmbcaoaaQl0
namespace Go.Proofs.Ytfikcfndmbcaoaa.diffOf
open Go.ChangeShapes Go.WideShapes Go.ChangeAt Go.RowKit Go.Qz

theorem own : ownKnob Try.prog.godebug = none := by kernel_rfl
theorem laidOut : laidOutB Try.prog = true := by kernel_rfl
theorem mixed : Try.prog.follows .mixedOrders = true := by kernel_rfl
theorem noGo : (Try.prog.funcs.all fun fn => !(fn.name == "runtime.NumGoroutine")) = true := by kernel_rfl
theorem sound : CallSound Try.prog C := by
  refine callLim_sound mixed (fun f us bx r bx' h => by cases h) (fun f fn hf hn => ?_)
  have h := Array.all_eq_true_iff_forall_mem.1 noGo fn (Array.mem_of_getElem? hf)
  rw [hn] at h
  exact absurd h (by decide)

section
variable {W : World}
theorem r_str : Reads Try.prog W 9 1 (fun l : List UInt8 => [T l]) (fun l => l.length ≤ reachBytes) := reads_string Try.underlying9 (by kernel_rfl)
theorem r_strs : Reads Try.prog W 36 1 (fun xs : Lines => [SS xs]) (fun xs => xs.length * Try.prog.bytesOf 9 ≤ reachBytes ∧ ∀ x ∈ xs, x.length ≤ reachBytes) := reads_slice Try.underlying36 (by kernel_rfl) r_str (by decide) T (fun _ => rfl)
end
theorem b9 : Try.prog.bytesOf 9 = 16 := by kernel_rfl
theorem reach_is : reachBytes = 140737488351232 := by decide

set_option maxRecDepth 100000 in
theorem lifted (os : Os) (started : os.Started) (H : Type) (enc : TypeId × Value → H) :
    ReturnsInHanded {} Try.checked os 5 .any (Rows.fnExactDiffOfSpec.pre6 enc Try.prog Try.f5 Rows.fnExactDiffOfRow.domain false) (Rows.fnExactDiffOfSpec.post enc Try.prog Try.f5 false true false false) := by
  refine law_lifted (Ck := Try.checked) own started (by kernel_rfl) Try.func5
    (ChangeSpec.witness6 (enc := enc) (C := Try.checked) false ⟨#[], #[.slice none 0 0, .slice none 0 0], []⟩ 8 (by kernel_rfl) (by kernel_rfl) (by kernel_rfl) (by kernel_rfl))
    rfl (rt := 4) rfl Try.underlying4 laidOut ?_ ?_ ?_
  · intro t ht
    rw [Try.params5] at ht
    simp only [List.mem_cons, List.not_mem_nil, or_false, or_self] at ht
    subst ht
    exact ⟨by kernel_rfl, of_decide_eq_true (by kernel_rfl)⟩
  · intro ds hds
    match ds, hds with
    | [d, d'], _ => rfl
  · intro W base args ds ps hval hA hsz
    rw [Try.params5] at hA hsz hval
    obtain ⟨v0, vs0, d0, ds0, p0, q0, hargs, rfl, rfl, h0, r0⟩ := trodAll_cons hA
    obtain ⟨v1, vs1, d1, ds1, p1, q1, rfl, rfl, rfl, h1, r1⟩ := trodAll_cons r0
    obtain ⟨rfl, rfl, rfl⟩ := trodAll_nil r1
    obtain rfl : args = #[v0, v1] := by cases args; simp_all
    obtain ⟨a0, len0, cap0, rfl⟩ := okWide_slice Try.underlying36 (hval 0 36 v0 rfl rfl)
    obtain ⟨a1, len1, cap1, rfl⟩ := okWide_slice Try.underlying36 (hval 1 36 v1 rfl rfl)
    simp only [DataW.weightsEach, List.append_nil, List.all_append, Bool.and_eq_true] at hsz
    obtain ⟨a, ⟨g1, g2⟩, hr⟩ := arg_one r_strs rfl h0 hsz.1
    obtain ⟨b, ⟨g3, g4⟩, hr'⟩ := arg_one r_strs rfl h1 hsz.2
    rw [b9, reach_is] at g1 g3
    rw [reach_is] at g2 g4
    refine law_calls sound (ds := [SS a, SS b]) rfl (fun k d hd => ?_) (exactDiffOf_ev a b (by omega) (by omega) g2 g4)
    match k with
    | 0 =>
      simp only [List.getElem?_cons_zero, Option.some.injEq] at hd
      subst hd
      exact hr
    | 1 =>
      simp only [List.getElem?_cons_succ, List.getElem?_cons_zero, Option.some.injEq] at hd
      subst hd
      exact hr'
    | k + 2 => simp at hd

theorem over : Rows.fnExactDiffOfRow.holds Try.pinned (OpenSpec.ofChange Rows.fnExactDiffOfSpec) :=
  OpenClaim.holds_of_wide 5 Try.f5 rfl rfl rfl rfl rfl rfl rfl ⟨rfl, rfl, rfl, rfl, rfl⟩ rfl rfl rfl rfl rfl (by kernel_rfl) Try.func5 (by kernel_rfl)
    (of_decide_eq_true (by kernel_rfl)) (by unfold Func.isWrapper; first | (rw [if_pos (by decide +kernel)]; kernel_rfl) | (rw [if_neg (by decide +kernel)]; exact ⟨rfl, rfl⟩))
    (fun os started H enc _ => lifted os started H enc)
theorem proved : Rows.FnExactDiffOfSaid := over
#print axioms proved
end Go.Proofs.Ytfikcfndmbcaoaa.diffOf
namespace Go.Proofs.Ytfikcfndmbcaoaa
/-- The row, under a short name, for the claim. -/
theorem diffOf_holds : Rows.FnExactDiffOfSaid := diffOf.proved
end Go.Proofs.Ytfikcfndmbcaoaa
