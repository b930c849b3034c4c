/- References are replaced by their expansion. The law holds at every input that can be read, where the listed variable reads as the program lays it.
   Conditions: none beyond those that the row itself states. -/
import Derived.Test.YtfikcfndmbcaoaaDoorCards
import Derived.Test.YtfikcfndmbcaoaaDoorTie
import Derived.Test.YtfikcfndmbcaoaaDoorQo0
import Derived.Test.YtfikcfndmbcaoaaDoorQs0
import Derived.Test.YtfikcfndmbcaoaaDoorQu0
import Derived.Shelf.Vars
import Derived.LaidHandle
import Derived.JoinedCond
import Derived.SevenTiedAt
namespace Go.Proofs.YtfikcfndmbcaoaaDoor.expandOne
open Go Go.ChangeShapes Go.WideShapes Go.ChangeAt Go.RowKit Go.Qz

theorem own : ownKnob Tryd.prog.godebug = none := by kernel_rfl
theorem laidOut : laidOutB Tryd.prog = true := by kernel_rfl
section
variable {W : World}
theorem r_byte : Reads Tryd.prog W 5 1 (fun n : Int => [.int .u8 n]) (fun n => (Lit.int .u8 n).wf = true) := reads_int (k := .u8) Tryd.underlying5 (by kernel_rfl)
theorem r_bytes : Reads Tryd.prog W 29 1 (fun bs : List Int => [BS bs]) (fun bs => bs.length * Tryd.prog.bytesOf 5 ≤ reachBytes ∧ ∀ b ∈ bs, (Lit.int .u8 b).wf = true) :=
  reads_slice Tryd.underlying29 (by kernel_rfl) r_byte (by decide) (D.int .u8) (fun _ => rfl)
end
theorem b5 : Tryd.prog.bytesOf 5 = 1 := by kernel_rfl
theorem wf_byte {b : Int} (h : (Lit.int .u8 b).wf = true) : 0 ≤ b ∧ b ≤ 255 := by
  simp [Lit.wf, IntKind.min, IntKind.max, IntKind.signed, IntKind.bits] at h
  omega
theorem reach_is : reachBytes = 140737488351232 := by decide

/-- A world in which the variable reads as listed. -/
noncomputable def laidWorld (os : Os) : World :=
  let w0 := World.holding Tryd.prog os ⟨#[], #[], []⟩
  { w0 with heap := w0.heap.modify 0 fun
      | .cells _ t frozen => .cells #[.iface 150 (.agg #[hnd 58])] t frozen
      | o => o }
theorem laid_met (os : Os) (args : Array Value) : laidMetH Tryd.prog Rows.fnExpandOneRow.laid ((laidWorld os).forCall (fun _ _ => 0) ⟨#[], args, []⟩).memory :=
  laidMetH_of_parts (laidMet_nil _ _) (by kernel_rfl)
set_option maxRecDepth 100000 in
theorem witness_row (os : Os) {H : Type} (enc : TypeId × Value → H) :
    (OpenSpec.ofChange Rows.fnExpandOneSpec).preRow enc Tryd.prog Tryd.f6 Rows.fnExpandOneRow.domain false Rows.fnExpandOneRow.laid ((laidWorld os).forCall (fun _ _ => 0) ⟨#[], #[.slice none 0 0], []⟩).memory #[.slice none 0 0] := by
  have hw : (DataW.whole enc Tryd.prog ((laidWorld os).forCall (fun _ _ => 0) ⟨#[], #[.slice none 0 0], []⟩).memory Tryd.f6.params.toList (OpenSpec.ofChange Rows.fnExpandOneSpec).vars false #[Value.slice none 0 0].toList 8).map (fun x => (x.1, x.2.1)) =
      some ([.nil], []) := by kernel_rfl
  obtain ⟨⟨x1, x2, x3⟩, hx, hx1⟩ := Option.map_eq_some_iff.1 hw
  simp only [Prod.mk.injEq] at hx1
  obtain ⟨rfl, rfl⟩ := hx1
  exact OpenSpec.preRow_of_cond 8 hx (by kernel_rfl) (fun k hk => by cases hk) (by kernel_rfl) (laid_met os _)

theorem et : Tryd.prog.globalNamed "errors.errorType" = some 0 := by kernel_rfl
theorem rt : (Tryd.prog.cutTypes.find? (·.1 == "internal/reflectlite.rtype")).map (·.2) = some 150 := by kernel_rfl
theorem oneRow : ((List.range 209).filter fun t => Tryd.prog.rowNamed t [101, 114, 114, 111, 114]) = [58] := by kernel_rfl
theorem typesSize : Tryd.prog.types.size = 209 := by kernel_rfl
/-- What the condition gives: the type 'error'; and the longest needle, whatever it is. -/
theorem start {W : World} (h : laidMetH Tryd.prog Rows.fnExpandOneRow.laid W) (hsh : W.ShapedOpen Tryd.prog) : Go.Qz.Start W where
  maxLen := Go.Proofs.cell_of_shapedOpen_int (zero := #[.int .i64 0]) (t := 3) hsh (of_decide_eq_true (by kernel_rfl)) (by kernel_rfl) rfl (by kernel_rfl) (by kernel_rfl) Tryd.underlying3
  error := by
    have h' : laidMet Tryd.prog [] W ∧ handlesMet Tryd.prog Rows.fnExpandOneRow.laid W := h
    obtain ⟨name, u, ty, e1, e2, e3, e4, e5⟩ := h'.2 _ (List.mem_singleton.2 rfl)
    have en : name = [101, 114, 114, 111, 114] := (Option.some.inj e1).symm
    subst en
    obtain rfl := Option.some.inj (rt.symm.trans e2)
    have hm : ty ∈ (List.range 209).filter fun t => Tryd.prog.rowNamed t [101, 114, 114, 111, 114] := List.mem_filter.2 ⟨List.mem_range.2 (by rw [← typesSize]; exact e3), e4⟩
    rw [oneRow] at hm
    obtain rfl := List.mem_singleton.1 hm
    have hh : typeHandle Tryd.prog 58 = .pointer (some ⟨7, 58, none⟩) := by kernel_rfl
    rw [hh] at e5
    simpa using World.var?_cell et e5 0

set_option maxRecDepth 100000 in
theorem lifted (os : Os) (started : os.Started) (H : Type) (enc : TypeId × Value → H) (F : Stop.Interp) :
    ReturnsInHanded {} Tryd.checked os 6 .any ((OpenSpec.ofChange Rows.fnExpandOneSpec).preRow enc Tryd.prog Tryd.f6 Rows.fnExpandOneRow.domain false Rows.fnExpandOneRow.laid) (((OpenSpec.ofChange Rows.fnExpandOneSpec).at F).post enc Tryd.prog Tryd.f6 false true false false) := by
  refine law_laid (Ck := Tryd.checked) own started (by kernel_rfl) Tryd.func6
    (witness_row_atRef (enc := enc) (C := Tryd.checked) false (laidWorld os) #[.slice none 0 0] rfl (by kernel_rfl) (by kernel_rfl) (by kernel_rfl) (witness_row os enc))
    rfl (rt := 4) rfl Tryd.underlying4 laidOut ?_ ?_ ?_
  · intro t ht
    rw [Tryd.params6] at ht
    simp only [List.mem_cons, List.not_mem_nil, or_false] at ht
    subst ht
    exact ⟨by kernel_rfl, of_decide_eq_true (by kernel_rfl)⟩
  · intro ds hds
    match ds, hds with
    | [d], _ => rfl
  · intro W base args ds ps hval hA hsz hlm hsh
    rw [Tryd.params6] at hA hsz hval
    obtain ⟨v0, vs0, d0, ds0, p0, q0, hargs, rfl, rfl, h0, r0⟩ := trodAll_cons hA
    obtain ⟨rfl, rfl, rfl⟩ := trodAll_nil r0
    obtain rfl : args = #[v0] := by cases args; simp_all
    obtain ⟨a0, len0, cap0, rfl⟩ := okWide_slice Tryd.underlying29 (hval 0 29 v0 rfl rfl)
    simp only [DataW.weightsEach, List.append_nil] at hsz
    obtain ⟨bs, ⟨g1, g2⟩, hr⟩ := arg_one r_bytes rfl h0 hsz
    rw [b5, reach_is] at g1
    refine law_calls (@Go.Qz.sound ⟨W⟩ (start hlm hsh)) (ds := [BS bs]) rfl (fun k d hd => ?_) (expandOne_ev bs (fun b hb => wf_byte (g2 b hb)) (by omega))
    cases k with
    | zero =>
      simp only [List.getElem?_cons_zero, Option.some.injEq] at hd
      subst hd
      exact hr
    | succ k => simp at hd

theorem over : Rows.fnExpandOneRow.holds Tryd.pinned (OpenSpec.ofChange Rows.fnExpandOneSpec) :=
  OpenClaim.holds_of_cond 6 Tryd.f6 rfl rfl rfl rfl rfl rfl rfl ⟨rfl, rfl, rfl, rfl, rfl⟩ rfl rfl rfl rfl rfl (by kernel_rfl) Tryd.func6 (by kernel_rfl)
    (of_decide_eq_true (by kernel_rfl)) (by unfold Func.isWrapper; first | (rw [if_pos (by decide +kernel)]; kernel_rfl) | (rw [if_neg (by decide +kernel)]; exact ⟨rfl, rfl⟩))
    (fun os started H enc _ F => by rw [OpenClaim.pre_eq_preRow]; exact lifted os started H enc F)

theorem card : Rows.FnExpandOneCardSaid :=
  Claim7.holds_tied_plain_at .later [] [.handle] true (true, "d851578d29b108c082581744c5512724c79e0d0ca4ead4391a80d6cc1b735720") true
    over (fun _ h => by cases h) (by kernel_rfl) (fun _ h => by cases h) fnExpandOne_row_tie rfl ⟨rfl, rfl⟩ (by kernel_rfl) rfl
    (fun f fn hf hfn => by
      obtain rfl : f = 6 := Option.some.inj ((show Tryd.prog.funcNamed "loop.example/jackstay/laws.FnExpandOne" = some 6 by kernel_rfl).symm.trans hf) |>.symm
      obtain rfl : fn = Tryd.f6 := (Option.some.inj (Tryd.func6.symm.trans hfn)).symm
      exact ⟨by kernel_rfl, fun j t ht => by
        rw [Tryd.params6] at ht
        have h3 : t = 29 := by
          rcases j with _ | j
          · simpa using ht.symm
          · simp at ht
        subst h3
        exact (show Tryd.prog.wantsStandIn 29 = false by kernel_rfl)⟩)
    (by kernel_rfl)
#print axioms card
end Go.Proofs.YtfikcfndmbcaoaaDoor.expandOne
namespace Go.Proofs.YtfikcfndmbcaoaaDoor
/-- The card, under a short name, for the claim. -/
theorem expandOne_holds : Rows.FnExpandOneCardSaid := expandOne.card
end Go.Proofs.YtfikcfndmbcaoaaDoor
