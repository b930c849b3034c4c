/- The program's Expand returns what the reference's returns: the law holds at every input that can be read, where the listed tables read as the program lays them.
   Conditions: none beyond those that the row itself states. -/
import Derived.Test.YtfikcfndmbcaoaaDoorCards
import Derived.Test.YtfikcfndmbcaoaaDoorTie
import Derived.Test.YtfikcfndmbcaoaaDoorQo0
import Derived.Test.YtfikcfndmbcaoaaDoorQs0
import Derived.Test.YtfikcfndmbcaoaaDoorQu0
import Derived.Shelf.Vars
import Derived.LaidHandle
import Derived.JoinedCond
import Derived.SevenTiedAt
namespace Go.Proofs.YtfikcfndmbcaoaaDoor.exactExpand
open Go Go.ChangeShapes Go.WideShapes Go.ChangeAt Go.RowKit Go.Qz

theorem own : ownKnob Tryd.prog.godebug = none := by kernel_rfl
theorem laidOut : laidOutB Tryd.prog = true := by kernel_rfl
section
variable {W : World}
theorem r_str : Reads Tryd.prog W 9 1 (fun l : List UInt8 => [T l]) (fun l => l.length ≤ reachBytes) := reads_string Tryd.underlying9 (by kernel_rfl)
theorem r_let : Reads Tryd.prog W 80 2 (fun f : Fl => [T f.1, T f.2]) (fun f => f.1.length ≤ reachBytes ∧ f.2.length ≤ reachBytes) :=
  (reads_struct Tryd.underlying80 (by kernel_rfl) (readsF_cons rfl r_str (readsF_cons rfl r_str readsF_nil))).map (fun p => (p.1, p.2.1)) (fun _ => rfl) (fun _ h => ⟨h.1, h.2.1⟩)
theorem r_lets : Reads Tryd.prog W 38 1 (fun fs : List Fl => [FS fs]) (fun fs => fs.length * Tryd.prog.bytesOf 80 ≤ reachBytes ∧ ∀ f ∈ fs, f.1.length ≤ reachBytes ∧ f.2.length ≤ reachBytes) :=
  reads_slice Tryd.underlying38 (by kernel_rfl) r_let (by decide) FD (fun _ => rfl)
end
theorem b80 : Tryd.prog.bytesOf 80 = 32 := by kernel_rfl
theorem reach_is : reachBytes = 140737488351232 := by decide

/-- A world in which the variable reads as listed. -/
noncomputable def laidWorld (os : Os) : World :=
  let w0 := World.holding Tryd.prog os ⟨#[], #[], []⟩
  { w0 with heap := w0.heap.modify 0 fun
      | .cells _ t frozen => .cells #[.iface 150 (.agg #[hnd 58])] t frozen
      | o => o }
theorem laid_met (os : Os) (args : Array Value) : laidMetH Tryd.prog Rows.fnExactExpandRow.laid ((laidWorld os).forCall (fun _ _ => 0) ⟨#[], args, []⟩).memory :=
  laidMetH_of_parts (laidMet_nil _ _) (by kernel_rfl)
set_option maxRecDepth 100000 in
theorem witness_row (os : Os) {H : Type} (enc : TypeId × Value → H) :
    (OpenSpec.ofChange Rows.fnExactExpandSpec).preRow enc Tryd.prog Tryd.f7 Rows.fnExactExpandRow.domain false Rows.fnExactExpandRow.laid ((laidWorld os).forCall (fun _ _ => 0) ⟨#[], #[.slice none 0 0, .string ⟨#[]⟩], []⟩).memory #[.slice none 0 0, .string ⟨#[]⟩] := by
  have hw : (DataW.whole enc Tryd.prog ((laidWorld os).forCall (fun _ _ => 0) ⟨#[], #[.slice none 0 0, .string ⟨#[]⟩], []⟩).memory Tryd.f7.params.toList (OpenSpec.ofChange Rows.fnExactExpandSpec).vars false #[Value.slice none 0 0, Value.string ⟨#[]⟩].toList 8).map (fun x => (x.1, x.2.1)) =
      some ([.nil, .lit (.string [])], []) := by kernel_rfl
  obtain ⟨⟨x1, x2, x3⟩, hx, hx1⟩ := Option.map_eq_some_iff.1 hw
  simp only [Prod.mk.injEq] at hx1
  obtain ⟨rfl, rfl⟩ := hx1
  exact OpenSpec.preRow_of_cond 8 hx (by kernel_rfl) (fun k hk => by cases hk) (by kernel_rfl) (laid_met os _)

theorem et : Tryd.prog.globalNamed "errors.errorType" = some 0 := by kernel_rfl
theorem rt : (Tryd.prog.cutTypes.find? (·.1 == "internal/reflectlite.rtype")).map (·.2) = some 150 := by kernel_rfl
theorem oneRow : ((List.range 209).filter fun t => Tryd.prog.rowNamed t [101, 114, 114, 111, 114]) = [58] := by kernel_rfl
theorem typesSize : Tryd.prog.types.size = 209 := by kernel_rfl
/-- What the condition gives: the type 'error'; and the longest needle, whatever it is. -/
theorem start {W : World} (h : laidMetH Tryd.prog Rows.fnExactExpandRow.laid W) (hsh : W.ShapedOpen Tryd.prog) : Go.Qz.Start W where
  maxLen := Go.Proofs.cell_of_shapedOpen_int (zero := #[.int .i64 0]) (t := 3) hsh (of_decide_eq_true (by kernel_rfl)) (by kernel_rfl) rfl (by kernel_rfl) (by kernel_rfl) Tryd.underlying3
  error := by
    have h' : laidMet Tryd.prog [] W ∧ handlesMet Tryd.prog Rows.fnExactExpandRow.laid W := h
    obtain ⟨name, u, ty, e1, e2, e3, e4, e5⟩ := h'.2 _ (List.mem_singleton.2 rfl)
    have en : name = [101, 114, 114, 111, 114] := (Option.some.inj e1).symm
    subst en
    obtain rfl := Option.some.inj (rt.symm.trans e2)
    have hm : ty ∈ (List.range 209).filter fun t => Tryd.prog.rowNamed t [101, 114, 114, 111, 114] := List.mem_filter.2 ⟨List.mem_range.2 (by rw [← typesSize]; exact e3), e4⟩
    rw [oneRow] at hm
    obtain rfl := List.mem_singleton.1 hm
    have hh : typeHandle Tryd.prog 58 = .pointer (some ⟨7, 58, none⟩) := by kernel_rfl
    rw [hh] at e5
    simpa using World.var?_cell et e5 0

set_option maxRecDepth 100000 in
theorem lifted (os : Os) (started : os.Started) (H : Type) (enc : TypeId × Value → H) (F : Stop.Interp) :
    ReturnsInHanded {} Tryd.checked os 7 .any ((OpenSpec.ofChange Rows.fnExactExpandSpec).preRow enc Tryd.prog Tryd.f7 Rows.fnExactExpandRow.domain false Rows.fnExactExpandRow.laid) (((OpenSpec.ofChange Rows.fnExactExpandSpec).at F).post enc Tryd.prog Tryd.f7 false true false false) := by
  refine law_laid (Ck := Tryd.checked) own started (by kernel_rfl) Tryd.func7
    (witness_row_atRef (enc := enc) (C := Tryd.checked) false (laidWorld os) #[.slice none 0 0, .string ⟨#[]⟩] rfl (by kernel_rfl) (by kernel_rfl) (by kernel_rfl) (witness_row os enc))
    rfl (rt := 4) rfl Tryd.underlying4 laidOut ?_ ?_ ?_
  · intro t ht
    rw [Tryd.params7] at ht
    simp only [List.mem_cons, List.not_mem_nil, or_false] at ht
    rcases ht with rfl | rfl
    · exact ⟨by kernel_rfl, of_decide_eq_true (by kernel_rfl)⟩
    · exact ⟨by kernel_rfl, of_decide_eq_true (by kernel_rfl)⟩
  · intro ds hds
    match ds, hds with
    | [d, d'], _ => rfl
  · intro W base args ds ps hval hA hsz hlm hsh
    rw [Tryd.params7] at hA hsz hval
    obtain ⟨v0, vs0, d0, ds0, p0, q0, hargs, rfl, rfl, h0, r0⟩ := trodAll_cons hA
    obtain ⟨v1, vs1, d1, ds1, p1, q1, rfl, rfl, rfl, h1, r1⟩ := trodAll_cons r0
    obtain ⟨rfl, rfl, rfl⟩ := trodAll_nil r1
    obtain rfl : args = #[v0, v1] := by cases args; simp_all
    obtain ⟨a0, len0, cap0, rfl⟩ := okWide_slice Tryd.underlying38 (hval 0 38 v0 rfl rfl)
    obtain ⟨s1, rfl⟩ := okWide_string Tryd.underlying9 (hval 1 9 v1 rfl rfl)
    simp only [DataW.weightsEach, List.append_nil, List.all_append, Bool.and_eq_true] at hsz
    obtain ⟨fs, ⟨g1, g2⟩, hr⟩ := arg_one r_lets rfl h0 hsz.1
    obtain ⟨l, g3, hr'⟩ := arg_one r_str rfl h1 hsz.2
    rw [b80, reach_is] at g1
    rw [reach_is] at g2 g3
    refine law_calls (@Go.Qz.sound ⟨W⟩ (start hlm hsh)) (ds := [FS fs, T l]) rfl (fun k d hd => ?_) (exactExpand_ev fs l (by omega) (fun f hf => (g2 f hf).1) (fun f hf => (g2 f hf).2) g3)
    match k with
    | 0 =>
      simp only [List.getElem?_cons_zero, Option.some.injEq] at hd
      subst hd
      exact hr
    | 1 =>
      simp only [List.getElem?_cons_succ, List.getElem?_cons_zero, Option.some.injEq] at hd
      subst hd
      exact hr'
    | k + 2 => simp at hd

theorem over : Rows.fnExactExpandRow.holds Tryd.pinned (OpenSpec.ofChange Rows.fnExactExpandSpec) :=
  OpenClaim.holds_of_cond 7 Tryd.f7 rfl rfl rfl rfl rfl rfl rfl ⟨rfl, rfl, rfl, rfl, rfl⟩ rfl rfl rfl rfl rfl (by kernel_rfl) Tryd.func7 (by kernel_rfl)
    (of_decide_eq_true (by kernel_rfl)) (by unfold Func.isWrapper; first | (rw [if_pos (by decide +kernel)]; kernel_rfl) | (rw [if_neg (by decide +kernel)]; exact ⟨rfl, rfl⟩))
    (fun os started H enc _ F => by rw [OpenClaim.pre_eq_preRow]; exact lifted os started H enc F)

theorem card : Rows.FnExactExpandCardSaid :=
  Claim7.holds_tied_plain_at .later [] [.handle] true (true, "d851578d29b108c082581744c5512724c79e0d0ca4ead4391a80d6cc1b735720") true
    over (fun _ h => by cases h) (by kernel_rfl) (fun _ h => by cases h) fnExactExpand_row_tie rfl ⟨rfl, rfl⟩ (by kernel_rfl) rfl
    (fun f fn hf hfn => by
      obtain rfl : f = 7 := Option.some.inj ((show Tryd.prog.funcNamed "loop.example/jackstay/laws.FnExactExpand" = some 7 by kernel_rfl).symm.trans hf) |>.symm
      obtain rfl : fn = Tryd.f7 := (Option.some.inj (Tryd.func7.symm.trans hfn)).symm
      exact ⟨by kernel_rfl, fun j t ht => by
        rw [Tryd.params7] at ht
        have h3 : t = 38 ∨ t = 9 := by
          rcases j with _ | _ | j
          · exact .inl (by simpa using ht.symm)
          · exact .inr (by simpa using ht.symm)
          · simp at ht
        rcases h3 with rfl | rfl
        · exact (show Tryd.prog.wantsStandIn 38 = false by kernel_rfl)
        · exact (show Tryd.prog.wantsStandIn 9 = false by kernel_rfl)⟩)
    (by kernel_rfl)
#print axioms card
end Go.Proofs.YtfikcfndmbcaoaaDoor.exactExpand
namespace Go.Proofs.YtfikcfndmbcaoaaDoor
/-- The card, under a short name, for the claim. -/
theorem exactExpand_holds : Rows.FnExactExpandCardSaid := exactExpand.card
end Go.Proofs.YtfikcfndmbcaoaaDoor
