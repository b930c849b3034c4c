/- The law FnExactPackOk: the law holds at every input that can be read, where the listed tables read as the program lays them.
   Conditions: none beyond those that the row itself states. -/
import Derived.Test.YtlhjljepbdnomaaDoorCards
import Derived.Test.YtlhjljepbdnomaaDoorTie
import Derived.Test.YtlhjljepbdnomaaDoorQx0
import Derived.Test.YtlhjljepbdnomaaDoorQt0
import Derived.Shelf.Vars
import Derived.LaidHandle
import Derived.JoinedCond
import Derived.SevenTiedAt
namespace Go.Proofs.YtlhjljepbdnomaaDoor.exactPackOk
open Go Go.ChangeShapes Go.WideShapes Go.ChangeAt Go.RowKit Go.Qz

theorem own : ownKnob Tryd.prog.godebug = none := by kernel_rfl
theorem laidOut : laidOutB Tryd.prog = true := by kernel_rfl
section
variable {W : World}
theorem r_str : Reads Tryd.prog W 9 1 (fun l : List UInt8 => [T l]) (fun l => l.length ≤ reachBytes) := reads_string Tryd.underlying9 (by kernel_rfl)
theorem r_need : Reads Tryd.prog W 85 3 (fun e : Ne => [T e.name, I e.kind, T e.ver]) (fun e => e.name.length ≤ reachBytes ∧ e.ver.length ≤ reachBytes) :=
  (reads_struct Tryd.underlying85 (by kernel_rfl) (readsF_cons rfl r_str (readsF_cons rfl (reads_int (k := .i64) Tryd.underlying3 (by kernel_rfl)) (readsF_cons rfl r_str readsF_nil)))).map (fun p => (⟨p.1, p.2.1, p.2.2.1⟩ : Ne)) (fun _ => rfl) (fun _ h => ⟨h.1, h.2.2.1⟩)
theorem r_entry : Reads Tryd.prog W 87 4 (fun e : En => [T e.path, I e.kind, I e.mode, T e.text]) (fun e => e.path.length ≤ reachBytes ∧ e.text.length ≤ reachBytes) :=
  (reads_struct Tryd.underlying87 (by kernel_rfl) (readsF_cons rfl r_str (readsF_cons rfl (reads_int (k := .i64) Tryd.underlying3 (by kernel_rfl)) (readsF_cons rfl (reads_int (k := .i64) Tryd.underlying3 (by kernel_rfl)) (readsF_cons rfl r_str readsF_nil))))).map (fun p => (⟨p.1, p.2.1, p.2.2.1, p.2.2.2.1⟩ : En)) (fun _ => rfl) (fun _ h => ⟨h.1, h.2.2.2.1⟩)
theorem r_needs : Reads Tryd.prog W 28 1 (fun es : List Ne => [NeS es]) (fun es => es.length * Tryd.prog.bytesOf 85 ≤ reachBytes ∧ ∀ e ∈ es, e.name.length ≤ reachBytes ∧ e.ver.length ≤ reachBytes) :=
  reads_slice Tryd.underlying28 (by kernel_rfl) r_need (by decide) NeD (fun _ => rfl)
theorem r_entries : Reads Tryd.prog W 29 1 (fun es : List En => [ES es]) (fun es => es.length * Tryd.prog.bytesOf 87 ≤ reachBytes ∧ ∀ e ∈ es, e.path.length ≤ reachBytes ∧ e.text.length ≤ reachBytes) :=
  reads_slice Tryd.underlying29 (by kernel_rfl) r_entry (by decide) ED (fun _ => rfl)
theorem r_pack : Reads Tryd.prog W 31 4 (fun p : Pk => [T p.name, T p.ver, NeS p.needs, ES p.tree]) (fun p => p.name.length ≤ reachBytes ∧ p.ver.length ≤ reachBytes ∧ (p.needs.length * Tryd.prog.bytesOf 85 ≤ reachBytes ∧ ∀ e ∈ p.needs, e.name.length ≤ reachBytes ∧ e.ver.length ≤ reachBytes) ∧ (p.tree.length * Tryd.prog.bytesOf 87 ≤ reachBytes ∧ ∀ e ∈ p.tree, e.path.length ≤ reachBytes ∧ e.text.length ≤ reachBytes)) :=
  (reads_struct Tryd.underlying31 (by kernel_rfl) (readsF_cons rfl r_str (readsF_cons rfl r_str (readsF_cons rfl r_needs (readsF_cons rfl r_entries readsF_nil))))).map (fun p => (⟨p.1, p.2.1, p.2.2.1, p.2.2.2.1⟩ : Pk)) (fun _ => rfl) (fun _ h => ⟨h.1, h.2.1, h.2.2.1, h.2.2.2.1⟩)
end
theorem b85 : Tryd.prog.bytesOf 85 = 40 := by kernel_rfl
theorem b87 : Tryd.prog.bytesOf 87 = 48 := by kernel_rfl
theorem reach_is : reachBytes = 140737488351232 := by decide

def noPack : Value := .agg #[.string ⟨#[]⟩, .string ⟨#[]⟩, .slice none 0 0, .slice none 0 0]
/-- A world in which the tables read as listed. -/
def cellsOfLit : List (DataW Unit) → List Value
  | .lit (.int k n) :: r => .int k n :: cellsOfLit r
  | _ => []
def cellsOfTab : DataW Unit → Array Value
  | .agg parts => (cellsOfLit parts).toArray
  | _ => #[]
def cellsOfPairs : DataW Unit → Array Value
  | .agg parts => (parts.flatMap fun p => match p with
    | .agg q => cellsOfLit q
    | _ => []).toArray
  | _ => #[]
def putTab (h : Array Obj) (g : Nat) (cs : Array Value) : Array Obj := h.modify g fun
  | .cells _ t frozen => .cells cs t frozen
  | o => o
noncomputable def laidWorld (os : Os) : World :=
  let w0 := World.holding Tryd.prog os ⟨#[], #[], []⟩
  { w0 with heap := putTab (putTab (w0.heap) 3 (cellsOfPairs Rows.laid_unicode_utf8_acceptRanges)) 2 (cellsOfTab Rows.laid_unicode_utf8_first) }
theorem laid_met (os : Os) (args : Array Value) : laidMetH Tryd.prog Rows.fnExactPackOkRow.laid ((laidWorld os).forCall (fun _ _ => 0) ⟨#[], args, []⟩).memory := by
  show laidMet Tryd.prog Rows.fnExactPackOkRow.laid _
  exact laidMet_of_run' 8 (by kernel_rfl) (by kernel_rfl)
set_option maxRecDepth 100000 in
theorem witness_row (os : Os) {H : Type} (enc : TypeId × Value → H) :
    (OpenSpec.ofChange Rows.fnExactPackOkSpec).preRow enc Tryd.prog Tryd.f4 Rows.fnExactPackOkRow.domain false Rows.fnExactPackOkRow.laid ((laidWorld os).forCall (fun _ _ => 0) ⟨#[], #[noPack], []⟩).memory #[noPack] := by
  have hw : (DataW.whole enc Tryd.prog ((laidWorld os).forCall (fun _ _ => 0) ⟨#[], #[noPack], []⟩).memory Tryd.f4.params.toList (OpenSpec.ofChange Rows.fnExactPackOkSpec).vars false #[noPack].toList 8).map (fun x => (x.1, x.2.1)) =
      some ([.agg [.lit (.string []), .lit (.string []), .nil, .nil]], []) := by kernel_rfl
  obtain ⟨⟨x1, x2, x3⟩, hx, hx1⟩ := Option.map_eq_some_iff.1 hw
  simp only [Prod.mk.injEq] at hx1
  obtain ⟨rfl, rfl⟩ := hx1
  exact OpenSpec.preRow_of_cond 8 hx (by kernel_rfl) (fun k hk => by cases hk) (by kernel_rfl) (laid_met os _)

/-- What the shapes give: the longest needle, whatever it is. -/
theorem start {W : World} (hsh : W.ShapedOpen Tryd.prog) : Go.Qz.Start W where
  maxLen := Go.Proofs.cell_of_shapedOpen_int (zero := #[.int .i64 0]) (t := 3) hsh (of_decide_eq_true (by kernel_rfl)) (by kernel_rfl) rfl (by kernel_rfl) (by kernel_rfl) Tryd.underlying3

set_option maxRecDepth 100000 in
theorem lifted (os : Os) (started : os.Started) (H : Type) (enc : TypeId × Value → H) (F : Stop.Interp) :
    ReturnsInHanded {} Tryd.checked os 4 .any ((OpenSpec.ofChange Rows.fnExactPackOkSpec).preRow enc Tryd.prog Tryd.f4 Rows.fnExactPackOkRow.domain false Rows.fnExactPackOkRow.laid) (((OpenSpec.ofChange Rows.fnExactPackOkSpec).at F).post enc Tryd.prog Tryd.f4 false true false false) := by
  refine law_laid (Ck := Tryd.checked) own started (by kernel_rfl) Tryd.func4
    (witness_row_atRef (enc := enc) (C := Tryd.checked) false (laidWorld os) #[noPack] rfl (by kernel_rfl) (by kernel_rfl) (by kernel_rfl) (witness_row os enc))
    rfl (rt := 4) rfl Tryd.underlying4 laidOut ?_ ?_ ?_
  · intro t ht
    rw [Tryd.params4] at ht
    simp only [List.mem_cons, List.not_mem_nil, or_false] at ht
    subst ht
    exact ⟨by kernel_rfl, of_decide_eq_true (by kernel_rfl)⟩
  · intro ds hds
    match ds, hds with
    | [d], _ => rfl
  · intro W base args ds ps hval hA hsz hlm hsh
    rw [Tryd.params4] at hA hsz hval
    obtain ⟨v0, vs0, d0, ds0, p0, q0, hargs, rfl, rfl, h0, r0⟩ := trodAll_cons hA
    obtain ⟨rfl, rfl, rfl⟩ := trodAll_nil r0
    obtain rfl : args = #[v0] := by cases args; simp_all
    obtain ⟨cs0, rfl, hcs0⟩ := okWide_struct Tryd.underlying31 (hval 0 31 v0 rfl rfl)
    simp only [DataW.weightsEach, List.append_nil] at hsz
    obtain ⟨p, ⟨g1, g2, ⟨g3, g4⟩, g5, g6⟩, hr⟩ := arg_agg r_pack h0 hsz
    rw [b85] at g3
    rw [b87] at g5
    rw [reach_is] at g1 g2 g3 g5
    simp only [reach_is] at g4 g6
    refine law_calls (@Go.Qz.sound ⟨W⟩ (start hsh)) (ds := [PkD p]) rfl (fun k d hd => ?_) (exactPackOk_ev p ⟨g1, g2, by omega, by omega, g4, g6⟩)
    cases k with
    | zero =>
      simp only [List.getElem?_cons_zero, Option.some.injEq] at hd
      subst hd
      exact hr
    | succ k => simp at hd

theorem over : Rows.fnExactPackOkRow.holds Tryd.pinned (OpenSpec.ofChange Rows.fnExactPackOkSpec) :=
  OpenClaim.holds_of_cond 4 Tryd.f4 rfl rfl rfl rfl rfl rfl rfl ⟨rfl, rfl, rfl, rfl, rfl⟩ rfl rfl rfl rfl rfl (by kernel_rfl) Tryd.func4 (by kernel_rfl)
    (of_decide_eq_true (by kernel_rfl)) (by unfold Func.isWrapper; first | (rw [if_pos (by decide +kernel)]; kernel_rfl) | (rw [if_neg (by decide +kernel)]; exact ⟨rfl, rfl⟩))
    (fun os started H enc _ F => by rw [OpenClaim.pre_eq_preRow]; exact lifted os started H enc F)

theorem card : Rows.FnExactPackOkCardSaid :=
  Claim7.holds_tied_plain_at .later [] [.data, .pinned] true (true, "cd1350f9c2b98e93a286b15ce08297809c7e4442ac30e31d6ab43276450ed17e") false
    over (fun _ h => by cases h) (by kernel_rfl) (fun _ h => by cases h) fnExactPackOk_row_tie rfl ⟨rfl, rfl⟩ (by kernel_rfl) rfl
    (fun f fn hf hfn => by
      obtain rfl : f = 4 := Option.some.inj ((show Tryd.prog.funcNamed "loop.example/jackstay/laws.FnExactPackOk" = some 4 by kernel_rfl).symm.trans hf) |>.symm
      obtain rfl : fn = Tryd.f4 := (Option.some.inj (Tryd.func4.symm.trans hfn)).symm
      exact ⟨by kernel_rfl, fun j t ht => by
        rw [Tryd.params4] at ht
        have h3 : t = 31 := by
          rcases j with _ | j
          · simpa using ht.symm
          · simp at ht
        subst h3
        exact (show Tryd.prog.wantsStandIn 31 = false by kernel_rfl)⟩)
    (by kernel_rfl)
#print axioms card
end Go.Proofs.YtlhjljepbdnomaaDoor.exactPackOk
namespace Go.Proofs.YtlhjljepbdnomaaDoor
/-- The card, under a short name, for the claim. -/
theorem exactPackOk_holds : Rows.FnExactPackOkCardSaid := exactPackOk.card
end Go.Proofs.YtlhjljepbdnomaaDoor
