/- The program's HunksPut returns what the reference's returns: the law holds at every input that can be read, where the listed tables read as the program lays them.
   Conditions: none beyond those that the row itself states. -/
import Derived.Test.YtfikcfndmbcaoaaDoorCards
import Derived.Test.YtfikcfndmbcaoaaDoorTie
import Derived.Test.YtfikcfndmbcaoaaDoorQo0
import Derived.Test.YtfikcfndmbcaoaaDoorQq0
import Derived.Test.YtfikcfndmbcaoaaDoorQs0
import Derived.LaidHandle
import Derived.JoinedCond
import Derived.SevenTiedAt
namespace Go.Proofs.YtfikcfndmbcaoaaDoor.hunksPut
open Go Go.ChangeShapes Go.WideShapes Go.ChangeAt Go.RowKit Go.Qz

theorem own : ownKnob Tryd.prog.godebug = none := by kernel_rfl
theorem laidOut : laidOutB Tryd.prog = true := by kernel_rfl
section
variable {W : World}
theorem r_str : Reads Tryd.prog W 9 1 (fun l : List UInt8 => [T l]) (fun l => l.length ≤ reachBytes) := reads_string Tryd.underlying9 (by kernel_rfl)
theorem r_strs : Reads Tryd.prog W 48 1 (fun xs : Lines => [SS xs]) (fun xs => xs.length * Tryd.prog.bytesOf 9 ≤ reachBytes ∧ ∀ x ∈ xs, x.length ≤ reachBytes) := reads_slice Tryd.underlying48 (by kernel_rfl) r_str (by decide) T (fun _ => rfl)
theorem r_hunk : Reads Tryd.prog W 50 2 (fun h : Hk => [I h.1, SS h.2]) (fun h => h.2.length * Tryd.prog.bytesOf 9 ≤ reachBytes ∧ ∀ x ∈ h.2, x.length ≤ reachBytes) :=
  (reads_struct Tryd.underlying50 (by kernel_rfl) (readsF_cons rfl (reads_int (k := .i64) Tryd.underlying3 (by kernel_rfl)) (readsF_cons rfl r_strs readsF_nil))).map (fun p => (p.1, p.2.1)) (fun _ => rfl) (fun _ h => h.2.1)
theorem r_hunks : Reads Tryd.prog W 22 1 (fun hs : List Hk => [HS hs]) (fun hs => hs.length * Tryd.prog.bytesOf 50 ≤ reachBytes ∧ ∀ h ∈ hs, h.2.length * Tryd.prog.bytesOf 9 ≤ reachBytes ∧ ∀ x ∈ h.2, x.length ≤ reachBytes) :=
  reads_slice Tryd.underlying22 (by kernel_rfl) r_hunk (by decide) HD (fun _ => rfl)
end
theorem b9 : Tryd.prog.bytesOf 9 = 16 := by kernel_rfl
theorem b50 : Tryd.prog.bytesOf 50 = 32 := by kernel_rfl
theorem reach_is : reachBytes = 140737488351232 := by decide

/-- A world in which the tables read as listed. -/
def cellsOfLit : List (DataW Unit) → List Value
  | .lit (.int k n) :: r => .int k n :: cellsOfLit r
  | _ => []
def cellsOfTab : DataW Unit → Array Value
  | .agg parts => (cellsOfLit parts).toArray
  | _ => #[]
def putTab (h : Array Obj) (g : Nat) (cs : Array Value) : Array Obj := h.modify g fun
  | .cells _ t frozen => .cells cs t frozen
  | o => o
noncomputable def laidWorld (os : Os) : World :=
  let w0 := World.holding Tryd.prog os ⟨#[], #[], []⟩
  { w0 with heap := putTab (putTab (putTab w0.heap 2 (cellsOfTab Rows.laid_internal_strconv_uint64pow10)) 3 (cellsOfTab Rows.laid_math_bits_deBruijn32tab)) 4 (cellsOfTab Rows.laid_math_bits_deBruijn64tab) }
theorem g2 : Tryd.prog.globalNamed "internal/strconv.uint64pow10" = some 2 := by kernel_rfl
theorem laid_met (os : Os) (args : Array Value) : laidMetH Tryd.prog Rows.fnExactHunksPutRow.laid ((laidWorld os).forCall (fun _ _ => 0) ⟨#[], args, []⟩).memory := by
  show laidMet Tryd.prog Rows.fnExactHunksPutRow.laid _
  exact laidMet_of_run' 8 (by kernel_rfl) (by kernel_rfl)
set_option maxRecDepth 100000 in
theorem witness_row (os : Os) {H : Type} (enc : TypeId × Value → H) :
    (OpenSpec.ofChange Rows.fnExactHunksPutSpec).preRow enc Tryd.prog Tryd.f3 Rows.fnExactHunksPutRow.domain false Rows.fnExactHunksPutRow.laid ((laidWorld os).forCall (fun _ _ => 0) ⟨#[], #[.slice none 0 0], []⟩).memory #[.slice none 0 0] := by
  have hw : (DataW.whole enc Tryd.prog ((laidWorld os).forCall (fun _ _ => 0) ⟨#[], #[.slice none 0 0], []⟩).memory Tryd.f3.params.toList (OpenSpec.ofChange Rows.fnExactHunksPutSpec).vars false #[Value.slice none 0 0].toList 8).map (fun x => (x.1, x.2.1)) =
      some ([.nil], []) := by kernel_rfl
  obtain ⟨⟨x1, x2, x3⟩, hx, hx1⟩ := Option.map_eq_some_iff.1 hw
  simp only [Prod.mk.injEq] at hx1
  obtain ⟨rfl, rfl⟩ := hx1
  exact OpenSpec.preRow_of_cond 8 hx (by kernel_rfl) (fun k hk => by cases hk) (by kernel_rfl) (laid_met os _)

/-- What the condition gives: the table of the powers of ten. -/
theorem pow_tab {W : World} (h : laidMetH Tryd.prog Rows.fnExactHunksPutRow.laid W) : Lib.TabIs Tryd.prog W "internal/strconv.uint64pow10" .u64 Lib.pow10Tab := by
  have h' : laidMet Tryd.prog Rows.fnExactHunksPutRow.laid W := h
  obtain ⟨ps, ⟨_, _, _, _, _, _, _, _, _, _, ⟨_, _, _, _, _, _, _, _, _, _, ⟨g, t, cs, fuel, p, q, hg, ht, hvar, hd, _, _⟩, _⟩, _⟩, _⟩ := h'
  obtain rfl := Option.some.inj (g2.symm.trans hg)
  have ht0 : (Tryd.prog.globals[2]?).map (·.type) = some 165 := by kernel_rfl
  obtain rfl := Option.some.inj (ht0.symm.trans ht)
  unfold Lib.TabIs
  have e : Rows.laid_internal_strconv_uint64pow10 = Lib.tabData (H := Unit) .u64 Lib.pow10Tab := by kernel_rfl
  have hd' := hd
  rw [e] at hd'
  rw [hvar, ← Lib.cells_of_tab Tryd.underlying165 Tryd.underlying141 (by kernel_rfl) (by kernel_rfl) hd']

set_option maxRecDepth 100000 in
theorem lifted (os : Os) (started : os.Started) (H : Type) (enc : TypeId × Value → H) (F : Stop.Interp) :
    ReturnsInHanded {} Tryd.checked os 3 .any ((OpenSpec.ofChange Rows.fnExactHunksPutSpec).preRow enc Tryd.prog Tryd.f3 Rows.fnExactHunksPutRow.domain false Rows.fnExactHunksPutRow.laid) (((OpenSpec.ofChange Rows.fnExactHunksPutSpec).at F).post enc Tryd.prog Tryd.f3 false true false false) := by
  refine law_laid (Ck := Tryd.checked) own started (by kernel_rfl) Tryd.func3
    (witness_row_atRef (enc := enc) (C := Tryd.checked) false (laidWorld os) #[.slice none 0 0] rfl (by kernel_rfl) (by kernel_rfl) (by kernel_rfl) (witness_row os enc))
    rfl (rt := 4) rfl Tryd.underlying4 laidOut ?_ ?_ ?_
  · intro t ht
    rw [Tryd.params3] at ht
    simp only [List.mem_cons, List.not_mem_nil, or_false] at ht
    subst ht
    exact ⟨by kernel_rfl, of_decide_eq_true (by kernel_rfl)⟩
  · intro ds hds
    match ds, hds with
    | [d], _ => rfl
  · intro W base args ds ps hval hA hsz hlm hsh
    rw [Tryd.params3] at hA hsz hval
    obtain ⟨v0, vs0, d0, ds0, p0, q0, hargs, rfl, rfl, h0, r0⟩ := trodAll_cons hA
    obtain ⟨rfl, rfl, rfl⟩ := trodAll_nil r0
    obtain rfl : args = #[v0] := by cases args; simp_all
    obtain ⟨a0, len0, cap0, rfl⟩ := okWide_slice Tryd.underlying22 (hval 0 22 v0 rfl rfl)
    simp only [DataW.weightsEach, List.append_nil] at hsz
    obtain ⟨hs, ⟨g1, g2⟩, hr⟩ := arg_one r_hunks rfl h0 hsz
    rw [b50, reach_is] at g1
    simp only [b9, reach_is] at g2
    refine law_calls (@Go.Qz.sound ⟨W⟩ (pow_tab hlm)) (ds := [HS hs]) rfl (fun k d hd => ?_) (exactHunksPut_ev hs (by omega) (fun h hh => by have := (g2 h hh).1; omega) (fun h hh x hx => (g2 h hh).2 x hx))
    cases k with
    | zero =>
      simp only [List.getElem?_cons_zero, Option.some.injEq] at hd
      subst hd
      exact hr
    | succ k => simp at hd

theorem over : Rows.fnExactHunksPutRow.holds Tryd.pinned (OpenSpec.ofChange Rows.fnExactHunksPutSpec) :=
  OpenClaim.holds_of_cond 3 Tryd.f3 rfl rfl rfl rfl rfl rfl rfl ⟨rfl, rfl, rfl, rfl, rfl⟩ rfl rfl rfl rfl rfl (by kernel_rfl) Tryd.func3 (by kernel_rfl)
    (of_decide_eq_true (by kernel_rfl)) (by unfold Func.isWrapper; first | (rw [if_pos (by decide +kernel)]; kernel_rfl) | (rw [if_neg (by decide +kernel)]; exact ⟨rfl, rfl⟩))
    (fun os started H enc _ F => by rw [OpenClaim.pre_eq_preRow]; exact lifted os started H enc F)

theorem card : Rows.FnExactHunksPutCardSaid :=
  Claim7.holds_tied_plain_at .later [] [.data, .data, .data] true (true, "d851578d29b108c082581744c5512724c79e0d0ca4ead4391a80d6cc1b735720") true
    over (fun _ h => by cases h) (by kernel_rfl) (fun _ h => by cases h) fnExactHunksPut_row_tie rfl ⟨rfl, rfl⟩ (by kernel_rfl) rfl
    (fun f fn hf hfn => by
      obtain rfl : f = 3 := Option.some.inj ((show Tryd.prog.funcNamed "loop.example/jackstay/laws.FnExactHunksPut" = some 3 by kernel_rfl).symm.trans hf) |>.symm
      obtain rfl : fn = Tryd.f3 := (Option.some.inj (Tryd.func3.symm.trans hfn)).symm
      exact ⟨by kernel_rfl, fun j t ht => by
        rw [Tryd.params3] at ht
        have h3 : t = 22 := by
          rcases j with _ | j
          · simpa using ht.symm
          · simp at ht
        subst h3
        exact (show Tryd.prog.wantsStandIn 22 = false by kernel_rfl)⟩)
    (by kernel_rfl)
#print axioms card
end Go.Proofs.YtfikcfndmbcaoaaDoor.hunksPut
namespace Go.Proofs.YtfikcfndmbcaoaaDoor
/-- The card, under a short name, for the claim. -/
theorem hunksPut_holds : Rows.FnExactHunksPutCardSaid := hunksPut.card
end Go.Proofs.YtfikcfndmbcaoaaDoor
