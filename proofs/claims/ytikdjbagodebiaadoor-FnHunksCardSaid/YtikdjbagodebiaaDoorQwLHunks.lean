/- The law FnHunks: the law holds at every input that can be read, where the listed tables read as the program lays them.
   Conditions: none beyond those that the row itself states. -/
import Derived.Test.YtikdjbagodebiaaDoorCards
import Derived.Test.YtikdjbagodebiaaDoorTie
import Derived.Test.YtikdjbagodebiaaDoorQy0
import Derived.Test.YtikdjbagodebiaaDoorQu0
import Derived.Shelf.Vars
import Derived.LaidHandle
import Derived.JoinedCond
import Derived.SevenTiedAt
namespace Go.Proofs.YtikdjbagodebiaaDoor.hunksLaw
open Go Go.ChangeShapes Go.WideShapes Go.ChangeAt Go.RowKit Go.Qz
theorem own : ownKnob Tryd.prog.godebug = none := by kernel_rfl
theorem laidOut : laidOutB Tryd.prog = true := by kernel_rfl
section
variable {W : World}
theorem r_str : Reads Tryd.prog W 9 1 (fun l : List UInt8 => [T l]) (fun l => l.length ≤ reachBytes) := reads_string Tryd.underlying9 (by kernel_rfl)
theorem r_u8 : Reads Tryd.prog W 5 1 (fun n : Int => [.int .u8 n]) (fun n => (Lit.int .u8 n).wf = true) := reads_int (k := .u8) Tryd.underlying5 (by kernel_rfl)
theorem r_bytes : Reads Tryd.prog W 22 1 (fun bs : List Int => [BS bs]) (fun bs => bs.length * Tryd.prog.bytesOf 5 ≤ reachBytes ∧ ∀ b ∈ bs, (Lit.int .u8 b).wf = true) := reads_slice Tryd.underlying22 (by kernel_rfl) r_u8 (by decide) (.int .u8) (fun _ => rfl)
end
theorem u8_is {b : Int} (h : (Lit.int .u8 b).wf = true) : 0 ≤ b ∧ b ≤ 255 := by
  simp [Lit.wf, IntKind.min, IntKind.max, IntKind.bits, IntKind.signed] at h
  omega
theorem reach_is : reachBytes = 140737488351232 := by decide
def cellsOfLit : List (DataW Unit) → List Value
  | .lit (.int k n) :: r => .int k n :: cellsOfLit r
  | _ => []
def cellsOfTab : DataW Unit → Array Value
  | .agg parts => (cellsOfLit parts).toArray
  | _ => #[]
def cellsOfPairs : DataW Unit → Array Value
  | .agg parts => (parts.flatMap fun p => match p with
    | .agg q => cellsOfLit q
    | _ => []).toArray
  | _ => #[]
def putTab (h : Array Obj) (g : Nat) (cs : Array Value) : Array Obj := h.modify g fun
  | .cells _ t frozen => .cells cs t frozen
  | o => o
noncomputable def laidWorld (os : Os) : World :=
  let w0 := World.holding Tryd.prog os ⟨#[], #[], []⟩
  { w0 with heap := putTab (putTab (putTab (putTab (putTab (w0.heap) 2 (cellsOfTab Rows.laid_math_bits_deBruijn32tab)) 3 (cellsOfTab Rows.laid_math_bits_deBruijn64tab)) 0 (cellsOfTab Rows.laid_internal_strconv_uint64pow10)) 5 (cellsOfPairs Rows.laid_unicode_utf8_acceptRanges)) 4 (cellsOfTab Rows.laid_unicode_utf8_first) }
theorem laid_met (os : Os) (args : Array Value) : laidMetH Tryd.prog Rows.fnHunksRow.laid ((laidWorld os).forCall (fun _ _ => 0) ⟨#[], args, []⟩).memory := by
  show laidMet Tryd.prog Rows.fnHunksRow.laid _
  exact laidMet_of_run' 8 (by kernel_rfl) (by kernel_rfl)
set_option maxRecDepth 100000 in
theorem witness_row (os : Os) {H : Type} (enc : TypeId × Value → H) :
    (OpenSpec.ofChange Rows.fnHunksSpec).preRow enc Tryd.prog Tryd.f3 Rows.fnHunksRow.domain false Rows.fnHunksRow.laid ((laidWorld os).forCall (fun _ _ => 0) ⟨#[], #[.slice none 0 0, .slice none 0 0], []⟩).memory #[.slice none 0 0, .slice none 0 0] := by
  have hw : (DataW.whole enc Tryd.prog ((laidWorld os).forCall (fun _ _ => 0) ⟨#[], #[.slice none 0 0, .slice none 0 0], []⟩).memory Tryd.f3.params.toList (OpenSpec.ofChange Rows.fnHunksSpec).vars false #[Value.slice none 0 0, Value.slice none 0 0].toList 8).map (fun x => (x.1, x.2.1)) =
      some ([.nil, .nil], []) := by kernel_rfl
  obtain ⟨⟨x1, x2, x3⟩, hx, hx1⟩ := Option.map_eq_some_iff.1 hw
  simp only [Prod.mk.injEq] at hx1
  obtain ⟨rfl, rfl⟩ := hx1
  exact OpenSpec.preRow_of_cond 8 hx (by kernel_rfl) (fun k hk => by cases hk) (by kernel_rfl) (laid_met os _)
theorem g2 : Tryd.prog.globalNamed "internal/strconv.uint64pow10" = some 0 := by kernel_rfl
theorem pow_tab {W : World} (h : laidMetH Tryd.prog Rows.fnHunksRow.laid W) : Lib.TabIs Tryd.prog W "internal/strconv.uint64pow10" .u64 Lib.pow10Tab := by
  have h' : laidMet Tryd.prog Rows.fnHunksRow.laid W := h
  obtain ⟨ps, ⟨_, _, _, _, _, _, _, _, _, _, ⟨_, _, _, _, _, _, _, _, _, _, ⟨g, t, cs, fuel, p, q, hg, ht, hvar, hd, _, _⟩, _⟩, _⟩, _⟩ := h'
  obtain rfl := Option.some.inj (g2.symm.trans hg)
  have ht0 : (Tryd.prog.globals[0]?).map (·.type) = some 99 := by kernel_rfl
  obtain rfl := Option.some.inj (ht0.symm.trans ht)
  unfold Lib.TabIs
  have e : Rows.laid_internal_strconv_uint64pow10 = Lib.tabData (H := Unit) .u64 Lib.pow10Tab := by kernel_rfl
  have hd' := hd
  rw [e] at hd'
  rw [hvar, ← Lib.cells_of_tab Tryd.underlying99 Tryd.underlying91 (by kernel_rfl) (by kernel_rfl) hd']
theorem start {W : World} (hsh : W.ShapedOpen Tryd.prog) (hlm : laidMetH Tryd.prog Rows.fnHunksRow.laid W) : Go.Qz.Start W where
  pow10 := pow_tab hlm
  maxLen := Go.Proofs.cell_of_shapedOpen_int (zero := #[.int .i64 0]) (t := 3) hsh (of_decide_eq_true (by kernel_rfl)) (by kernel_rfl) rfl (by kernel_rfl) (by kernel_rfl) Tryd.underlying3
set_option maxRecDepth 100000 in
theorem lifted (os : Os) (started : os.Started) (H : Type) (enc : TypeId × Value → H) (F : Stop.Interp) :
    ReturnsInHanded {} Tryd.checked os 3 .any ((OpenSpec.ofChange Rows.fnHunksSpec).preRow enc Tryd.prog Tryd.f3 Rows.fnHunksRow.domain false Rows.fnHunksRow.laid) (((OpenSpec.ofChange Rows.fnHunksSpec).at F).post enc Tryd.prog Tryd.f3 false true false false) := by
  refine law_laid (Ck := Tryd.checked) own started (by kernel_rfl) Tryd.func3
    (witness_row_atRef (enc := enc) (C := Tryd.checked) false (laidWorld os) #[.slice none 0 0, .slice none 0 0] rfl (by kernel_rfl) (by kernel_rfl) (by kernel_rfl) (witness_row os enc))
    rfl (rt := 4) rfl Tryd.underlying4 laidOut ?_ ?_ ?_
  · intro t ht
    rw [Tryd.params3] at ht
    simp only [List.mem_cons, List.not_mem_nil, or_false] at ht
    rcases ht with rfl | rfl
    all_goals exact ⟨by kernel_rfl, of_decide_eq_true (by kernel_rfl)⟩
  · intro ds hds
    match ds, hds with
    | [d0, d1], _ => rfl
  · intro W base args ds ps hval hA hsz hlm hsh
    rw [Tryd.params3] at hA hsz hval
    obtain ⟨v0, vs0, d0, ds0, p0, q0, hargs, rfl, rfl, h0, r0⟩ := trodAll_cons hA
    obtain ⟨v1, vs1, d1, ds1, p1, q1, rfl, rfl, rfl, h1, r1⟩ := trodAll_cons r0
    obtain ⟨rfl, rfl, rfl⟩ := trodAll_nil r1
    obtain rfl : args = #[v0, v1] := by cases args; simp_all
    obtain ⟨a0, len0, cap0, rfl⟩ := okWide_slice Tryd.underlying22 (hval 0 22 v0 rfl rfl)
    obtain ⟨a1, len1, cap1, rfl⟩ := okWide_slice Tryd.underlying22 (hval 1 22 v1 rfl rfl)
    simp only [DataW.weightsEach, List.append_nil, List.all_append, Bool.and_eq_true] at hsz
    obtain ⟨x0, ⟨g0, k0⟩, hr0⟩ := arg_one r_bytes rfl h0 hsz.1
    obtain ⟨x1, ⟨g1, k1⟩, hr1⟩ := arg_one r_bytes rfl h1 hsz.2
    refine law_calls (@Go.Qz.sound ⟨W⟩ (start hsh hlm)) (ds := [BS x0, BS x1]) rfl (fun k d hd => ?_) (hunksLaw_ev x0 x1 (fun b hb => u8_is (k0 b hb)) (fun b hb => u8_is (k1 b hb)))
    match k with
    | 0 =>
      simp only [List.getElem?_cons_zero, Option.some.injEq] at hd
      subst hd
      exact hr0
    | 1 =>
      simp only [List.getElem?_cons_zero, Option.some.injEq, List.getElem?_cons_succ] at hd
      subst hd
      exact hr1
    | k + 2 => simp at hd
theorem over : Rows.fnHunksRow.holds Tryd.pinned (OpenSpec.ofChange Rows.fnHunksSpec) :=
  OpenClaim.holds_of_cond 3 Tryd.f3 rfl rfl rfl rfl rfl rfl rfl ⟨rfl, rfl, rfl, rfl, rfl⟩ rfl rfl rfl rfl rfl (by kernel_rfl) Tryd.func3 (by kernel_rfl)
    (of_decide_eq_true (by kernel_rfl)) (by unfold Func.isWrapper; first | (rw [if_pos (by decide +kernel)]; kernel_rfl) | (rw [if_neg (by decide +kernel)]; exact ⟨rfl, rfl⟩))
    (fun os started H enc _ F => by rw [OpenClaim.pre_eq_preRow]; exact lifted os started H enc F)
theorem card : Rows.FnHunksCardSaid :=
  Claim7.holds_tied_plain_at .later [] [.data, .data, .data, .data, .pinned] true (true, "4c03486d352c2d7bd62847dc365e49c00a0a239207c8affa240bc705d3235abc") false
    over (fun _ h => by cases h) (by kernel_rfl) (fun _ h => by cases h) fnHunks_row_tie rfl ⟨rfl, rfl⟩ (by kernel_rfl) rfl
    (fun f fn hf hfn => by
      obtain rfl : f = 3 := Option.some.inj ((show Tryd.prog.funcNamed "loop.example/jackstay/laws.FnHunks" = some 3 by kernel_rfl).symm.trans hf) |>.symm
      obtain rfl : fn = Tryd.f3 := (Option.some.inj (Tryd.func3.symm.trans hfn)).symm
      exact ⟨by kernel_rfl, fun j t ht => by
        rw [Tryd.params3] at ht
        have h3 : t = 22 := by
          rcases j with _ | _ | j
          · simpa using ht.symm
          · simpa using ht.symm
          · simp at ht
        subst h3
        exact (show Tryd.prog.wantsStandIn 22 = false by kernel_rfl)⟩)
    (by kernel_rfl)
#print axioms card
end Go.Proofs.YtikdjbagodebiaaDoor.hunksLaw
namespace Go.Proofs.YtikdjbagodebiaaDoor
theorem hunksLaw_holds : Rows.FnHunksCardSaid := hunksLaw.card
end Go.Proofs.YtikdjbagodebiaaDoor
