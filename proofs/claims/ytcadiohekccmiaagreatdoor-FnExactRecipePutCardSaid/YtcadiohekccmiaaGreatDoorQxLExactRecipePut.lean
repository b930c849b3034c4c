/- The law FnExactRecipePut: the law holds at every input that can be read, where the listed tables read as the program lays them.
   Conditions: none beyond those that the row itself states. -/
import Derived.Test.YtcadiohekccmiaaGreatDoorCards
import Derived.Test.YtcadiohekccmiaaGreatDoorTie
import Derived.Test.YtcadiohekccmiaaGreatDoorQYb1
import Derived.Test.YtcadiohekccmiaaGreatDoorQv0
import Derived.Test.YtcadiohekccmiaaGreatDoorQYc0
import Derived.Shelf.Vars
import Derived.LaidHandle
import Derived.JoinedCond
import Derived.SevenTiedAt
namespace Go.Proofs.YtcadiohekccmiaaGreatDoor.exactRecipePut
open Go Go.ChangeShapes Go.WideShapes Go.ChangeAt Go.RowKit Go.Qz
theorem own : ownKnob Tryz.prog.godebug = none := by kernel_rfl
theorem laidOut : laidOutB Tryz.prog = true := by kernel_rfl
section
variable {W : World}
theorem r_str : Reads Tryz.prog W 9 1 (fun l : List UInt8 => [T l]) (fun l => l.length ≤ reachBytes) := zrr Tryz.underlying9 (by kernel_rfl)
theorem r_let : Reads Tryz.prog W 138 2 (fun f : Fl => [T f.1,T f.2]) (fun f => f.1.length ≤ reachBytes ∧ f.2.length ≤ reachBytes) :=
  (zdn Tryz.underlying138 (by kernel_rfl) (zaw rfl r_str (zaw rfl r_str zfm))).map (fun p => (p.1,p.2.1)) (fun _ => rfl) (fun _ h => ⟨h.1,h.2.1⟩)
theorem r_source : Reads Tryz.prog W 142 2 (fun f : Fl => [T f.1,T f.2]) (fun f => f.1.length ≤ reachBytes ∧ f.2.length ≤ reachBytes) :=
  (zdn Tryz.underlying142 (by kernel_rfl) (zaw rfl r_str (zaw rfl r_str zfm))).map (fun p => (p.1,p.2.1)) (fun _ => rfl) (fun _ h => ⟨h.1,h.2.1⟩)
theorem r_piece : Reads Tryz.prog W 144 2 (fun f : Fl => [T f.1,T f.2]) (fun f => f.1.length ≤ reachBytes ∧ f.2.length ≤ reachBytes) :=
  (zdn Tryz.underlying144 (by kernel_rfl) (zaw rfl r_str (zaw rfl r_str zfm))).map (fun p => (p.1,p.2.1)) (fun _ => rfl) (fun _ h => ⟨h.1,h.2.1⟩)
theorem r_need : Reads Tryz.prog W 140 3 (fun e : Ne => [T e.name,I e.kind,T e.ver]) (fun e => e.name.length ≤ reachBytes ∧ e.ver.length ≤ reachBytes) :=
  (zdn Tryz.underlying140 (by kernel_rfl) (zaw rfl r_str (zaw rfl (z0k (k := .i64) Tryz.underlying3 (by kernel_rfl)) (zaw rfl r_str zfm)))).map (fun p => (⟨p.1,p.2.1,p.2.2.1⟩ : Ne)) (fun _ => rfl) (fun _ h => ⟨h.1,h.2.2.1⟩)
theorem r_lets : Reads Tryz.prog W 39 1 (fun fs : List Fl => [FS fs]) (fun fs => fs.length * Tryz.prog.bytesOf 138 ≤ reachBytes ∧ ∀ e ∈ fs,e.1.length ≤ reachBytes ∧ e.2.length ≤ reachBytes) :=
  zeo Tryz.underlying39 (by kernel_rfl) r_let (by decide) FD (fun _ => rfl)
theorem r_sources : Reads Tryz.prog W 41 1 (fun fs : List Fl => [FS fs]) (fun fs => fs.length * Tryz.prog.bytesOf 142 ≤ reachBytes ∧ ∀ e ∈ fs,e.1.length ≤ reachBytes ∧ e.2.length ≤ reachBytes) :=
  zeo Tryz.underlying41 (by kernel_rfl) r_source (by decide) FD (fun _ => rfl)
theorem r_pieces : Reads Tryz.prog W 42 1 (fun fs : List Fl => [FS fs]) (fun fs => fs.length * Tryz.prog.bytesOf 144 ≤ reachBytes ∧ ∀ e ∈ fs,e.1.length ≤ reachBytes ∧ e.2.length ≤ reachBytes) :=
  zeo Tryz.underlying42 (by kernel_rfl) r_piece (by decide) FD (fun _ => rfl)
theorem r_needs : Reads Tryz.prog W 40 1 (fun fs : List Ne => [NeS fs]) (fun fs => fs.length * Tryz.prog.bytesOf 140 ≤ reachBytes ∧ ∀ e ∈ fs,e.name.length ≤ reachBytes ∧ e.ver.length ≤ reachBytes) :=
  zeo Tryz.underlying40 (by kernel_rfl) r_need (by decide) NeD (fun _ => rfl)
theorem r_texts : Reads Tryz.prog W 27 1 (fun fs : List (List UInt8) => [SS fs]) (fun fs => fs.length * Tryz.prog.bytesOf 9 ≤ reachBytes ∧ ∀ e ∈ fs,e.length ≤ reachBytes) :=
  zeo Tryz.underlying27 (by kernel_rfl) r_str (by decide) T (fun _ => rfl)
theorem r_recipe : Reads Tryz.prog W 44 8 (fun r : Rc => [T r.name,T r.ver,FS r.lets,NeS r.builds,NeS r.runs,FS r.srcs,FS r.pcs,SS r.steps]) (fun r => r.name.length ≤ reachBytes ∧ r.ver.length ≤ reachBytes ∧ (r.lets.length * Tryz.prog.bytesOf 138 ≤ reachBytes ∧ ∀ e ∈ r.lets,e.1.length ≤ reachBytes ∧ e.2.length ≤ reachBytes) ∧ (r.builds.length * Tryz.prog.bytesOf 140 ≤ reachBytes ∧ ∀ e ∈ r.builds,e.name.length ≤ reachBytes ∧ e.ver.length ≤ reachBytes) ∧ (r.runs.length * Tryz.prog.bytesOf 140 ≤ reachBytes ∧ ∀ e ∈ r.runs,e.name.length ≤ reachBytes ∧ e.ver.length ≤ reachBytes) ∧ (r.srcs.length * Tryz.prog.bytesOf 142 ≤ reachBytes ∧ ∀ e ∈ r.srcs,e.1.length ≤ reachBytes ∧ e.2.length ≤ reachBytes) ∧ (r.pcs.length * Tryz.prog.bytesOf 144 ≤ reachBytes ∧ ∀ e ∈ r.pcs,e.1.length ≤ reachBytes ∧ e.2.length ≤ reachBytes) ∧ (r.steps.length * Tryz.prog.bytesOf 9 ≤ reachBytes ∧ ∀ e ∈ r.steps,e.length ≤ reachBytes)) :=
  (zdn Tryz.underlying44 (by kernel_rfl) (zaw rfl r_str (zaw rfl r_str (zaw rfl r_lets (zaw rfl r_needs (zaw rfl r_needs (zaw rfl r_sources (zaw rfl r_pieces (zaw rfl r_texts zfm))))))))).map (fun p => (⟨p.1,p.2.1,p.2.2.1,p.2.2.2.1,p.2.2.2.2.1,p.2.2.2.2.2.1,p.2.2.2.2.2.2.1,p.2.2.2.2.2.2.2.1⟩ : Rc)) (fun _ => rfl) (fun _ h => ⟨h.1,h.2.1,h.2.2.1,h.2.2.2.1,h.2.2.2.2.1,h.2.2.2.2.2.1,h.2.2.2.2.2.2.1,h.2.2.2.2.2.2.2.1⟩)
end
theorem reach_is : reachBytes = 140737488351232 := by decide
theorem b138 : Tryz.prog.bytesOf 138 = 32 := by kernel_rfl
theorem b140 : Tryz.prog.bytesOf 140 = 40 := by kernel_rfl
theorem b142 : Tryz.prog.bytesOf 142 = 32 := by kernel_rfl
theorem b144 : Tryz.prog.bytesOf 144 = 32 := by kernel_rfl
theorem b9 : Tryz.prog.bytesOf 9 = 16 := by kernel_rfl
def noArg : Value := .agg #[.string ⟨#[]⟩,.string ⟨#[]⟩,.slice none 0 0,.slice none 0 0,.slice none 0 0,.slice none 0 0,.slice none 0 0,.slice none 0 0]
def cellsOfLit : List (DataW Unit) → List Value
  | .lit (.int k n) :: r => .int k n :: cellsOfLit r
  | _ => []
def cellsOfTab : DataW Unit → Array Value
  | .agg parts => (cellsOfLit parts).toArray
  | _ => #[]
def cellsOfPairs : DataW Unit → Array Value
  | .agg parts => (parts.flatMap fun p => match p with
    | .agg q => cellsOfLit q
    | _ => []).toArray
  | _ => #[]
def putTab (h : Array Obj) (g : Nat) (cs : Array Value) : Array Obj := h.modify g fun
  | .cells _ t frozen => .cells cs t frozen
  | o => o
noncomputable def laidWorld (os : Os) : World :=
  let w0 := World.holding Tryz.prog os ⟨#[],#[],[]⟩
  { w0 with heap := (putTab (putTab (w0.heap) 3 (cellsOfPairs Rows.laid_unicode_utf8_acceptRanges)) 2 (cellsOfTab Rows.laid_unicode_utf8_first)).modify 0 fun
      | .cells _ t frozen => .cells #[.iface 246 (.agg #[hnd 88])] t frozen
      | o => o }
theorem laid_met (os : Os) (args : Array Value) : laidMetH Tryz.prog Rows.fnExactRecipePutRow.laid ((laidWorld os).forCall (fun _ _ => 0) ⟨#[],args,[]⟩).memory :=
  laidMetH_of_parts (laidMet_of_run' 8 (by kernel_rfl) (by kernel_rfl)) (by kernel_rfl)
set_option maxRecDepth 100000 in
theorem witness_row (os : Os) {H : Type} (enc : TypeId × Value → H) :
    (OpenSpec.ofChange Rows.fnExactRecipePutSpec).preRow enc Tryz.prog Tryz.f8 Rows.fnExactRecipePutRow.domain false Rows.fnExactRecipePutRow.laid ((laidWorld os).forCall (fun _ _ => 0) ⟨#[],#[noArg],[]⟩).memory #[noArg] := by
  have hw : (DataW.whole enc Tryz.prog ((laidWorld os).forCall (fun _ _ => 0) ⟨#[],#[noArg],[]⟩).memory Tryz.f8.params.toList (OpenSpec.ofChange Rows.fnExactRecipePutSpec).vars false #[noArg].toList 8).map (fun x => (x.1,x.2.1)) =
      some ([.agg [.lit (.string []),.lit (.string []),.nil,.nil,.nil,.nil,.nil,.nil]],[]) := by kernel_rfl
  obtain ⟨⟨x1,x2,x3⟩,hx,hx1⟩ := Option.map_eq_some_iff.1 hw
  simp only [Prod.mk.injEq] at hx1
  obtain ⟨rfl,rfl⟩ := hx1
  exact OpenSpec.preRow_of_cond 8 hx (by kernel_rfl) (fun k hk => by cases hk) (by kernel_rfl) (laid_met os _)
theorem et : Tryz.prog.globalNamed "errors.errorType" = some 0 := by kernel_rfl
theorem rt : (Tryz.prog.cutTypes.find? (·.1 == "internal/reflectlite.rtype")).map (·.2) = some 246 := by kernel_rfl
theorem oneRow : ((List.range 289).filter fun t => Tryz.prog.rowNamed t [101,114,114,111,114]) = [88] := by kernel_rfl
theorem typesSize : Tryz.prog.types.size = 289 := by kernel_rfl
theorem start {W : World} (h : laidMetH Tryz.prog Rows.fnExactRecipePutRow.laid W) (hsh : W.ShapedOpen Tryz.prog) : Go.Qz.Start W where
  maxLen := Go.Proofs.cell_of_shapedOpen_int (zero := #[.int .i64 0]) (t := 3) hsh (of_decide_eq_true (by kernel_rfl)) (by kernel_rfl) rfl (by kernel_rfl) (by kernel_rfl) Tryz.underlying3
  error := by
    have h' : laidMet Tryz.prog [("unicode/utf8.acceptRanges", Rows.laid_unicode_utf8_acceptRanges),("unicode/utf8.first", Rows.laid_unicode_utf8_first)] W ∧ handlesMet Tryz.prog [("errors.errorType", Rows.laid_errors_errorType)] W := h
    obtain ⟨name,u,ty,e1,e2,e3,e4,e5⟩ := h'.2 _ (List.mem_singleton.2 rfl)
    have en : name = [101,114,114,111,114] := (Option.some.inj e1).symm
    subst en
    obtain rfl := Option.some.inj (rt.symm.trans e2)
    have hm : ty ∈ (List.range 289).filter fun t => Tryz.prog.rowNamed t [101,114,114,111,114] := List.mem_filter.2 ⟨List.mem_range.2 (by rw [← typesSize]; exact e3),e4⟩
    rw [oneRow] at hm
    obtain rfl := List.mem_singleton.1 hm
    have hh : typeHandle Tryz.prog 88 = .pointer (some ⟨4,88,none⟩) := by kernel_rfl
    rw [hh] at e5
    simpa using World.var?_cell et e5 0
set_option maxRecDepth 100000 in
theorem lifted (os : Os) (started : os.Started) (H : Type) (enc : TypeId × Value → H) (F : Stop.Interp) :
    ReturnsInHanded {} Tryz.checked os 8 .any ((OpenSpec.ofChange Rows.fnExactRecipePutSpec).preRow enc Tryz.prog Tryz.f8 Rows.fnExactRecipePutRow.domain false Rows.fnExactRecipePutRow.laid) (((OpenSpec.ofChange Rows.fnExactRecipePutSpec).at F).post enc Tryz.prog Tryz.f8 false true false false) := by
  refine z29 (Ck := Tryz.checked) own started (by kernel_rfl) Tryz.func8
    (witness_row_atRef (enc := enc) (C := Tryz.checked) false (laidWorld os) #[noArg] rfl (by kernel_rfl) (by kernel_rfl) (by kernel_rfl) (witness_row os enc))
    rfl (rt := 4) rfl Tryz.underlying4 laidOut ?_ ?_ ?_
  · intro t ht
    rw [Tryz.params8] at ht
    simp only [List.mem_cons,List.not_mem_nil,or_false] at ht
    subst ht
    exact ⟨by kernel_rfl,of_decide_eq_true (by kernel_rfl)⟩
  · intro ds hds
    match ds,hds with
    | [d],_ => rfl
  · intro W base args ds ps hval hA hsz hlm hsh
    rw [Tryz.params8] at hA hsz hval
    obtain ⟨v0,vs0,d0,ds0,p0,q0,hargs,rfl,rfl,h0,r0⟩ := trodAll_cons hA
    obtain ⟨rfl,rfl,rfl⟩ := trodAll_nil r0
    obtain rfl : args = #[v0] := by cases args; simp_all
    obtain ⟨cs0,rfl,hcs0⟩ := okWide_struct Tryz.underlying44 (hval 0 44 v0 rfl rfl)
    simp only [DataW.weightsEach,List.append_nil] at hsz
    obtain ⟨r,⟨g1,g2,⟨g3,g4⟩,⟨g5,g6⟩,⟨g7,g8⟩,⟨g9,g10⟩,⟨g11,g12⟩,g13,g14⟩,hr⟩ := z6f r_recipe h0 hsz
    rw [b138] at g3
    rw [b140] at g5 g7
    rw [b142] at g9
    rw [b144] at g11
    rw [b9] at g13
    rw [reach_is] at g1 g2 g3 g5 g7 g9 g11 g13
    simp only [reach_is] at g4 g6 g8 g10 g12 g14
    refine z0m (@Go.Qz.sound ⟨W⟩ (start hlm hsh)) (ds := [RcD r]) rfl (fun k d hd => ?_) (zkm r ⟨g1,g2,by omega,by omega,by omega,by omega,by omega,by omega,g4,g6,g8,g10,g12,g14⟩)
    cases k with
    | zero =>
      simp only [List.getElem?_cons_zero,Option.some.injEq] at hd
      subst hd
      exact hr
    | succ k => simp at hd
theorem over : Rows.fnExactRecipePutRow.holds Tryz.pinned (OpenSpec.ofChange Rows.fnExactRecipePutSpec) :=
  OpenClaim.holds_of_cond 8 Tryz.f8 rfl rfl rfl rfl rfl rfl rfl ⟨rfl,rfl,rfl,rfl,rfl⟩ rfl rfl rfl rfl rfl (by kernel_rfl) Tryz.func8 (by kernel_rfl)
    (of_decide_eq_true (by kernel_rfl)) (by unfold Func.isWrapper; first | (rw [if_pos (by decide +kernel)]; kernel_rfl) | (rw [if_neg (by decide +kernel)]; exact ⟨rfl,rfl⟩))
    (fun os started H enc _ F => by rw [OpenClaim.pre_eq_preRow]; exact lifted os started H enc F)
theorem card : Rows.FnExactRecipePutCardSaid :=
  Claim7.holds_tied_plain_at .later [] [.data,.handle,.pinned] true (true, "6320ae87338c1d52878772a8195b605eb6f4daf42e70b8c9fada2c09c0d09ac3") true
    over (fun _ h => by cases h) (by kernel_rfl) (fun _ h => by cases h) fnExactRecipePut_row_tie rfl ⟨rfl,rfl⟩ (by kernel_rfl) rfl
    (fun f fn hf hfn => by
      obtain rfl : f = 8 := Option.some.inj ((show Tryz.prog.funcNamed "loop.example/jackstay/laws.FnExactRecipePut" = some 8 by kernel_rfl).symm.trans hf) |>.symm
      obtain rfl : fn = Tryz.f8 := (Option.some.inj (Tryz.func8.symm.trans hfn)).symm
      exact ⟨by kernel_rfl,fun j t ht => by
        rw [Tryz.params8] at ht
        have h3 : t = 44 := by
          rcases j with _ | j
          · simpa using ht.symm
          · simp at ht
        subst h3
        exact (show Tryz.prog.wantsStandIn 44 = false by kernel_rfl)⟩)
    (by kernel_rfl)
#print axioms card
end Go.Proofs.YtcadiohekccmiaaGreatDoor.exactRecipePut
namespace Go.Proofs.YtcadiohekccmiaaGreatDoor
theorem exactRecipePut_holds : Rows.FnExactRecipePutCardSaid := exactRecipePut.card
end Go.Proofs.YtcadiohekccmiaaGreatDoor
