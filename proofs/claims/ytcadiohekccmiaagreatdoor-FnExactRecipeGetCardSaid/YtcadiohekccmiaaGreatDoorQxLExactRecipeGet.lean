/- The law FnExactRecipeGet: the law holds at every input that can be read, where the listed tables read as the program lays them.
   Conditions: none beyond those that the row itself states. -/
import Derived.Test.YtcadiohekccmiaaGreatDoorCards
import Derived.Test.YtcadiohekccmiaaGreatDoorTie
import Derived.Test.YtcadiohekccmiaaGreatDoorQYc0
import Derived.Test.YtcadiohekccmiaaGreatDoorQv0
import Derived.Shelf.Vars
import Derived.LaidHandle
import Derived.JoinedCond
import Derived.SevenTiedAt
namespace Go.Proofs.YtcadiohekccmiaaGreatDoor.exactRecipeGet
open Go Go.ChangeShapes Go.WideShapes Go.ChangeAt Go.RowKit Go.Qz
theorem own:ownKnob Tryz.prog.godebug = none:=by kernel_rfl
theorem laidOut:laidOutB Tryz.prog = true:=by kernel_rfl
section
variable {W:World}
theorem r_str:yb6 Tryz.prog W 9 1 (fun l:List UInt8 => [T l]) (fun l => l.length ≤ reachBytes):=zt4 Tryz.underlying9 (by kernel_rfl)
end
theorem reach_is:reachBytes = 140737488351232:=by decide
def cellsOfLit:List (DataW Unit) → List Value
  | .lit (.int k n) :: r => .int k n :: cellsOfLit r
  | _ => []
def cellsOfTab:DataW Unit → Array Value
  | .agg parts => (cellsOfLit parts).toArray
  | _ => #[]
def cellsOfPairs:DataW Unit → Array Value
  | .agg parts => (parts.flatMap fun p => match p with
    | .agg q => cellsOfLit q
    | _ => []).toArray
  | _ => #[]
def putTab (h:Array Obj) (g:Nat) (cs:Array Value):Array Obj:=h.modify g fun
  | .cells _ t frozen => .cells cs t frozen
  | o => o
noncomputable def laidWorld (os:Os):World :=
  let w0:=World.holding Tryz.prog os ⟨#[],#[],[]⟩
  { w0 with heap:=(putTab (putTab (w0.heap) 3 (cellsOfPairs Rows.laid_unicode_utf8_acceptRanges)) 2 (cellsOfTab Rows.laid_unicode_utf8_first)).modify 0 fun
      | .cells _ t frozen => .cells #[.iface 246 (.agg #[hnd 88])] t frozen
      | o => o }
theorem laid_met (os:Os) (args:Array Value):laidMetH Tryz.prog Rows.fnExactRecipeGetRow.laid ((laidWorld os).forCall (fun _ _ => 0) ⟨#[],args,[]⟩).memory :=
  laidMetH_of_parts (laidMet_of_run' 8 (by kernel_rfl) (by kernel_rfl)) (by kernel_rfl)
set_option maxRecDepth 100000 in
theorem witness_row (os:Os) {H:Type} (enc:TypeId × Value → H) :
    (OpenSpec.ofChange Rows.fnExactRecipeGetSpec).preRow enc Tryz.prog Tryz.f9 Rows.fnExactRecipeGetRow.domain false Rows.fnExactRecipeGetRow.laid ((laidWorld os).forCall (fun _ _ => 0) ⟨#[],#[.string ⟨#[]⟩],[]⟩).memory #[.string ⟨#[]⟩]:=by
  have hw:(DataW.whole enc Tryz.prog ((laidWorld os).forCall (fun _ _ => 0) ⟨#[],#[.string ⟨#[]⟩],[]⟩).memory Tryz.f9.params.toList (OpenSpec.ofChange Rows.fnExactRecipeGetSpec).vars false #[Value.string ⟨#[]⟩].toList 8).map (fun x => (x.1,x.2.1)) =
      some ([.lit (.string [])],[]):=by kernel_rfl
  obtain ⟨⟨x1,x2,x3⟩,hx,hx1⟩:=Option.map_eq_some_iff.1 hw
  simp only [Prod.mk.injEq] at hx1
  obtain ⟨rfl,rfl⟩:=hx1
  exact OpenSpec.preRow_of_cond 8 hx (by kernel_rfl) (fun k hk => by cases hk) (by kernel_rfl) (laid_met os _)
theorem et:Tryz.prog.globalNamed "errors.errorType" = some 0:=by kernel_rfl
theorem rt:(Tryz.prog.cutTypes.find? (·.1 == "internal/reflectlite.rtype")).map (·.2) = some 246:=by kernel_rfl
theorem oneRow:((List.range 289).filter fun t => Tryz.prog.rowNamed t [101,114,114,111,114]) = [88]:=by kernel_rfl
theorem typesSize:Tryz.prog.types.size = 289:=by kernel_rfl
theorem start {W:World} (h:laidMetH Tryz.prog Rows.fnExactRecipeGetRow.laid W) (hsh:W.ShapedOpen Tryz.prog):Go.Qz.Start W where
  maxLen:=Go.Proofs.cell_of_shapedOpen_int (zero:=#[.int .i64 0]) (t:=3) hsh (of_decide_eq_true (by kernel_rfl)) (by kernel_rfl) rfl (by kernel_rfl) (by kernel_rfl) Tryz.underlying3
  error:=by
    have h':laidMet Tryz.prog [("unicode/utf8.acceptRanges", Rows.laid_unicode_utf8_acceptRanges),("unicode/utf8.first", Rows.laid_unicode_utf8_first)] W ∧ handlesMet Tryz.prog [("errors.errorType", Rows.laid_errors_errorType)] W:=h
    obtain ⟨name,u,ty,e1,e2,e3,e4,e5⟩:=h'.2 _ (List.mem_singleton.2 rfl)
    have en:name = [101,114,114,111,114]:=(Option.some.inj e1).symm
    subst en
    obtain rfl:=Option.some.inj (rt.symm.trans e2)
    have hm:ty ∈ (List.range 289).filter fun t => Tryz.prog.rowNamed t [101,114,114,111,114]:=List.mem_filter.2 ⟨List.mem_range.2 (by rw [← typesSize]; exact e3),e4⟩
    rw [oneRow] at hm
    obtain rfl:=List.mem_singleton.1 hm
    have hh:typeHandle Tryz.prog 88 = .pointer (some ⟨4,88,none⟩):=by kernel_rfl
    rw [hh] at e5
    simpa using World.var?_cell et e5 0
set_option maxRecDepth 100000 in
theorem lifted (os:Os) (started:os.Started) (H:Type) (enc:TypeId × Value → H) (F:Stop.Interp) :
    ReturnsInHanded {} Tryz.checked os 9 .any ((OpenSpec.ofChange Rows.fnExactRecipeGetSpec).preRow enc Tryz.prog Tryz.f9 Rows.fnExactRecipeGetRow.domain false Rows.fnExactRecipeGetRow.laid) (((OpenSpec.ofChange Rows.fnExactRecipeGetSpec).at F).post enc Tryz.prog Tryz.f9 false true false false):=by
  refine z8m (Ck:=Tryz.checked) own started (by kernel_rfl) Tryz.func9
    (witness_row_atRef (enc:=enc) (C:=Tryz.checked) false (laidWorld os) #[.string ⟨#[]⟩] rfl (by kernel_rfl) (by kernel_rfl) (by kernel_rfl) (witness_row os enc))
    rfl (rt:=4) rfl Tryz.underlying4 laidOut ?_ ?_ ?_
  · intro t ht
    rw [Tryz.params9] at ht
    simp only [List.mem_cons,List.not_mem_nil,or_false] at ht
    subst ht
    exact ⟨by kernel_rfl,of_decide_eq_true (by kernel_rfl)⟩
  · intro ds hds
    match ds,hds with
    | [d],_ => rfl
  · intro W base args ds ps hval hA hsz hlm hsh
    rw [Tryz.params9] at hA hsz hval
    obtain ⟨v0,vs0,d0,ds0,p0,q0,hargs,rfl,rfl,h0,r0⟩:=trodAll_cons hA
    obtain ⟨rfl,rfl,rfl⟩:=trodAll_nil r0
    obtain rfl:args = #[v0]:=by cases args; simp_all
    obtain ⟨s0,rfl⟩:=okWide_string Tryz.underlying9 (hval 0 9 v0 rfl rfl)
    simp only [DataW.weightsEach,List.append_nil] at hsz
    obtain ⟨l,g1,hr⟩:=yb7 r_str rfl h0 hsz
    rw [reach_is] at g1
    refine z5a (@Go.Qz.sound ⟨W⟩ (start hlm hsh)) (ds:=[T l]) rfl (fun k d hd => ?_) (zlu l g1)
    cases k with
    | zero =>
      simp only [List.getElem?_cons_zero,Option.some.injEq] at hd
      subst hd
      exact hr
    | succ k => simp at hd
theorem over:Rows.fnExactRecipeGetRow.holds Tryz.pinned (OpenSpec.ofChange Rows.fnExactRecipeGetSpec) :=
  OpenClaim.holds_of_cond 9 Tryz.f9 rfl rfl rfl rfl rfl rfl rfl ⟨rfl,rfl,rfl,rfl,rfl⟩ rfl rfl rfl rfl rfl (by kernel_rfl) Tryz.func9 (by kernel_rfl)
    (of_decide_eq_true (by kernel_rfl)) (by unfold Func.isWrapper; first | (rw [if_pos (by decide +kernel)]; kernel_rfl) | (rw [if_neg (by decide +kernel)]; exact ⟨rfl,rfl⟩))
    (fun os started H enc _ F => by rw [OpenClaim.pre_eq_preRow]; exact lifted os started H enc F)
theorem card:Rows.FnExactRecipeGetCardSaid :=
  Claim7.holds_tied_plain_at .later [] [.data,.handle,.pinned] true (true, "6320ae87338c1d52878772a8195b605eb6f4daf42e70b8c9fada2c09c0d09ac3") true
    over (fun _ h => by cases h) (by kernel_rfl) (fun _ h => by cases h) fnExactRecipeGet_row_tie rfl ⟨rfl,rfl⟩ (by kernel_rfl) rfl
    (fun f fn hf hfn => by
      obtain rfl:f = 9:=Option.some.inj ((show Tryz.prog.funcNamed "loop.example/jackstay/laws.FnExactRecipeGet" = some 9 by kernel_rfl).symm.trans hf) |>.symm
      obtain rfl:fn = Tryz.f9:=(Option.some.inj (Tryz.func9.symm.trans hfn)).symm
      exact ⟨by kernel_rfl,fun j t ht => by
        rw [Tryz.params9] at ht
        have h3:t = 9:=by
          rcases j with _ | j
          · simpa using ht.symm
          · simp at ht
        subst h3
        exact (show Tryz.prog.wantsStandIn 9 = false by kernel_rfl)⟩)
    (by kernel_rfl)
#print axioms card
end Go.Proofs.YtcadiohekccmiaaGreatDoor.exactRecipeGet
namespace Go.Proofs.YtcadiohekccmiaaGreatDoor
theorem exactRecipeGet_holds:Rows.FnExactRecipeGetCardSaid:=exactRecipeGet.card
end Go.Proofs.YtcadiohekccmiaaGreatDoor
