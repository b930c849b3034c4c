/- The law FnExactPackPut: the law holds at every input that can be read, where the listed tables read as the program lays them.
   Conditions: none beyond those that the row itself states. -/
import Derived.Test.YtddfkpkieamlpaaGreatDoorCards
import Derived.Test.YtddfkpkieamlpaaGreatDoorTie
import Derived.Test.YtddfkpkieamlpaaGreatDoorQYd1
import Derived.Test.YtddfkpkieamlpaaGreatDoorQx0
import Derived.Test.YtddfkpkieamlpaaGreatDoorQYe0
import Derived.Shelf.Vars
import Derived.LaidHandle
import Derived.JoinedCond
import Derived.SevenTiedAt
namespace Go.Proofs.YtddfkpkieamlpaaGreatDoor.exactPackPut
open Go Go.ChangeShapes Go.WideShapes Go.ChangeAt Go.RowKit Go.Qz
theorem own:ownKnob Tryz.prog.godebug = none:=by kernel_rfl
theorem laidOut:laidOutB Tryz.prog = true:=by kernel_rfl
section
variable {W:World}
theorem r_str:Reads Tryz.prog W 9 1 (fun l:List UInt8 => [T l]) (fun l => l.length ≤ reachBytes):=zrn Tryz.underlying9 (by kernel_rfl)
theorem r_need:Reads Tryz.prog W 99 3 (fun e:Ne => [T e.name,I e.kind,T e.ver]) (fun e => e.name.length ≤ reachBytes ∧ e.ver.length ≤ reachBytes) :=
  (zgw Tryz.underlying99 (by kernel_rfl) (zbh rfl r_str (zbh rfl (zmk (k:=.i64) Tryz.underlying3 (by kernel_rfl)) (zbh rfl r_str zjz)))).map (fun p => (⟨p.1,p.2.1,p.2.2.1⟩:Ne)) (fun _ => rfl) (fun _ h => ⟨h.1,h.2.2.1⟩)
theorem r_entry:Reads Tryz.prog W 102 4 (fun e:En => [T e.path,I e.kind,I e.mode,T e.text]) (fun e => e.path.length ≤ reachBytes ∧ e.text.length ≤ reachBytes) :=
  (zgw Tryz.underlying102 (by kernel_rfl) (zbh rfl r_str (zbh rfl (zmk (k:=.i64) Tryz.underlying3 (by kernel_rfl)) (zbh rfl (zmk (k:=.i64) Tryz.underlying3 (by kernel_rfl)) (zbh rfl r_str zjz))))).map (fun p => (⟨p.1,p.2.1,p.2.2.1,p.2.2.2.1⟩:En)) (fun _ => rfl) (fun _ h => ⟨h.1,h.2.2.2.1⟩)
theorem r_needs:Reads Tryz.prog W 22 1 (fun es:List Ne => [NeS es]) (fun es => es.length * Tryz.prog.bytesOf 99 ≤ reachBytes ∧ ∀ e ∈ es,e.name.length ≤ reachBytes ∧ e.ver.length ≤ reachBytes) :=
  zml Tryz.underlying22 (by kernel_rfl) r_need (by decide) NeD (fun _ => rfl)
theorem r_entries:Reads Tryz.prog W 23 1 (fun es:List En => [ES es]) (fun es => es.length * Tryz.prog.bytesOf 102 ≤ reachBytes ∧ ∀ e ∈ es,e.path.length ≤ reachBytes ∧ e.text.length ≤ reachBytes) :=
  zml Tryz.underlying23 (by kernel_rfl) r_entry (by decide) ED (fun _ => rfl)
theorem r_pack:Reads Tryz.prog W 25 4 (fun p:Pk => [T p.name,T p.ver,NeS p.needs,ES p.tree]) (fun p => p.name.length ≤ reachBytes ∧ p.ver.length ≤ reachBytes ∧ (p.needs.length * Tryz.prog.bytesOf 99 ≤ reachBytes ∧ ∀ e ∈ p.needs,e.name.length ≤ reachBytes ∧ e.ver.length ≤ reachBytes) ∧ (p.tree.length * Tryz.prog.bytesOf 102 ≤ reachBytes ∧ ∀ e ∈ p.tree,e.path.length ≤ reachBytes ∧ e.text.length ≤ reachBytes)) :=
  (zgw Tryz.underlying25 (by kernel_rfl) (zbh rfl r_str (zbh rfl r_str (zbh rfl r_needs (zbh rfl r_entries zjz))))).map (fun p => (⟨p.1,p.2.1,p.2.2.1,p.2.2.2.1⟩:Pk)) (fun _ => rfl) (fun _ h => ⟨h.1,h.2.1,h.2.2.1,h.2.2.2.1⟩)
end
theorem reach_is:reachBytes = 140737488351232:=by decide
theorem b99:Tryz.prog.bytesOf 99 = 40:=by kernel_rfl
theorem b102:Tryz.prog.bytesOf 102 = 48:=by kernel_rfl
def noArg:Value:=.agg #[.string ⟨#[]⟩,.string ⟨#[]⟩,.slice none 0 0,.slice none 0 0]
def cellsOfLit:List (DataW Unit) → List Value
  | .lit (.int k n) :: r => .int k n :: cellsOfLit r
  | _ => []
def cellsOfTab:DataW Unit → Array Value
  | .agg parts => (cellsOfLit parts).toArray
  | _ => #[]
def cellsOfPairs:DataW Unit → Array Value
  | .agg parts => (parts.flatMap fun p => match p with
    | .agg q => cellsOfLit q
    | _ => []).toArray
  | _ => #[]
def putTab (h:Array Obj) (g:Nat) (cs:Array Value):Array Obj:=h.modify g fun
  | .cells _ t frozen => .cells cs t frozen
  | o => o
noncomputable def laidWorld (os:Os):World :=
  let w0:=World.holding Tryz.prog os ⟨#[],#[],[]⟩
  { w0 with heap:=putTab (putTab (putTab (putTab (putTab (putTab (w0.heap) 5 (cellsOfTab Rows.laid_math_bits_deBruijn32tab)) 6 (cellsOfTab Rows.laid_math_bits_deBruijn64tab)) 4 (cellsOfTab Rows.laid_internal_strconv_uint64pow10)) 3 (cellsOfPairs Rows.laid_unicode_utf8_acceptRanges)) 0 (cellsOfTab Rows.laid_loop_example_jackstay_impl_sumRounds)) 2 (cellsOfTab Rows.laid_unicode_utf8_first) }
theorem laid_met (os:Os) (args:Array Value):laidMetH Tryz.prog Rows.fnExactPackPutRow.laid ((laidWorld os).forCall (fun _ _ => 0) ⟨#[],args,[]⟩).memory:=by
  show laidMet Tryz.prog Rows.fnExactPackPutRow.laid _
  exact laidMet_of_run' 8 (by kernel_rfl) (by kernel_rfl)
set_option maxRecDepth 100000 in
theorem witness_row (os:Os) {H:Type} (enc:TypeId × Value → H) :
    (OpenSpec.ofChange Rows.fnExactPackPutSpec).preRow enc Tryz.prog Tryz.f3 Rows.fnExactPackPutRow.domain false Rows.fnExactPackPutRow.laid ((laidWorld os).forCall (fun _ _ => 0) ⟨#[],#[noArg],[]⟩).memory #[noArg]:=by
  have hw:(DataW.whole enc Tryz.prog ((laidWorld os).forCall (fun _ _ => 0) ⟨#[],#[noArg],[]⟩).memory Tryz.f3.params.toList (OpenSpec.ofChange Rows.fnExactPackPutSpec).vars false #[noArg].toList 8).map (fun x => (x.1,x.2.1)) =
      some ([.agg [.lit (.string []),.lit (.string []),.nil,.nil]],[Rows.laid_loop_example_jackstay_impl_sumRounds]):=by kernel_rfl
  obtain ⟨⟨x1,x2,x3⟩,hx,hx1⟩:=Option.map_eq_some_iff.1 hw
  simp only [Prod.mk.injEq] at hx1
  obtain ⟨rfl,rfl⟩:=hx1
  exact OpenSpec.preRow_of_cond 8 hx (by kernel_rfl) (fun k hk => by cases hk) (by kernel_rfl) (laid_met os _)
theorem g_pow_tab:Tryz.prog.globalNamed "internal/strconv.uint64pow10" = some 4:=by kernel_rfl
theorem pow_tab {W:World} (h:laidMetH Tryz.prog Rows.fnExactPackPutRow.laid W):Lib.TabIs Tryz.prog W "internal/strconv.uint64pow10" .u64 Lib.pow10Tab:=by
  have h':laidMet Tryz.prog Rows.fnExactPackPutRow.laid W:=h
  obtain ⟨ps,⟨_,_,_,_,_,_,_,_,_,_,⟨_,_,_,_,_,_,_,_,_,_,⟨g,t,cs,fuel,p,q,hg,ht,hvar,hd,_,_⟩,_⟩,_⟩,_⟩:=h'
  obtain rfl:=Option.some.inj (g_pow_tab.symm.trans hg)
  have ht0:(Tryz.prog.globals[4]?).map (·.type) = some 215:=by kernel_rfl
  obtain rfl:=Option.some.inj (ht0.symm.trans ht)
  unfold Lib.TabIs
  have e:Rows.laid_internal_strconv_uint64pow10 = Lib.tabData (H:=Unit) .u64 Lib.pow10Tab:=by kernel_rfl
  have hd':=hd
  rw [e] at hd'
  rw [hvar,← Lib.cells_of_tab Tryz.underlying215 Tryz.underlying117 (by kernel_rfl) (by kernel_rfl) hd']
theorem g_sum_tab:Tryz.prog.globalNamed "loop.example/jackstay/impl.sumRounds" = some 0:=by kernel_rfl
theorem sum_tab {W:World} (h:laidMetH Tryz.prog Rows.fnExactPackPutRow.laid W):Lib.TabIs Tryz.prog W "loop.example/jackstay/impl.sumRounds" .u32 (sumTab.map fun (x:Nat) => (x:Int)):=by
  have h':laidMet Tryz.prog Rows.fnExactPackPutRow.laid W:=h
  obtain ⟨ps,⟨_,_,_,_,_,_,_,_,_,_,⟨_,_,_,_,_,_,_,_,_,_,⟨_,_,_,_,_,_,_,_,_,_,⟨_,_,_,_,_,_,_,_,_,_,⟨g,t,cs,fuel,p,q,hg,ht,hvar,hd,_,_⟩,_⟩,_⟩,_⟩,_⟩,_⟩:=h'
  obtain rfl:=Option.some.inj (g_sum_tab.symm.trans hg)
  have ht0:(Tryz.prog.globals[0]?).map (·.type) = some 156:=by kernel_rfl
  obtain rfl:=Option.some.inj (ht0.symm.trans ht)
  unfold Lib.TabIs
  have e:Rows.laid_loop_example_jackstay_impl_sumRounds = Lib.tabData (H:=Unit) .u32 (sumTab.map fun (x:Nat) => (x:Int)):=by kernel_rfl
  have hd':=hd
  rw [e] at hd'
  rw [hvar,← Lib.cells_of_tab Tryz.underlying156 Tryz.underlying115 (by kernel_rfl) (by kernel_rfl) hd']
theorem start {W:World} (hl:laidMetH Tryz.prog Rows.fnExactPackPutRow.laid W) (hsh:W.ShapedOpen Tryz.prog):Go.Qz.Start W where
  maxLen:=Go.Proofs.cell_of_shapedOpen_int (zero:=#[.int .i64 0]) (t:=3) hsh (of_decide_eq_true (by kernel_rfl)) (by kernel_rfl) rfl (by kernel_rfl) (by kernel_rfl) Tryz.underlying3
  pow10:=pow_tab hl
  sums:=fun q hq n x hx => by
    have hq':Tryz.prog.globalNamed zyr = some q:=by simpa [zys] using hq
    rw [World.var?_cell hq' (sum_tab hl) n]
    simp [hx]
set_option maxRecDepth 100000 in
theorem lifted (os:Os) (started:os.Started) (H:Type) (enc:TypeId × Value → H) (F:Stop.Interp) :
    ReturnsInHanded {} Tryz.checked os 3 .any ((OpenSpec.ofChange Rows.fnExactPackPutSpec).preRow enc Tryz.prog Tryz.f3 Rows.fnExactPackPutRow.domain false Rows.fnExactPackPutRow.laid) (((OpenSpec.ofChange Rows.fnExactPackPutSpec).at F).post enc Tryz.prog Tryz.f3 false true false false):=by
  refine z3w (Ck:=Tryz.checked) own started (by kernel_rfl) Tryz.func3
    (witness_row_atRef (enc:=enc) (C:=Tryz.checked) false (laidWorld os) #[noArg] rfl (by kernel_rfl) (by kernel_rfl) (by kernel_rfl) (witness_row os enc))
    (by kernel_rfl) (rt:=4) rfl Tryz.underlying4 laidOut ?_ ?_ ?_
  · intro t ht
    rw [Tryz.params3] at ht
    simp only [List.mem_cons,List.not_mem_nil,or_false] at ht
    subst ht
    exact ⟨by kernel_rfl,of_decide_eq_true (by kernel_rfl)⟩
  · intro ds gs hds hgs
    match ds,gs,hds,hgs with
    | [d],[g0],_,_ => rfl
  · intro W base args ds ps hval hA hsz hlm hsh
    rw [Tryz.params3] at hA hsz hval
    obtain ⟨v0,vs0,d0,ds0,p0,q0,hargs,rfl,rfl,h0,r0⟩:=trodAll_cons hA
    obtain ⟨rfl,rfl,rfl⟩:=trodAll_nil r0
    obtain rfl:args = #[v0]:=by cases args; simp_all
    obtain ⟨cs0,rfl,hcs0⟩:=okWide_struct Tryz.underlying25 (hval 0 25 v0 rfl rfl)
    simp only [DataW.weightsEach,List.append_nil] at hsz
    obtain ⟨p,⟨g1,g2,⟨g3,g4⟩,g5,g6⟩,hr⟩:=z56 r_pack h0 hsz
    rw [b99] at g3
    rw [b102] at g5
    rw [reach_is] at g1 g2 g3 g5
    simp only [reach_is] at g4 g6
    refine z1i (@Go.Qz.sound ⟨W⟩ (start hlm hsh)) (ds:=[PkD p]) rfl (fun k d hd => ?_) (zm0 p ⟨g1,g2,by omega,by omega,g4,g6⟩)
    cases k with
    | zero =>
      simp only [List.getElem?_cons_zero,Option.some.injEq] at hd
      subst hd
      exact hr
    | succ k => simp at hd
theorem over:Rows.fnExactPackPutRow.holds Tryz.pinned (OpenSpec.ofChange Rows.fnExactPackPutSpec) :=
  OpenClaim.holds_of_cond 3 Tryz.f3 rfl rfl rfl rfl rfl rfl rfl ⟨rfl,rfl,rfl,rfl,rfl⟩ rfl rfl rfl rfl rfl (by kernel_rfl) Tryz.func3 (by kernel_rfl)
    (of_decide_eq_true (by kernel_rfl)) (by unfold Func.isWrapper; first | (rw [if_pos (by decide +kernel)]; kernel_rfl) | (rw [if_neg (by decide +kernel)]; exact ⟨rfl,rfl⟩))
    (fun os started H enc _ F => by rw [OpenClaim.pre_eq_preRow]; exact lifted os started H enc F)
theorem card:Rows.FnExactPackPutCardSaid :=
  Claim7.holds_tied_plain_at .later [] [.data,.data,.data,.data,.data,.pinned] true (true, "4e6c49acff9326653f063c2909e8080f9d3f51a38fa82888cccce7cb06914052") false
    over (fun _ h => by cases h) (by kernel_rfl) (fun _ h => by cases h) fnExactPackPut_row_tie rfl ⟨rfl,rfl⟩ (by kernel_rfl) rfl
    (fun f fn hf hfn => by
      obtain rfl:f = 3:=Option.some.inj ((show Tryz.prog.funcNamed "loop.example/jackstay/laws.FnExactPackPut" = some 3 by kernel_rfl).symm.trans hf) |>.symm
      obtain rfl:fn = Tryz.f3:=(Option.some.inj (Tryz.func3.symm.trans hfn)).symm
      exact ⟨by kernel_rfl,fun j t ht => by
        rw [Tryz.params3] at ht
        have h3:t = 25:=by
          rcases j with _ | j
          · simpa using ht.symm
          · simp at ht
        subst h3
        exact (show Tryz.prog.wantsStandIn 25 = false by kernel_rfl)⟩)
    (by kernel_rfl)
#print axioms card
end Go.Proofs.YtddfkpkieamlpaaGreatDoor.exactPackPut
namespace Go.Proofs.YtddfkpkieamlpaaGreatDoor
theorem exactPackPut_holds:Rows.FnExactPackPutCardSaid:=exactPackPut.card
end Go.Proofs.YtddfkpkieamlpaaGreatDoor
