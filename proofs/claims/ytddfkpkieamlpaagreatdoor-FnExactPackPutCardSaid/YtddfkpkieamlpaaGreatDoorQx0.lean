import Derived.Test.YtddfkpkieamlpaaGreatDoorQv0
import Derived.OpenVars
namespace Go.Qz
open Go.ChangeShapes Go.WideShapes Go.ChangeAt Go.RowKit
theorem zja{H:Type}{P:Program}:∀{ts us:List TypeId} {ds gs:List (DataW H)},ds.length=ts.length->(DataW.weightsEach P (ts++us) (ds++gs)).all (· <=reachBytes)=true->(DataW.weightsEach P ts ds).all (· <=reachBytes)=true
 | [],_,[],_,_,_=>by simp[DataW.weightsEach]
 | [],_,_::_,_,h,_=>by simp at h
 |_::_,_,[],_,h,_=>by simp at h
 |t::ts,us,d::ds,gs,h,h2=>by
  simp only[List.cons_append,DataW.weightsEach,List.all_append,Bool.and_eq_true]at h2 ⊢;exact⟨h2.1,zja (by simpa using h) h2.2⟩
theorem zmm{H:Type}{enc:TypeId×Value->H}{P:Program}{W:World}{sp:Nat->Bool}:∀{ns:List String} {gs:List (DataW H)} {ps:List MemPlace},DataW.TrodVars enc P W sp ns gs ps->gs.length=ns.length
 | [],[],_,_=>rfl
 | [],_::_,_,h=>h.elim
 |_::_,[],_,h=>h.elim
 |_::ns,_::ds,_,h=>by
  obtain⟨_,_,_,_,_,_,_,_,_,_,hs,_⟩:=h;simp[zmm hs]
section
variable{P:Program}{W:World}
theorem z3w{Ck:Checked}{os:Os}{H:Type}{enc:TypeId×Value->H}{f:FuncId}{fn:Func}{s:ChangeSpec}{F:Stop.Interp}{conds:List PathCond}{apart:Bool}{laid:List (String×DataW Unit)}(own:ownKnob Ck.prog.godebug=none)(started:os.Started)(noInit:Ck.prog.inits.idxOf? f=none)(hfn:Ck.prog.funcs[f]? =some fn)
 (witness:∃(w:World) (tape:Tape) (i:Input),w.os=os/\(w.forCall tape i).Shaped Ck.prog/\i.vars=[]/\Input.okWide Ck.prog (w.forCall tape i) .any w.heap.size f i/\
  (OpenSpec.ofChange s).preRow enc Ck.prog fn conds apart laid (w.forCall tape i).memory i.args/\Assume.holds {} Ck.prog (lone (Frame.enter Ck.prog f i.args .normal) [] (w.forCall tape i)))
 (hvars:varsRowed Ck.prog s.vars=true) {rt:TypeId} (hres:fn.resultTypes= #[rt]) (hrt:Ck.prog.underlying rt=some .bool) (hlaid:laidOutB Ck.prog=true) (hpar:∀t∈fn.params.toList,Ck.prog.readableRec t=true/\t<Ck.prog.types.size)
 (hspec:∀ds gs:List (DataW H),ds.length=fn.params.size->gs.length=s.vars.length->s.fn H (ds++gs)={results:=[.lit (.bool true)],args:=ds,vars:=gs})
 (hlaw:∀(W:World) (base:Nat) (args:Array Value) (ds:List (DataW H)) (ps:List MemPlace),(∀(j:Nat) t v,fn.params[j]? =some t->args[j]? =some v->Value.okWide Ck.prog W .any base t v)->
  DataW.TrodAll enc Ck.prog W 0 (λ_=>true) true fn.params.toList args.toList ds ps->(DataW.weightsEach Ck.prog fn.params.toList ds).all (· <=reachBytes)=true->laidMetH Ck.prog laid W->W.ShapedOpen Ck.prog->
  Calls Ck.prog f args W (λe W' =>e=.returned (.bool true)/\Below W.heap.size W W')):
 ReturnsInHanded {} Ck os f .any ((OpenSpec.ofChange s).preRow enc Ck.prog fn conds apart laid) (((OpenSpec.ofChange s).at F).post enc Ck.prog fn apart true false false):=by
 refine returnsInHanded_of_row own started noInit hfn witness ?_;intro W base args ds gs before hval hW hcnd _ hsz hlm hsh _;have hW':=hW;obtain⟨p,q,hA,hV,rfl,hfz,hnd⟩:=hW;have hV1:DataW.TrodVars enc Ck.prog W (λ_=>true) s.vars gs q:=hV
 have hlen:∀{ts:List TypeId} {vs:List Value} {ds:List (DataW H)} {ps:List MemPlace},DataW.TrodAll enc Ck.prog W 0 (λ_=>true) true ts vs ds ps->ds.length=ts.length:=by
  intro ts
  induction ts with
  |nil=>intro vs ds ps h;obtain⟨_,rfl,_⟩:=trodAll_nil h;rfl
  |cons t ts ih=>
   intro vs ds ps h;obtain⟨v,vs',d,ds',p,q,rfl,rfl,rfl,h1,h2⟩:=trodAll_cons h;simp[ih h2]
 have hsz1:=zja (hlen hA) hsz;refine(hlaw W base args ds p hval hA hsz1 hlm hsh).mono λe W' ⟨he,bel⟩=>?_
 subst he;have hsp:=hspec ds gs (by rw[hlen hA];simp) (zmm hV1)
 show ∃v,_/\s.post enc Ck.prog fn apart true false false W args v W';refine⟨_,rfl,ds,gs,p++q,[],p,q,hW',?_,?_,?_,bel.frame _,λh=>by cases h⟩
 ·rw[hsp,hres];exact trodAll_mk1 (shut_bool hrt _)
 ·rw[hsp];exact zi8 hlaid bel hpar hA
 ·rw[hsp];exact Below.trodVars hlaid bel hvars hV1
end
end Go.Qz
