import Derived.Test.YtcadiohekccmiaaGreatDoorQt0
import Derived.Deep.DeepHandedRow
import Derived.Deep.DeepWitnessRowRef
namespace Go.Qz
open Go.ChangeShapes Go.WideShapes Go.ChangeAt Go.RowKit
section
variable{P:Program}{W:World}
theorem z8m{Ck:Checked}{os:Os}{H:Type}{enc:TypeId×Value->H}{f:FuncId}{fn:Func}{s:ChangeSpec}{F:Stop.Interp}{conds:List PathCond}{apart:Bool}{laid:List (String×DataW Unit)}(own:ownKnob Ck.prog.godebug=none)(started:os.Started)(noInit:Ck.prog.inits.idxOf? f=none)(hfn:Ck.prog.funcs[f]? =some fn)
 (witness:∃(w:World) (tape:Tape) (i:Input),w.os=os/\(w.forCall tape i).Shaped Ck.prog/\i.vars=[]/\Input.okWide Ck.prog (w.forCall tape i) .any w.heap.size f i/\
  (OpenSpec.ofChange s).preRow enc Ck.prog fn conds apart laid (w.forCall tape i).memory i.args/\Assume.holds {} Ck.prog (lone (Frame.enter Ck.prog f i.args .normal) [] (w.forCall tape i)))
 (hvars:s.vars=[]) {rt:TypeId} (hres:fn.resultTypes= #[rt]) (hrt:Ck.prog.underlying rt=some .bool) (hlaid:laidOutB Ck.prog=true) (hpar:∀t∈fn.params.toList,Ck.prog.readableRec t=true/\t<Ck.prog.types.size)
 (hspec:∀ds:List (DataW H),ds.length=fn.params.size->s.fn H ds={results:=[.lit (.bool true)],args:=ds})
 (hlaw:∀(W:World) (base:Nat) (args:Array Value) (ds:List (DataW H)) (ps:List MemPlace),(∀(j:Nat) t v,fn.params[j]? =some t->args[j]? =some v->Value.okWide Ck.prog W .any base t v)->
  DataW.TrodAll enc Ck.prog W 0 (λ_=>true) true fn.params.toList args.toList ds ps->(DataW.weightsEach Ck.prog fn.params.toList ds).all (· <=reachBytes)=true->laidMetH Ck.prog laid W->W.ShapedOpen Ck.prog->
  Calls Ck.prog f args W (λe W' =>e=.returned (.bool true)/\Below W.heap.size W W')):
 ReturnsInHanded {} Ck os f .any ((OpenSpec.ofChange s).preRow enc Ck.prog fn conds apart laid) (((OpenSpec.ofChange s).at F).post enc Ck.prog fn apart true false false):=by
 refine returnsInHanded_of_row own started noInit hfn witness ?_;intro W base args ds gs before hval hW hcnd _ hsz hlm hsh _;have hW':=hW;obtain⟨p,q,hA,hV,rfl,hfz,hnd⟩:=hW;have hV1:DataW.TrodVars enc Ck.prog W (λ_=>true) s.vars gs q:=hV
 rw[hvars]at hV1;obtain⟨rfl,rfl⟩:=trodVars_none hV1
 have hvt:(OpenSpec.ofChange s).bare.plain.varTypes Ck.prog=[]:=by
  show s.plain.varTypes Ck.prog=[];simp[DataSpec.varTypes,ChangeSpec.plain,hvars]
 rw[hvt,List.append_nil,List.append_nil]at hsz;refine(hlaw W base args ds p hval hA hsz hlm hsh).mono λe W' ⟨he,bel⟩=>?_
 subst he
 have hlen:∀{ts:List TypeId} {vs:List Value} {ds:List (DataW H)} {ps:List MemPlace},DataW.TrodAll enc Ck.prog W 0 (λ_=>true) true ts vs ds ps->ds.length=ts.length:=by
  intro ts
  induction ts with
  |nil=>intro vs ds ps h;obtain⟨_,rfl,_⟩:=trodAll_nil h;rfl
  |cons t ts ih=>
   intro vs ds ps h;obtain⟨v,vs',d,ds',p,q,rfl,rfl,rfl,h1,h2⟩:=trodAll_cons h;simp[ih h2]
 have hsp:=hspec (ds++[]) (by rw[List.append_nil,hlen hA];simp)
 show ∃v,_/\s.post enc Ck.prog fn apart true false false W args v W';refine⟨_,rfl,ds,[],p++[],[],p,[],hW',?_,?_,?_,bel.frame _,λh=>by cases h⟩
 ·rw[hsp,hres];exact trodAll_mk1 (shut_bool hrt _)
 ·rw[hsp,List.append_nil];exact zkq hlaid bel hpar hA
 ·rw[hvars,hsp];rfl
end
end Go.Qz
