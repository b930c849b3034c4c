import Derived.Test.YtcadiohekccmiaaGreatDoorQm1
import Derived.WalkKit
import Derived.ProofKit
import Derived.OpenShut
import Derived.ShutString
import Derived.ChangeOld
import Derived.Below
import Derived.SizedLaws
import Derived.Carry
namespace Go.Qz
open Go.ChangeShapes Go.WideShapes Go.ChangeAt Go.RowKit
def MRel(W:World)(xs:List D)(cs:List Value):Prop:=xs.length=cs.length/\ ∀(m:Nat) (x:D),xs[m]? =some x-> ∃u,cs[m]? =some u/\u.oneCell' =true/\RO (zb2 W) x u
structure yb6(P:Program)(W:World)(t:TypeId)(n:Nat){α:Type}(emb:α->List D)(good:α->Prop):Prop where
 size:P.cellsOf t=n
 read:∀{H:Type} (enc:TypeId×Value->H) (fuel:Nat) (cs:List Value) (d:DataW H) (ps:List MemPlace),DataW.trod enc P W 0 (λ_=>true) true fuel t cs=some (d,ps)->(d.weights P t).all (· <=reachBytes)=true->
  ∃a,good a/\(emb a).length=n/\MRel W (emb a) cs
theorem MRel.one{W:World}{x:D}{u:Value}(h1:u.oneCell' =true)(h2:RO (zb2 W) x u):MRel W [x] [u]:=
 ⟨rfl,λm y hy=>by
  cases m with
  |zero=>
   simp only[List.getElem?_cons_zero,Option.some.injEq]at hy;subst hy;exact⟨u,rfl,h1,h2⟩
  |succ m=>simp at hy⟩
section
variable{P:Program}{W:World}{t:TypeId}
theorem zt4(ht:P.underlying t=some .string)(hs:P.cellsOf t=1):yb6 P W t 1 (λl:List UInt8=>[.str ⟨l.toArray⟩]) (λl=>l.length<=reachBytes) where
 size:=hs
 read:=λenc fuel cs d ps h hw=>by
  cases fuel with
  |zero=>cases h
  |succ fuel=>
   match cs with
   | []=>simp[DataW.trod,ht]at h
   |_::_::_=>simp[DataW.trod,ht]at h
   | [u]=>
     cases u with
     |string s=>
      simp[DataW.trod,ht]at h;obtain⟨hle,rfl,rfl⟩:=h;refine⟨s.data.toList,?_,rfl,MRel.one rfl ?_⟩
      ·simpa [DataW.weights]using hw
      ·have:(⟨s.data.toList.toArray⟩:ByteArray)=s:=by cases s;simp
       rw[this];exact .str s
     |_=>simp[DataW.trod,ht]at h
structure ym5(P:Program)(W:World)(fs:List Field)(off n:Nat){α:Type}(emb:α->List D)(good:α->Prop):Prop where
 read:∀{H:Type} (enc:TypeId×Value->H) (fuel:Nat) (cs:List Value) (xs:List (DataW H×List MemPlace)),fs.mapM (λf=>DataW.trod enc P W 0 (λ_=>true) true fuel f.type ((cs.drop f.offset).take (P.cellsOf f.type)))=some xs->
  (DataW.weightsEach P (fs.map (·.type)) (xs.map (·.1))).all (· <=reachBytes)=true->cs.length=off+n-> ∃a,good a/\(emb a).length=n/\MRel W (emb a) (cs.drop off)
end
end Go.Qz
namespace Go.Qz
open Go.ChangeShapes Go.WideShapes Go.ChangeAt Go.RowKit
section
variable{P:Program}{W:World}
theorem yb7{H:Type}{enc:TypeId×Value->H}{t:TypeId}{α:Type}{mk:α->D}{good:α->Prop}{v:Value}{d:DataW H}{ps:List MemPlace}(h:yb6 P W t 1 (λa=>[mk a]) good)(hv:v.oneCell' =true)
 (hd:DataW.Trod enc P W 0 (λ_=>true) true t v d ps) (hw:(d.weights P t).all (· <=reachBytes)=true):∃a,good a/\RO (zb2 W) (mk a) v:=by
 obtain⟨fuel,hf⟩:=hd;obtain⟨a,h1,_,h3⟩:=h.read enc fuel _ d ps hf hw;refine⟨a,h1,?_⟩;obtain⟨u,hu,_,hr⟩:=h3.2 0 (mk a) rfl;have:v.cells.toList[0]? =some v:=by cases v<;>first|rfl|simp[Value.oneCell']at hv
 rw[this]at hu;obtain rfl:=Option.some.inj hu;exact hr
def g0(W:World):G:={c:=zb2 W,S:=λ_ _=>False,β:=λ_=>0,γ:=λ_=>undef}
theorem z49[B:Base](hW:B.W0=W){vs:Array Value}{ds:List D}(hl:vs.size=ds.length)(h:∀(k:Nat) (d:D),ds[k]? =some d->RO (zb2 W) d (vs.getD k undef)):Sim (g0 W) (zaj ds.length (ds.map .ro) []) vs W where
 size:=by show ds.length<=vs.size;omega
 tv:=λt=>by
  show RepV _ _ _ _ t (match(ds.map A.ro)[t]? with|some a=>.one a|none=>.undef) _
  rw[List.getElem?_map]
  cases hq:ds[t]? with
  |some d=>exact h t d hq
  |none=>
   have:vs.size<=t:=by rw[hl];exact List.getElem?_eq_none_iff.1 hq
   show vs.getD t undef=undef;rw[Array.getD_eq_getD_getElem?,Array.getElem?_eq_none this];rfl
 bx:=λb cs hcs=>by cases hcs
 binj:=λb b' hb=>by cases hb
 sdis:=λs s' x hx=>hx.elim
 sbox:=λs b x hx=>hx.elim
 slt:=λs x hx=>hx.elim
 cmem:=λb o v hv=>hv
 base:=λb o v hv=>by rw[hW]at hv;exact hv
 fix:=λx v _=>by rw[hW]
 cdis:=λb o v _=>⟨λs hs=>hs,λid hid=>by cases hid⟩
theorem z5a{call:zal}(hcs:@zao ⟨W⟩ P call){f:FuncId}{vs:Array Value}{ds:List D}(hl:vs.size=ds.length)(h:∀(k:Nat) (d:D),ds[k]? =some d->RO (zb2 W) d (vs.getD k undef))(he:call f (ds.map .ro) []=some (.one (.ro (.bool true)),[])):
 Calls P f vs W (λe W' =>e=.returned (.bool true)/\Below W.heap.size W W'):=by
 obtain⟨_,hc⟩:=hcs f _ _ _ _ he;have hs:=@z49 W ⟨W⟩ rfl vs ds hl h
 letI:Base:=⟨W⟩
 refine(hc (g0 W) W vs (by simpa using hl) (by rw[List.length_map];exact hs)).mono ?_
 rintro e W' ⟨v,rfl,g',Y,hp⟩;have hv:v=.bool true:=RO.bool_inv hp.hold;subst hv;refine⟨rfl,hp.next.os,hp.next.tape,hp.next.output,hp.next.size,λk hk=>hp.next.old k hk ?_⟩
 rintro(⟨s,hs⟩|⟨b,hb,_⟩)
 ·exact hs
 ·cases hb
theorem zkq{H:Type}{enc:TypeId×Value->H}(hl:laidOutB P=true){W':World}(hb:Below W.heap.size W W'):∀{ts:List TypeId} {vs:List Value} {ds:List (DataW H)} {ps:List MemPlace},(∀t∈ts,P.readableRec t=true/\t<P.types.size)->
 DataW.TrodAll enc P W 0 (λ_=>true) true ts vs ds ps->DataW.TrodAll enc P W' 0 (λb=>decide (b<W.heap.size)) true ts vs ds ps
 | [],_,_,_,_,h=>by
   obtain⟨rfl,rfl,rfl⟩:=trodAll_nil h;exact trodAll_mk0
 |t::ts,vs,ds,ps,ht,h=>by
  obtain⟨v,vs',d,ds',p,q,rfl,rfl,rfl,h1,h2⟩:=trodAll_cons h
  have hlt:∀x∈p,x.block<W.heap.size:=by
   obtain⟨m,hm⟩:=h1;exact DataW.trod_lt m _ _ _ hm
  obtain⟨k1,k2⟩:=ht t (by simp)
  exact trodAll_cons_mk (Below.trod hl k1 k2 h1 hb hlt) (zkq hl hb (λt' h' =>ht t' (by simp[h'])) h2)
end
end Go.Qz
