import Derived.Test.YtddfkpkieamlpaaGreatDoorQn1
import Derived.WalkKit
import Derived.ProofKit
import Derived.OpenShut
import Derived.ShutString
import Derived.ChangeOld
import Derived.Below
import Derived.SizedLaws
import Derived.Carry
namespace Go.Qz
open Go.ChangeShapes Go.WideShapes Go.ChangeAt Go.RowKit
def MRel(W:World)(xs:List D)(cs:List Value):Prop:=xs.length=cs.length/\ ∀(m:Nat) (x:D),xs[m]? =some x-> ∃u,cs[m]? =some u/\u.oneCell' =true/\RO (zbc W) x u
structure Reads(P:Program)(W:World)(t:TypeId)(n:Nat){α:Type}(emb:α->List D)(good:α->Prop):Prop where
 size:P.cellsOf t=n
 read:∀{H:Type} (enc:TypeId×Value->H) (fuel:Nat) (cs:List Value) (d:DataW H) (ps:List MemPlace),DataW.trod enc P W 0 (λ_=>true) true fuel t cs=some (d,ps)->(d.weights P t).all (· <=reachBytes)=true->
  ∃a,good a/\(emb a).length=n/\MRel W (emb a) cs
theorem MRel.one{W:World}{x:D}{u:Value}(h1:u.oneCell' =true)(h2:RO (zbc W) x u):MRel W [x] [u]:=
 ⟨rfl,λm y hy=>by
  cases m with
  |zero=>
   simp only[List.getElem?_cons_zero,Option.some.injEq]at hy;subst hy;exact⟨u,rfl,h1,h2⟩
  |succ m=>simp at hy⟩
section
variable{P:Program}{W:World}{t:TypeId}
theorem zrn(ht:P.underlying t=some .string)(hs:P.cellsOf t=1):Reads P W t 1 (λl:List UInt8=>[.str ⟨l.toArray⟩]) (λl=>l.length<=reachBytes) where
 size:=hs
 read:=λenc fuel cs d ps h hw=>by
  cases fuel with
  |zero=>cases h
  |succ fuel=>
   match cs with
   | []=>simp[DataW.trod,ht]at h
   |_::_::_=>simp[DataW.trod,ht]at h
   | [u]=>
     cases u with
     |string s=>
      simp[DataW.trod,ht]at h;obtain⟨hle,rfl,rfl⟩:=h;refine⟨s.data.toList,?_,rfl,MRel.one rfl ?_⟩
      ·simpa [DataW.weights]using hw
      ·have:(⟨s.data.toList.toArray⟩:ByteArray)=s:=by cases s;simp
       rw[this];exact .str s
     |_=>simp[DataW.trod,ht]at h
theorem zmk{k:IntKind}(ht:P.underlying t=some (.int k))(hs:P.cellsOf t=1):Reads P W t 1 (λn:Int=>[.int k n]) (λn=>(Lit.int k n).wf=true) where
 size:=hs
 read:=λenc fuel cs d ps h hw=>by
  cases fuel with
  |zero=>cases h
  |succ fuel=>
   match cs with
   | []=>simp[DataW.trod,ht]at h
   |_::_::_=>simp[DataW.trod,ht]at h
   | [u]=>
     cases u with
     |int k' n=>
      simp[DataW.trod,ht]at h;obtain⟨⟨rfl,hwf⟩,rfl,rfl⟩:=h;exact⟨n,hwf,rfl,MRel.one rfl (.int _ n)⟩
     |_=>simp[DataW.trod,ht]at h
theorem Reads.map{n:Nat}{α β:Type}{emb:α->List D}{good:α->Prop}(h:Reads P W t n emb good)(f:α->β){emb':β->List D}{good':β->Prop}(he:∀a,emb' (f a)=emb a)(hg:∀a,good a->good' (f a)):Reads P W t n emb' good' where
 size:=h.size
 read:=λenc fuel cs d ps hd hw=>by
  obtain⟨a,h1,h2,h3⟩:=h.read enc fuel cs d ps hd hw;exact⟨f a,hg a h1,by rw[he];exact h2,by rw[he];exact h3⟩
theorem zhx{H:Type}{e:TypeId}:∀{l:List (DataW H)},(DataW.weightsAll P e l).all (· <=reachBytes)=true-> ∀d∈l,(d.weights P e).all (· <=reachBytes)=true
 | [],_,d,hd=>by cases hd
 |a::r,h,d,hd=>by
  simp only[DataW.weightsAll,List.all_append,Bool.and_eq_true]at h;rcases List.mem_cons.1 hd with rfl|hd
  ·exact h.1
  ·exact zhx h.2 d hd
theorem zml{e:TypeId}{n:Nat}{α:Type}{emb:α->List D}{good:α->Prop}(ht:P.underlying t=some (.slice e))(hs:P.cellsOf t=1)(h:Reads P W e n emb good)(hn:0<n)(mk:α->D)(hmk:∀a,(mk a).cells=emb a):
 Reads P W t 1 (λxs:List α=>[.sl n (xs.map mk)]) (λxs=>xs.length*P.bytesOf e<=reachBytes/\ ∀x∈xs,good x) where
 size:=hs
 read:=λenc fuel cs d ps hd hw=>by
  cases fuel with
  |zero=>cases hd
  |succ fuel=>
   match cs with
   | []=>simp[DataW.trod,ht]at hd
   |_::_::_=>simp[DataW.trod,ht]at hd
   | [u]=>
     cases u with
     |slice oa len cap=>
      cases oa with
      |none=>
       match len,cap with
       |0,0=>exact⟨[],⟨by simp,λx hx=>by cases hx⟩,rfl,MRel.one rfl .sl0⟩
       |l+1,c=>simp[DataW.trod,ht]at hd
       |0,c+1=>simp[DataW.trod,ht]at hd
      |some a=>
       simp only[DataW.trod,ht]at hd;split at hd
       ·rename_i hle;simp only[Option.bind_eq_some_iff,Option.map_eq_some_iff]at hd;obtain⟨els,hels,rest,hrest,heq⟩:=hd;simp only[Prod.mk.injEq]at heq;obtain⟨rfl,_⟩:=heq;have hlen:els.length=len:=by rw[mapM_some_length hels];simp
        simp only[DataW.weights,ht,List.all_cons,List.all_append,Bool.and_eq_true,decide_eq_true_eq,List.length_map]at hw;obtain⟨hw1,hw2,_⟩:=hw
        have hel:∀i,i<len-> ∃(x:α) (cs:List Value),good x/\(emb x).length=n/\MRel W (emb x) cs/\W.cells? 0 (a.add (i*n)) n=some cs:=by
         intro i hi;have h1:=mapM_some_get hels i i (by simp[hi])
         rw[List.getElem?_eq_getElem (by omega)]at h1
         rw[Option.bind_eq_some_iff]at h1;obtain⟨cs,hcs,htr⟩:=h1;rw[h.size]at hcs;obtain⟨x,g1,g2,g3⟩:=h.read enc fuel cs els[i].1 els[i].2 htr (zhx hw2 _ (List.mem_map.2 ⟨_,List.getElem_mem (by omega),rfl⟩))
         exact⟨x,cs,g1,g2,g3,hcs⟩
        obtain⟨xs,hxl,hxs⟩:∃xs:List α,xs.length=len/\ ∀i x,xs[i]? =some x-> ∃cs:List Value,good x/\(emb x).length=n/\MRel W (emb x) cs/\W.cells? 0 (a.add (i*n)) n=some cs:=by
         have gen:∀k,k<=len-> ∃xs:List α,xs.length=k/\ ∀i x,xs[i]? =some x-> ∃cs:List Value,good x/\(emb x).length=n/\MRel W (emb x) cs/\W.cells? 0 (a.add (i*n)) n=some cs:=by
          intro k
          induction k with
          |zero=>intro _;exact⟨[],rfl,λi x hx=>by simp at hx⟩
          |succ k ih=>
           intro hk;obtain⟨xs,h1,h2⟩:=ih (by omega)
           obtain⟨x,cs,q⟩:=hel k (by omega)
           refine⟨xs++[x],by simp[h1],λi y hy=>?_⟩
           rcases Nat.lt_or_ge i k with hik|hik
           ·rw[List.getElem?_append_left (by omega)]at hy
            exact h2 i y hy
           ·rw[List.getElem?_append_right (by omega)]at hy
            have:i=k:=by
             have:=(List.getElem?_eq_some_iff.1 hy).1;simp at this;omega
            subst this;simp[h1]at hy;subst hy;exact⟨cs,q⟩
         exact gen len (Nat.le_refl _)
        refine⟨xs,⟨?_,λx hx=>?_⟩,rfl,MRel.one rfl ?_⟩
        ·refine Nat.le_trans ?_ hw1;rw[hxl,<-hlen];exact Nat.mul_le_mul_right _ (Nat.le_add_right _ _)
        ·obtain⟨i,hi⟩:=List.mem_iff_getElem?.1 hx;obtain⟨_,g1,_⟩:=hxs i x hi;exact g1
        ·cases xs with
         |nil=>
          simp only[List.length_nil]at hxl;subst hxl;exact .sl0
         |cons x0 xr=>
          generalize hX:x0::xr=xs at *;have hpos:0<len:=by rw[<-hxl,<-hX];simp
          have hspot:a.spot=none:=by
           obtain⟨cs,_,g2,g3,g4⟩:=hxs 0 x0 (by rw[<-hX];rfl)
           have:=(World.cells?_some g4).2.2 0 hn
           have hc0:∃u,cs[0]? =some u:=by
            have:cs.length=n:=(World.cells?_some g4).2.1;exact⟨cs[0]'(by omega),List.getElem?_eq_getElem (by omega)⟩
           obtain⟨u,hu⟩:=hc0;rw[hu]at this;unfold World.cell? at this;split at this
           ·split at this
            ·cases this
            ·rename_i hsp;simpa [Addr.add]using hsp
           ·cases this
          obtain⟨b,off,spot⟩:=a;dsimp only at hspot;subst hspot
          have hadd:∀(o k:Nat),(⟨b,o,none⟩:Addr).add k=⟨b,o+k,none⟩:=λo k=>by
           cases k with
           |zero=>rfl
           |succ k=>simp[Addr.add]
          have hcell:∀i x o y,xs[i]? =some x->(emb x)[o]? =some y-> ∃u,W.cell? ⟨b,off+(i*n+o),none⟩=some u/\u.oneCell' =true/\RO (zbc W) y u:=by
           intro i x o y hx hy;obtain⟨cs,_,g2,g3,g4⟩:=hxs i x hx;obtain⟨u,hu,h1,h2⟩:=g3.2 o y hy;have ho:o<n:=by rw[<-g2];exact(List.getElem?_eq_some_iff.1 hy).1
           have:=(World.cells?_some g4).2.2 o ho;rw[hu]at this;refine⟨u,?_,h1,h2⟩;rw[<-this,hadd,hadd,Nat.add_assoc]
          have hcells:∀x∈xs.map mk,x.cells.length=n:=by
           intro x hx;obtain⟨y,hy,rfl⟩:=List.mem_map.1 hx;obtain⟨i,hi⟩:=List.mem_iff_getElem?.1 hy;obtain⟨_,_,g2,_⟩:=hxs i y hi;rw[hmk];exact g2
          have hall:∀m y,((xs.map mk).flatMap D.cells)[m]? =some y-> ∃u,W.cell? ⟨b,off+m,none⟩=some u/\u.oneCell' =true/\RO (zbc W) y u:=by
           intro m y hy;have hlt:=(List.getElem?_eq_some_iff.1 hy).1;rw[zat hcells,List.length_map]at hlt
           have hi:m/n<xs.length:=by
            rw[Nat.div_lt_iff_lt_mul hn];exact hlt
           have hxi:xs[m/n]? =some xs[m/n]:=List.getElem?_eq_getElem hi;obtain⟨_,_,g2,_⟩:=hxs _ _ hxi;have ho:m % n<(emb xs[m/n]).length:=by rw[g2];exact Nat.mod_lt _ hn
           have hfc:=zee (z:=n) (x:=mk xs[m/n]) (d:=(emb xs[m/n])[m % n]) (xs:=xs.map mk) (i:=m/n) (o:=m % n) hcells (by simp[hi]) (by rw[hmk];exact List.getElem?_eq_getElem ho)
           have hm:m/n*n+m % n=m:=Nat.div_add_mod' m n;rw[hm,hy]at hfc;obtain rfl:=Option.some.inj hfc;obtain⟨u,q1,q2,q3⟩:=hcell (m/n) _ (m % n) _ hxi (List.getElem?_eq_getElem ho);rw[hm]at q1;exact⟨u,q1,q2,q3⟩
          have hnum:(xs.map mk).length=len:=by rw[List.length_map];exact hxl
          have hsome:∀m,m<xs.length*n-> ∃y,((xs.map mk).flatMap D.cells)[m]? =some y:=by
           intro m hm;have:m<((xs.map mk).flatMap D.cells).length:=by rw[zat hcells,List.length_map];exact hm
           exact⟨_,List.getElem?_eq_getElem this⟩
          have:=RO.sl (c:=zbc W) (z:=n) (xs:=xs.map mk) (b:=b) (off:=off) (cap:=cap) (λm=>(W.cell? ⟨b,off+m,none⟩).getD undef) (by omega) hcells (λm hm=>by
           rw[List.length_map]at hm;obtain⟨y,hy⟩:=hsome m hm;obtain⟨u,q1,q2,q3⟩:=hall m y hy;simp only[zbc,q1,Option.getD_some]
           exact⟨trivial,q2⟩) (λm y hy=>by
           obtain⟨u,q1,q2,q3⟩:=hall m y hy;simp only[q1,Option.getD_some]
           exact q3)
          rw[hnum]at this;exact this
       ·cases hd
     |_=>simp[DataW.trod,ht]at hd
structure zvj(P:Program)(W:World)(fs:List Field)(off n:Nat){α:Type}(emb:α->List D)(good:α->Prop):Prop where
 read:∀{H:Type} (enc:TypeId×Value->H) (fuel:Nat) (cs:List Value) (xs:List (DataW H×List MemPlace)),fs.mapM (λf=>DataW.trod enc P W 0 (λ_=>true) true fuel f.type ((cs.drop f.offset).take (P.cellsOf f.type)))=some xs->
  (DataW.weightsEach P (fs.map (·.type)) (xs.map (·.1))).all (· <=reachBytes)=true->cs.length=off+n-> ∃a,good a/\(emb a).length=n/\MRel W (emb a) (cs.drop off)
theorem zjz{off:Nat}:zvj P W [] off 0 (λ_:Unit=>[]) (λ_=>True) where
 read:=λenc fuel cs xs h hw hl=>⟨(),trivial,rfl,by simp;omega,λm x hx=>by simp at hx⟩
theorem zbh{f:Field}{fs:List Field}{off n m:Nat}{α β:Type}{emb:α->List D}{good:α->Prop}{emb':β->List D}{good':β->Prop}(ho:f.offset=off)(h:Reads P W f.type n emb good)(hs:zvj P W fs (off+n) m emb' good'):
 zvj P W (f::fs) off (n+m) (λp:α×β=>emb p.1++emb' p.2) (λp=>good p.1/\good' p.2) where
 read:=λenc fuel cs xs hx hw hl=>by
  rw[List.mapM_cons]at hx
  cases h1:DataW.trod enc P W 0 (λ_=>true) true fuel f.type ((cs.drop f.offset).take (P.cellsOf f.type))with
  |none=>simp[h1]at hx
  |some y=>
   cases h2:fs.mapM (λf=>DataW.trod enc P W 0 (λ_=>true) true fuel f.type ((cs.drop f.offset).take (P.cellsOf f.type)))with
   |none=>simp[h1,h2]at hx
   |some ys=>
    simp[h1,h2]at hx;subst hx;simp only[List.map_cons,DataW.weightsEach,List.all_append,Bool.and_eq_true]at hw;rw[h.size,ho]at h1;obtain⟨a,a1,a2,a3⟩:=h.read enc fuel _ y.1 y.2 h1 hw.1;obtain⟨b,b1,b2,b3⟩:=hs.read enc fuel cs ys h2 hw.2 (by omega)
    refine⟨(a,b),⟨a1,b1⟩,by simp[a2,b2],?_,λk x hk=>?_⟩
    ·simp[a2,b2];omega
    ·dsimp only at hk;rcases Nat.lt_or_ge k n with hlt|hge
     ·rw[List.getElem?_append_left (by omega)]at hk
      obtain⟨u,hu,q1,q2⟩:=a3.2 k x hk;rw[List.getElem?_take,if_pos hlt]at hu;exact⟨u,hu,q1,q2⟩
     ·rw[List.getElem?_append_right (by omega),a2]at hk
      obtain⟨u,hu,q1,q2⟩:=b3.2 _ x hk;rw[List.getElem?_drop]at hu ⊢;refine⟨u,?_,q1,q2⟩;rw[<-hu];congr 1;omega
theorem zgw{fs:Array Field}{n:Nat}{α:Type}{emb:α->List D}{good:α->Prop}(ht:P.underlying t=some (.struct fs))(hs:P.cellsOf t=n)(h:zvj P W fs.toList 0 n emb good):Reads P W t n emb good where
 size:=hs
 read:=λenc fuel cs d ps hd hw=>by
  cases fuel with
  |zero=>cases hd
  |succ fuel=>
   have hd':(if cs.length=P.cellsOf t then(fs.toList.mapM λf=>DataW.trod enc P W 0 (λ_=>true) true fuel f.type ((cs.drop f.offset).take (P.cellsOf f.type))).map λxs=>(DataW.agg (xs.map (·.1)),xs.flatMap (·.2))else none)=some (d,ps):=by
    rw[<-hd];simp only[DataW.trod,ht]
   split at hd'
   ·rename_i hl;rw[Option.map_eq_some_iff]at hd';obtain⟨xs,hx,heq⟩:=hd';simp only[Prod.mk.injEq]at heq;obtain⟨rfl,_⟩:=heq;simp only[DataW.weights,ht]at hw;obtain⟨a,a1,a2,a3⟩:=h.read enc fuel cs xs hx hw (by omega)
    exact⟨a,a1,a2,by simpa using a3⟩
   ·cases hd'
end
end Go.Qz
namespace Go.Qz
open Go.ChangeShapes Go.WideShapes Go.ChangeAt Go.RowKit
section
variable{P:Program}{W:World}
theorem z56{H:Type}{enc:TypeId×Value->H}{t:TypeId}{n:Nat}{α:Type}{emb:α->List D}{good:α->Prop}{cs:Array Value}{d:DataW H}{ps:List MemPlace}(h:Reads P W t n emb good)
 (hd:DataW.Trod enc P W 0 (λ_=>true) true t (.agg cs) d ps) (hw:(d.weights P t).all (· <=reachBytes)=true):∃a,good a/\RO (zbc W) (.agg (emb a)) (.agg cs):=by
 obtain⟨fuel,hf⟩:=hd;obtain⟨a,h1,_,h3⟩:=h.read enc fuel _ d ps hf hw;refine⟨a,h1,?_⟩;have hsz:cs.size=(emb a).length:=by have:=h3.1;simpa [Value.cells]using this.symm
 have hg:∀(m:Nat) (x:D),(emb a)[m]? =some x->(cs.getD m undef).oneCell' =true/\RO (zbc W) x (cs.getD m undef):=by
  intro m x hx;obtain⟨u,hu,q1,q2⟩:=h3.2 m x hx
  have:cs.getD m undef=u:=by
   have hu':cs[m]? =some u:=by simpa [Value.cells]using hu
   rw[Array.getD_eq_getD_getElem?,hu'];rfl
  rw[this];exact⟨q1,q2⟩
 exact .agg hsz (λm hm=>(hg m _ (List.getElem?_eq_getElem hm)).1) (λm x hx=>(hg m x hx).2)
def g0(W:World):G:={c:=zbc W,S:=λ_ _=>False,β:=λ_=>0,γ:=λ_=>undef}
theorem z1h[B:Base](hW:B.W0=W){vs:Array Value}{ds:List D}(hl:vs.size=ds.length)(h:∀(k:Nat) (d:D),ds[k]? =some d->RO (zbc W) d (vs.getD k undef)):Sim (g0 W) (zak ds.length (ds.map .ro) []) vs W where
 size:=by show ds.length<=vs.size;omega
 tv:=λt=>by
  show RepV _ _ _ _ t (match(ds.map A.ro)[t]? with|some a=>.one a|none=>.undef) _
  rw[List.getElem?_map]
  cases hq:ds[t]? with
  |some d=>exact h t d hq
  |none=>
   have:vs.size<=t:=by rw[hl];exact List.getElem?_eq_none_iff.1 hq
   show vs.getD t undef=undef;rw[Array.getD_eq_getD_getElem?,Array.getElem?_eq_none this];rfl
 bx:=λb cs hcs=>by cases hcs
 binj:=λb b' hb=>by cases hb
 sdis:=λs s' x hx=>hx.elim
 sbox:=λs b x hx=>hx.elim
 slt:=λs x hx=>hx.elim
 cmem:=λb o v hv=>hv
 base:=λb o v hv=>by rw[hW]at hv;exact hv
 fix:=λx v _=>by rw[hW]
 cdis:=λb o v _=>⟨λs hs=>hs,λid hid=>by cases hid⟩
theorem z1i{call:zai}(hcs:@zav ⟨W⟩ P call){f:FuncId}{vs:Array Value}{ds:List D}(hl:vs.size=ds.length)(h:∀(k:Nat) (d:D),ds[k]? =some d->RO (zbc W) d (vs.getD k undef))(he:call f (ds.map .ro) []=some (.one (.ro (.bool true)),[])):
 Calls P f vs W (λe W' =>e=.returned (.bool true)/\Below W.heap.size W W'):=by
 obtain⟨_,hc⟩:=hcs f _ _ _ _ he;have hs:=@z1h W ⟨W⟩ rfl vs ds hl h
 letI:Base:=⟨W⟩
 refine(hc (g0 W) W vs (by simpa using hl) (by rw[List.length_map];exact hs)).mono ?_
 rintro e W' ⟨v,rfl,g',Y,hp⟩;have hv:v=.bool true:=RO.bool_inv hp.hold;subst hv;refine⟨rfl,hp.next.os,hp.next.tape,hp.next.output,hp.next.size,λk hk=>hp.next.old k hk ?_⟩
 rintro(⟨s,hs⟩|⟨b,hb,_⟩)
 ·exact hs
 ·cases hb
theorem zi8{H:Type}{enc:TypeId×Value->H}(hl:laidOutB P=true){W':World}(hb:Below W.heap.size W W'):∀{ts:List TypeId} {vs:List Value} {ds:List (DataW H)} {ps:List MemPlace},(∀t∈ts,P.readableRec t=true/\t<P.types.size)->
 DataW.TrodAll enc P W 0 (λ_=>true) true ts vs ds ps->DataW.TrodAll enc P W' 0 (λb=>decide (b<W.heap.size)) true ts vs ds ps
 | [],_,_,_,_,h=>by
   obtain⟨rfl,rfl,rfl⟩:=trodAll_nil h;exact trodAll_mk0
 |t::ts,vs,ds,ps,ht,h=>by
  obtain⟨v,vs',d,ds',p,q,rfl,rfl,rfl,h1,h2⟩:=trodAll_cons h
  have hlt:∀x∈p,x.block<W.heap.size:=by
   obtain⟨m,hm⟩:=h1;exact DataW.trod_lt m _ _ _ hm
  obtain⟨k1,k2⟩:=ht t (by simp)
  exact trodAll_cons_mk (Below.trod hl k1 k2 h1 hb hlt) (zi8 hl hb (λt' h' =>ht t' (by simp[h'])) h2)
end
end Go.Qz
