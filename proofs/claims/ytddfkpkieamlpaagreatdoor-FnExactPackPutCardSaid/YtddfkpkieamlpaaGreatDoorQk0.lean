import Derived.Test.YtddfkpkieamlpaaGreatDoorQj0
import Derived.Great.BuildSlice
namespace Go.Qz
theorem zl0{g:G}{e:Env}{tm:Array Value}{w:World}{Y:Nat->Blk}{V:V}{v:Value}{d:D}(hi:V.inner=some d)(hh:HoldV g e tm w Y V v)(hf:Free g e w Y):OwnC w d v (λx=> ∃k,Y k x)/\FreeB g e w (λx=> ∃k,Y k x):=
 ⟨zjt hi hh hf,λs x ⟨k,hx⟩=>hf.S k s x hx,λx b ⟨k,hx⟩=>hf.box k x b hx,λx ⟨k,hx⟩=>hf.lt k x hx,λx o v ⟨k,hx⟩=>hf.c k x o v hx⟩
theorem zl1[Base]{P:Program}{a:Act}{w:World}{ty:TypeId}:∀{xs:List Operand} {ds:List D} {g1:G} {e1 e2:Env},Sim g1 e1 a.tmps w->zce P ty e1 xs=some (ds,e2)->
 ∃g2 U,Sim g2 e2 a.tmps w/\Next g1 e1 w g2 e2 w/\ds.length=xs.length/\(∀k d x,ds[k]? =some d->xs[k]? =some x->OwnC w d (a.eval x) (U k))/\Free g2 e2 w U/\ ∀k x,U k x->Mine g1 e1 x
 | [],ds,g1,e1,e2,h,hp=>by
   simp only[zce,Option.some.injEq,Prod.mk.injEq]at hp;obtain⟨rfl,rfl⟩:=hp;exact⟨g1,λ_ _=>False,h,Next.refl _ _ _,rfl,λk d x hd=>by simp at hd,zaw _ _ _,λ_ _ hx=>hx.elim⟩
 |x::r,ds,g1,e1,e2,h,hp=>by
  simp only[zce]at hp;split at hp
  ·rename_i V e' ht;split at hp
   ·rename_i d hd;split at hp
    ·rename_i ds' e'' hr;simp only[Option.some.injEq,Prod.mk.injEq]at hp;obtain⟨rfl,rfl⟩:=hp;obtain⟨g',Y,h1,h2,h3,h4,h5⟩:=zb3 h ht;obtain⟨ho,hfB⟩:=zl0 hd h2 h3;obtain⟨g2,U,k1,k2,k3,k4,k5,k6⟩:=zl1 h1 hr;have hfY:=(zlz (U:=λk x=>k=0/\ ∃k,Y k x) hfB (λ_ _ hx=>hx.2) (λm m' x hx hx' =>by rw[hx.1,hx'.1])).next k2
     have hlt:∀k x,Y k x->Mine g1 e1 x:=λk x hx=>(h5 k x hx).elim id (λhle=>by have:=h3.lt k x hx;omega)
     have hnm:∀k x,Y k x-> ¬Mine g' e' x:=by
      rintro k x hx (⟨s,hs⟩|⟨b,hb,hlt,e1⟩)
      ·exact h3.S k s x hx hs
      ·exact h3.box k x b hx hb hlt e1
     refine⟨g2,λk=>match k with|0=> λx=> ∃k,Y k x|k+1=>U k,k1,h4.trans k2,by simp[k3],λk d' x' hd' hx' =>?_,⟨λk k' x hx hx' =>?_,λk s x hx hs=>?_,λk x b hx hb hlt=>?_,λk x hx=>?_,λk x o v hx hv=>?_⟩,λk x hx=>?_⟩
     ·cases k with
      |zero=>
       simp only[List.getElem?_cons_zero,Option.some.injEq]at hd' hx';subst hd' hx';exact ho
      |succ k=>exact k4 k d' x' (by simpa using hd') (by simpa using hx')
     ·cases k with
      |zero=>
       cases k' with
       |zero=>rfl
       |succ k' =>obtain⟨j,hj⟩:=hx;exact(hnm j x hj (k6 k' x hx')).elim
      |succ k=>
       cases k' with
       |zero=>obtain⟨j,hj⟩:=hx';exact(hnm j x hj (k6 k x hx)).elim
       |succ k' =>rw[k5.one k k' x hx hx']
     ·cases k with
      |zero=>exact hfY.S 0 s x ⟨rfl,hx⟩ hs
      |succ k=>exact k5.S k s x hx hs
     ·cases k with
      |zero=>exact hfY.box 0 x b ⟨rfl,hx⟩ hb hlt
      |succ k=>exact k5.box k x b hx hb hlt
     ·cases k with
      |zero=>exact hfY.lt 0 x ⟨rfl,hx⟩
      |succ k=>exact k5.lt k x hx
     ·cases k with
      |zero=>exact hfY.c 0 x o v ⟨rfl,hx⟩ hv
      |succ k=>exact k5.c k x o v hx hv
     ·cases k with
      |zero=>obtain⟨j,hj⟩:=hx;exact hlt j x hj
      |succ k=>exact(h4.mine x (k6 k x hx)).elim id (λhle=>by have:=k5.lt k x hx;omega)
    ·cases hp
   ·cases hp
  ·cases hp
theorem zl2(f:Operand->Value):∀{l:List (Nat×Operand)} {i:Nat},zjh i l=true->l.map (λx=>(x.1,f x.2))=((l.map λx=>f x.2).zipIdx i).map λx=>(x.2,x.1)
 | [],_,_=>rfl
 |(j,x)::r,i,h=>by
  simp only[zjh,Bool.and_eq_true,beq_iff_eq]at h;obtain⟨rfl,h⟩:=h;simp only[List.map_cons,List.zipIdx_cons,zl2 f h]
theorem zi2{z:Nat}(hz:0<z):∀(xs:List D),(∀x∈xs,x.cells.length=z)-> ∀m,(xs.flatMap D.cells)[m]? =(xs[m/z]?).bind (λx=>x.cells[m % z]?)
 | [],_,k=>by simp
 |v::vs,hv,k=>by
  have hvs:v.cells.length=z:=hv v List.mem_cons_self;rw[List.flatMap_cons];by_cases hk:k<z
  ·rw[List.getElem?_append_left (by omega),Nat.div_eq_of_lt hk,Nat.mod_eq_of_lt hk]
   simp
  ·have h1:k/z=(k-z)/z+1:=by
    have:=Nat.sub_add_cancel (Nat.le_of_not_lt hk)
    conv=>lhs;rw[<-this]
    rw[Nat.add_div_right _ hz]
   have h2:k % z=(k-z) % z:=by
    have:=Nat.sub_add_cancel (Nat.le_of_not_lt hk)
    conv=>lhs;rw[<-this]
    rw[Nat.add_mod_right]
   rw[List.getElem?_append_right (by omega),hvs,zi2 hz vs (λu hu=>hv u (List.mem_cons_of_mem _ hu)) (k-z),h1,h2,List.getElem?_cons_succ]
theorem zm5[Base]{P:Program}{io:FuncId->List Nat}{call:zai}{g:G}{e e':Env}{a:Act}{w:World}(h:Sim g e a.tmps w){o:Oper}{t:TypeId}{n:Nat}{parts:Array (Nat×Operand)}(ho:o.op=.buildSlice t n parts)(he:evOp P io call e o=some e'):Runs P g e a w o e':=by
 simp only[evOp,ho]at he;split at he
 ·rename_i el hu;split at he
  ·rename_i z hel;split at he
   ·rename_i hc;simp only[Bool.and_eq_true,decide_eq_true_eq]at hc;obtain⟨⟨hord,hpn⟩,hsm⟩:=hc;split at he
    ·rename_i ds e1 hds;split at he
     ·rename_i hall;have hdz:∀d∈ds,d.cells.length=z:=λd hd=>by simpa using zeh hall d hd
      obtain⟨i,dd,zv,hi,_,hzv,hsize,hpos,hby,hzs⟩:=zc9 hel;obtain⟨g2,U,k1,k2,k3,k4,k5,k6⟩:=zl1 h hds;have hplen:parts.toList.length=n:=by rw[Array.length_toList];exact hpn
      have hdlen:ds.length=n:=by rw[k3,List.length_map];exact hplen
      let vs:List Value:=parts.toList.map λx=>a.eval x.2
      have hvl:vs.length=n:=by simp only[vs,List.length_map];exact hplen
      have hvget:∀(j:Nat) (v:Value),vs[j]? =some v-> ∃x,(parts.toList.map (·.2))[j]? =some x/\v=a.eval x:=by
       intro j v hj;simp only[vs,List.getElem?_map]at hj ⊢
       cases hq:parts.toList[j]? with
       |none=>rw[hq]at hj;cases hj
       |some p=>
        rw[hq]at hj;exact⟨p.2,rfl,(Option.some.inj hj).symm⟩
      have hdv:∀(j:Nat) (v:Value),vs[j]? =some v-> ∃d,ds[j]? =some d/\OwnC w d v (U j)/\d.cells.length=z:=by
       intro j v hj;obtain⟨x,hx,rfl⟩:=hvget j v hj;have hlt:j<ds.length:=by rw[k3];exact(List.getElem?_eq_some_iff.1 hx).1
       exact⟨ds[j],List.getElem?_eq_getElem hlt,k4 j _ x (List.getElem?_eq_getElem hlt) hx,hdz _ (List.getElem_mem _)⟩
      have hvz:∀v∈vs,v.cells.size=z:=by
       intro v hv;obtain⟨j,hj⟩:=List.mem_iff_getElem?.1 hv;obtain⟨d,_,ho,hd⟩:=hdv j v hj;obtain⟨_,p1,_⟩:=ho.parts;rw[p1,hd]
      have hparts:(parts.map λ(i,x)=>(i,a.eval x)).toList=(vs.zipIdx 0).map λx=>(x.2,x.1):=by
       rw[Array.toList_map];exact zl2 a.eval hord
      have hcells:∃cells:Array Value,cells.size=n*z/\(∀m:Nat,cells[m]? =(vs[m/z]?).bind λv=>v.cells[m % z]?)/\(Instr.buildSlice t n (parts.map λ(i,x)=>(i,a.eval x))).run P w=.ok (.slice (some ⟨w.heap.size,0,none⟩) n n) (w.alloc (.cells cells el)):=by
       by_cases hn:n=0
       ·have hvs0:vs=[]:=List.eq_nil_of_length_eq_zero (by omega)
        have hp0:parts= #[]:=by apply Array.ext';exact List.eq_nil_of_length_eq_zero (by omega)
        refine⟨#[],by simp[hn],λm=>by rw[hvs0];simp,?_⟩
        rw[hn,hp0];simp[Instr.buildSlice,run_underlying hu,sizeOf,typeInfo,hi,Instr.fill,newRow];congr 2;apply Array.ext';rw[Array.toList_map,Array.toList_range];rfl
       ·have hfw:=Go.Great.fill_whole hpos vs ((Array.range (n*i.size)).map (zv.cells[· % zv.cells.size]!)) hvz (by simp[hvl,hsize])
        have hnz:n*i.size≠0:=by rw[hsize];exact Nat.mul_ne_zero hn (by omega)
        have hr:=run_buildSlice (P:=P) w t el n (parts.map λ(i,x)=>(i,a.eval x)) _ i zv hu hi hzv (by rw[hsize];omega) hnz (by rw[hparts,<-hfw,hsize])
        refine⟨_,?_,λm=>?_,hr⟩
        ·have:∀(l:List Value),(∀v∈l,v.cells.size=z)->(l.flatMap λv=>v.cells.toList).length=l.length*z:=by
          intro l
          induction l with
          |nil=>intro _;simp
          |cons v r ih=>
           intro hl;rw[List.flatMap_cons,List.length_append,ih (λv hv=>hl v (List.mem_cons_of_mem _ hv)),show v.cells.toList.length=v.cells.size from Array.length_toList,hl v List.mem_cons_self,List.length_cons,Nat.add_mul]
           omega
         rw[List.size_toArray,this vs hvz,hvl]
        ·rw[List.getElem?_toArray];exact Go.Great.flat_get hpos vs hvz m
      obtain⟨cells,hcs,hcg,hr⟩:=hcells
      have hU:∀j:Nat,∃Up:Nat->Blk,∀(v:Value) (d:D),vs[j]? =some v->ds[j]? =some d->(∀m x,Up m x->U j x)/\(∀m m' x,Up m x->Up m' x->m=m')/\(∀m,m<z->(v.cells.getD m undef).oneCell' =true)/\ ∀m dm,d.cells[m]? =some dm->OwnC w dm (v.cells.getD m undef) (Up m):=by
       intro j
       cases hj:vs[j]? with
       |none=>exact⟨λ_ _=>False,λv d hv=>by cases hv⟩
       |some v=>
        obtain⟨d,hd,ho,hdl⟩:=hdv j v hj;obtain⟨Up,_,p2,p3,p4,p5⟩:=ho.parts;refine⟨Up,λv' d' hv' hd' =>?_⟩
        rw[hd]at hd';cases hv';cases hd';exact⟨p2,p3,λm hm=>p4 m (by omega),p5⟩
      obtain⟨Up,hUp⟩:=Classical.axiomOfChoice hU
      have hgetv:∀m:Nat,m<n*z-> ∃(v:Value) (d:D),vs[m/z]? =some v/\ds[m/z]? =some d/\m % z<z/\cells.getD m undef=v.cells.getD (m % z) undef:=by
       intro m hm;have hlt:m/z<n:=Nat.div_lt_of_lt_mul (by rw[Nat.mul_comm];exact hm)
       have hmz:m % z<z:=Nat.mod_lt _ hpos;refine⟨vs[m/z]'(by omega),ds[m/z]'(by omega),List.getElem?_eq_getElem _,List.getElem?_eq_getElem _,hmz,?_⟩
       rw[Array.getD_eq_getD_getElem?,hcg m,List.getElem?_eq_getElem (by omega)]
       rw[Array.getD_eq_getD_getElem?];rfl
      have hfree:Free g2 e1 w (λm x=>m<n*z/\Up (m/z) (m % z) x):=by
       have hin:∀m x,m<n*z/\Up (m/z) (m % z) x->U (m/z) x:=by
        rintro m x ⟨hm,hx⟩;obtain⟨v,d,q1,q2,_⟩:=hgetv m hm;exact(hUp _ v d q1 q2).1 _ x hx
       refine⟨λk k' x hx hx' =>?_,λk s x hx=>k5.S _ s x (hin k x hx),λk x b hx=>k5.box _ x b (hin k x hx),λk x hx=>k5.lt _ x (hin k x hx),λk x o v hx=>k5.c _ x o v (hin k x hx)⟩
       have e1:=k5.one _ _ x (hin k x hx) (hin k' x hx');obtain⟨v,d,q1,q2,_⟩:=hgetv k hx.1;have hx2:=hx'.2;rw[<-e1]at hx2;have e2:=(hUp _ v d q1 q2).2.1 _ _ x hx.2 hx2;have d1:=Nat.div_add_mod k z;have d2:=Nat.div_add_mod k' z;rw[<-e1,<-e2]at d2;omega
      have hh:=zh9 (z:=z) (cap:=n) (xs:=ds) (cur:=cells) (el:=el) (w1:=w) k1 k2 hfree
       (λm x hx=>by
        obtain⟨v,d,q1,q2,_⟩:=hgetv m hx.1
        exact .inl (k6 _ x ((hUp _ v d q1 q2).1 _ x hx.2)))
       hcs (by omega) (by
        have:n<=n*z:=Nat.le_mul_of_pos_right _ hpos;simp only[maxLen]
        omega) hpos hdz
       (λm hm=>by
        rw[hdlen]at hm;obtain⟨v,d,q1,q2,q3,q4⟩:=hgetv m hm;rw[q4]
        exact(hUp _ v d q1 q2).2.2.1 _ q3)
       (λm dm hm=>by
        have hlt:=(List.getElem?_eq_some_iff.1 hm).1;rw[zat hdz,hdlen]at hlt;obtain⟨v,d,q1,q2,q3,q4⟩:=hgetv m hlt;rw[zi2 hpos ds hdz,q2]at hm;rw[q4]
        exact((hUp _ v d q1 q2).2.2.2 _ _ hm).mono (λx hx=>⟨hlt,hx⟩))
      rw[hdlen]at hh;refine zda ?_ hh he;simp only[execOp,ho,Sem.run_bind,hr];rfl
     ·cases he
    ·cases he
   ·cases he
  ·cases he
 ·cases he
end Go.Qz
namespace Go.Qz
theorem zdb[Base]{g:G}{e:Env}{tm:Array Value}{w:World}(h:Sim g e tm w)(r:Root):∃g',Sim g' (e.freeze r) tm w/\Next g e w g' (e.freeze r) w:=by
 obtain⟨g',h1,h2,h3,h4,h5,h6⟩:=h.frozen r
 have hbox:∀b,((e.freeze r).box b).isSome=(e.box b).isSome:=by
  intro b;unfold Env.freeze;split
  ·exact zaj b
  ·rfl
 refine⟨g',h1,rfl,rfl,rfl,Nat.le_refl _,λ_ _ _=>rfl,λx hx=>?_,h4,λb o v hv=>?_,λb _=>⟨by rw[h2],by rw[h3]⟩⟩
 ·rcases hx with⟨s,hs⟩|⟨b,hb,hlt,hx⟩
  ·exact .inl (.inl ⟨s,h5 s x hs⟩)
  ·rw[hbox]at hb;exact .inl (.inr ⟨b,hb,hlt,by rw[<-h2];exact hx⟩)
 ·rcases h6 b o v hv with h1|⟨s,hs⟩
  ·exact .inl h1
  ·exact .inr (.inl (.inl ⟨s,hs⟩))
theorem zqr[Base]{P:Program}{g:G}{e:Env}{a:Act}{w:World}(h:Sim g e a.tmps w){t:TypeId}{x:Operand}{z:Nat}{xs:List D}(hd:rd P e t x=some (.sl z xs)):
 ∃g',Sim g' (zcd e x) a.tmps w/\Next g e w g' (zcd e x) w/\RO g'.c (.sl z xs) (a.eval x):=by
 cases x with
 |tmp tx=>
  have hev:a.eval (.tmp tx)=a.tmps.getD tx undef:=rfl;simp only[rd]at hd
  cases hV:e.get tx with
  |one p=>
   rw[hV]at hd
   cases p with
   |ro d=>
    have e1:zcd e (.tmp tx)=e:=by simp[zcd,zsm,hV]
    rw[e1];have ht:=h.tv tx;rw[hV]at ht;simp only[V.data,A.data,Option.some.injEq]at hd;subst hd;exact⟨g,h,Next.refl g e w,ht⟩
   |own d=>
    simp only[V.data,A.data,Option.some.injEq]at hd;subst hd;have e1:zcd e (.tmp tx)=e.freeze (.tmp tx):=by simp[zcd,zsm,hV]
    rw[e1];obtain⟨g',h1,h2⟩:=zdb h (.tmp tx)
    have hget:(e.freeze (.tmp tx)).get tx=.one (.ro (.sl z xs)):=by
     have:e.root (.tmp tx)=.own (.sl z xs):=by simp[Env.root,hV]
     simp only[Env.freeze,this,zbf,if_pos]
    have ht:=h1.tv tx;rw[hget]at ht;exact⟨g',h1,h2,ht⟩
   |view l=>
    simp only[V.data,A.data]at hd;have e1:zcd e (.tmp tx)=e.freeze l.root:=by simp[zcd,zsm,hV]
    rw[e1];obtain⟨g',h1,h2⟩:=zdb h l.root
    obtain⟨D0,hD⟩:∃D0,e.root l.root=.own D0:=by
     have:=hd;simp only[Env.ownAt]at this;split at this
     ·rename_i D0 hD;exact⟨D0,hD⟩
     ·cases this
    have hne:l.root≠.tmp tx:=by
     intro e2;rw[e2]at hD;simp only[Env.root,hV]at hD;cases hD
    have hget:(e.freeze l.root).get tx=.one (.ro (.sl z xs)):=by
     simp only[Env.freeze,hD,zbf,if_neg hne,hV,V.mapA,A.thaw,if_pos,hd]
    have ht:=h1.tv tx;rw[hget]at ht;exact⟨g',h1,h2,ht⟩
   |_=>cases hd
  |tup as=>rw[hV]at hd;cases hd
  |agg as=>
   rw[hV]at hd;simp only[V.data]at hd;split at hd
   ·simp only[Option.some.injEq]at hd;cases hd
   ·cases hd
 |const v=>
  refine⟨g,h,Next.refl g e w,?_⟩;simp only[rd]at hd;split at hd
  ·rename_i a' ha;rcases zgn ha with⟨d',rfl,hr⟩|⟨z',rfl,rfl⟩
   ·simp only[A.data,Option.some.injEq]at hd;subst hd;exact hr _
   ·simp only[A.data,Option.some.injEq,D.sl.injEq]at hd;obtain⟨rfl,rfl⟩:=hd;exact .sl0
  ·cases hd
 |global q=>cases hd
 |func f=>cases hd
def zzr(d:Option D)(v:Option Value):Prop:=match d,v with
 |none,none=>True
 |some d,some v=> ∃c,RO c d v
 |_,_=>False
theorem zfd[Base]{P:Program}{g:G}{e:Env}{a:Act}{w:World}(h:Sim g e a.tmps w){x:Option Operand}{d:Option D}(hd:rdO P e 0 x=some d):zzr d (x.map a.eval):=by
 unfold rdO at hd;split at hd
 ·obtain rfl:=Option.some.inj hd;trivial
 ·split at hd
  ·rename_i x d' hx;obtain rfl:=Option.some.inj hd;exact⟨_,h.rd hx⟩
  ·cases hd
theorem zhf{P:Program}{w:World}{isSlice:Bool}{n cap:Nat}(hn:n<=cap){lo hi:Option D}{lv hv:Option Value}(hl:zzr lo lv)(hh:zzr hi hv){i j:Nat}(h:zbb n lo hi=some (i,j)):
 (Instr.sliceBounds isSlice n cap lv hv none).run P w=.ok (i,j,cap) w/\i<=j/\j<=n:=by
 unfold zbb at h
 have bound:∀(k:IntKind) (m:Int) (y:Nat) (code:BoundsCode),0<=m->m<=(y:Int)->(Instr.sliceBound (.int k m) y code).run P w=.ok m.toNat w:=by
  intro k m y code h0 h1;simp[Instr.sliceBound,asIntOf,h0,h1]
 split at h
 ·rename_i kh hb
  cases hv with
  |none=>exact hh.elim
  |some v=>
   obtain⟨c,hr⟩:=hh;obtain rfl:=hr.int_inv;split at h
   ·rename_i hc;simp only[Bool.and_eq_true,decide_eq_true_eq]at hc;split at h
    ·rename_i kl l
     cases lv with
     |none=>exact hl.elim
     |some v=>
      obtain⟨c',hr'⟩:=hl;obtain rfl:=hr'.int_inv;split at h
      ·rename_i hc2;simp only[Bool.and_eq_true,decide_eq_true_eq]at hc2;simp only[Option.some.injEq,Prod.mk.injEq]at h;obtain⟨rfl,rfl⟩:=h;refine⟨?_,by omega,by omega⟩
       simp only[Instr.sliceBounds,Sem.run_bind,Sem.run_pure,Result.andThen_ok,bound kh hb cap _ hc.1 (by omega)]
       simp[bound kl l hb.toNat _ hc2.1 (by omega)]
      ·cases h
    ·cases lv with
     |some v=>exact hl.elim
     |none=>
      simp only[Option.some.injEq,Prod.mk.injEq]at h;obtain⟨rfl,rfl⟩:=h;refine⟨?_,by omega,by omega⟩
      simp only[Instr.sliceBounds,Sem.run_bind,Sem.run_pure,Result.andThen_ok,bound kh hb cap _ hc.1 (by omega)]
    ·cases h
   ·cases h
 ·cases hv with
  |some v=>exact hh.elim
  |none=>
   split at h
   ·rename_i kl l
    cases lv with
    |none=>exact hl.elim
    |some v=>
     obtain⟨c',hr'⟩:=hl;obtain rfl:=hr'.int_inv;split at h
     ·rename_i hc2;simp only[Bool.and_eq_true,decide_eq_true_eq]at hc2;simp only[Option.some.injEq,Prod.mk.injEq]at h;obtain⟨rfl,rfl⟩:=h;refine⟨?_,by omega,by omega⟩
      simp[Instr.sliceBounds,bound kl l n _ hc2.1 (by omega)]
     ·cases h
   ·cases lv with
    |some v=>exact hl.elim
    |none=>
     simp only[Option.some.injEq,Prod.mk.injEq]at h;obtain⟨rfl,rfl⟩:=h;exact⟨by simp[Instr.sliceBounds],by omega,by omega⟩
   ·cases h
 ·cases h
theorem znx{z:Nat}{xs:List D}{i j:Nat}(_:i<=j)(_:j<=xs.length)(hz:0<z)(hxz:∀x∈xs,x.cells.length=z){m:Nat}{d:D}(h:(((xs.take j).drop i).flatMap D.cells)[m]? =some d):(xs.flatMap D.cells)[i*z+m]? =some d:=by
 have hsub:∀x∈(xs.take j).drop i,x.cells.length=z:=λx hx=>hxz x (List.mem_of_mem_take (List.mem_of_mem_drop hx))
 rw[zi2 hz _ hsub]at h;rw[zi2 hz _ hxz];have e1:(i*z+m)/z=i+m/z:=by rw[Nat.add_comm,Nat.add_mul_div_right _ _ hz,Nat.add_comm]
 have e2:(i*z+m) % z=m % z:=by rw[Nat.add_comm,Nat.add_mul_mod_self_right]
 rw[e1,e2];rw[List.getElem?_drop,List.getElem?_take]at h;split at h
 ·exact h
 ·cases h
theorem RO.part{c:Mem}{z i k cap n:Nat}{xs:List D}{a:Option Addr}(h:RO c (.sl z xs) (.slice a n cap))(hik:i<=k)(hk:k<=xs.length):RO c (.sl z ((xs.take k).drop i)) (.slice (if cap=i then a else a.map (·.add (i*z))) (k-i) (cap-i)):=by
 obtain⟨a',cap',e1,hcap,hx⟩:=h.sl_inv;cases e1;have hlen:((xs.take k).drop i).length=k-i:=by rw[List.length_drop,List.length_take,Nat.min_eq_left hk]
 by_cases hnil:(xs.take k).drop i=[]
 ·have:k-i=0:=by rw[<-hlen,hnil];rfl
  rw[hnil,this];exact .sl0
 ·have hpos':0<k-i:=by rw[<-hlen];exact List.length_pos_iff.2 hnil
  have hne:xs≠[]:=by rintro rfl;simp at hnil
  obtain⟨b,off,u,rfl,q1,q2,q3⟩:=hx hne;rw[if_neg (by omega)]
  simp only[Option.map_some,zcg];rw[<-hlen];refine .sl (λm=>u (i*z+m)) (by rw[hlen];omega) (λx hx=>q1 x (List.mem_of_mem_take (List.mem_of_mem_drop hx))) (λm hm=>?_) (λm d hm=>?_)
  ·rw[hlen]at hm
   have hlt:i*z+m<xs.length*z:=by
    have h4:(i+(k-i))*z<=xs.length*z:=Nat.mul_le_mul_right _ (by omega)
    rw[Nat.add_mul]at h4;omega
   rw[Nat.add_assoc];exact q2 _ hlt
  ·rcases Nat.eq_zero_or_pos z with rfl|hpos
   ·obtain⟨x,hx,hd⟩:=List.mem_flatMap.1 (List.mem_of_getElem? hm);have:=q1 x (List.mem_of_mem_take (List.mem_of_mem_drop hx));rw[List.eq_nil_of_length_eq_zero this]at hd;cases hd
   ·exact q3 _ d (znx hik hk hpos q1 hm)
theorem zqs{e:Env}{x:Operand}{pl:Loc}(h:zfo e x=some pl):∃t,x=.tmp t/\e.get t=.one (.view pl):=by
 unfold zfo at h;split at h
 ·rename_i t;split at h
  ·rename_i a ha;refine⟨t,rfl,?_⟩;unfold zyu at h;split at h
   ·rename_i l;split at h
    ·cases h;exact ha
    ·cases h
   ·cases h
  ·cases h
 ·cases h
theorem zzs[Base]{P:Program}{g:G}{e e':Env}{a:Act}{w:World}(h:Sim g e a.tmps w){o:Oper}{t:TypeId}{x:Operand}{lo hi:Option Operand}(ho:o.op=.slice t x lo hi none){pl:Loc}(hp:zfo e x=some pl){v:V}(hv:zgc P e t x lo hi pl=some v)(he:zap e o.dst v=some e'):Stays P g e a w o e':=by
 obtain⟨tt,rfl,hget⟩:=zqs hp;unfold zgc at hv;split at hv
 ·rename_i ll hh hll hhh;have hbl:=zfd h hll;have hbh:=zfd h hhh;split at hv
  ·rename_i z xs hs;split at hv
   ·rename_i hz;split at hv
    ·rename_i i j hb;obtain rfl:=Option.some.inj hv;obtain⟨el,hu,hel⟩:=zeq hz;obtain⟨i',dd,zv,hi',_,hzv,hsize,hpos,hby,hzs⟩:=zc9 hel;obtain⟨av,cap,hva,hcap,hx⟩:=(h.rd hs).sl_inv;obtain⟨hr,hij,hj⟩:=zhf (P:=P) (w:=w) (isSlice:=true) hcap hbl hbh hb
     have hsl:(Instr.slice t (.slice av xs.length cap) (lo.map a.eval) (hi.map a.eval) none).run P w=.ok (.slice (if cap=i then av else av.map (·.add (i*z))) (j-i) (cap-i)) w:=by
      simp[Instr.slice,run_underlying hu,hr,zlv hel]
     have hat:(Instr.sliceAt t (.slice av xs.length cap) (lo.map a.eval) (hi.map a.eval) none).run P w=.ok (.slice (if cap=i then av else av.map (·.add (i*z))) (j-i) (cap-i)) w:=by
      rw[<-hsl];simp[Instr.sliceAt,run_underlying hu]
     have hex:(execOp a.eval o).run P w=.ok (.value (.slice (if cap=i then av else av.map (·.add (i*z))) (j-i) (cap-i))) w:=by
      simp only[execOp,ho,hva,Sem.run_bind,Option.map_none,hat];rfl
     have hrep:RepA g e a.tmps w (.tmp tt 0) (.view pl) (a.tmps.getD tt undef):=by
      have:=h.tv tt;rw[hget]at this;exact this
     have hv0:HoldV g e a.tmps w (λ_ _=>False) (.one (.pview pl i j)) (.slice (if cap=i then av else av.map (·.add (i*z))) (j-i) (cap-i)):=by
      intro z' xs' hown hk;refine⟨av,xs.length,cap,?_,?_⟩
      ·have:=hrep _ hown;rw[show a.tmps.getD tt undef=a.eval (.tmp tt)from rfl,hva]at this
       exact this
      ·have hdat:rd P e t (.tmp tt)=some (.sl z' xs'):=by
        show (e.get tt).data e=_;rw[hget];exact hown
       rw[hdat]at hs;cases hs;rfl
     exact zau hex (Holds.plain h hv0) he
    ·cases hv
   ·cases hv
  ·cases hv
 ·cases hv
theorem zu7:∀{as:List A} {ds:List D},zoo as=some ds->as=ds.map .ro
 | [],ds,h=>by cases h;rfl
 | .ro d::r,ds,h=>by
   simp only[zoo]at h;split at h
   ·rename_i ds' hds';cases h;rw[zu7 hds'];rfl
   ·cases h
 | .own _::_,_,h| .view _::_,_,h| .ptr _ _::_,_,h| .eptr ..::_,_,h| .pview ..::_,_,h| .rptr _::_,_,h| .fn _ _::_,_,h| .selfp::_,_,h| .bnil _::_,_,h| .undef::_,_,h| .dead::_,_,h=>by cases h
theorem zqt[Base]{g:G}{e:Env}{tm:Array Value}{w:World}(h:Sim g e tm w){b:Nat}{cs:List A}(hb:e.box b=some cs)(hlt:b<zab):
 ∃g',Sim g' (e.dropBox b) tm w/\Next g e w g' (e.dropBox b) w/\ ∀o v,w.cell? ⟨g.β b,o,none⟩=some v->g'.c (g.β b) o=some v:=by
 have hbs:(e.box b).isSome=true:=by rw[hb];rfl
 have box_new:∀b',(e.dropBox b).box b' =if b' =b then none else e.box b':=λ_=>rfl
 have get_new:∀t,(e.dropBox b).get t=(e.get t).mapA (A.killBox b):=λ_=>rfl
 have hcle:g.c.le (λx o=>if x=g.β b then zbc w x o else g.c x o):=by
  intro x o v hv;by_cases hx:x=g.β b
  ·simp only[if_pos hx];exact h.cmem _ _ _ hv
  ·simp only[if_neg hx];exact hv
 have hroot:∀r:Root,r.inBox b=false-> ∀D,(e.dropBox b).root r=.own D->e.root r=.own D:=by
  intro r hr D hD
  cases r with
  |tmp t=>
   simp only[Env.root,get_new]at hD ⊢
   cases hV:e.get t with
   |one a=>
    rw[hV]at hD;simp only[V.mapA]at hD ⊢;exact zef (zdw b) _ _ hD
   |tup as=>rw[hV]at hD;cases hD
   |agg as=>rw[hV]at hD;cases hD
  |cell b' o=>
   have hne:b' ≠b:=by simpa [Root.inBox]using hr
   simp only[Env.root,box_new,if_neg hne]at hD ⊢;exact hD
 have K:zcy g e tm w {g with c:=λx o=>if x=g.β b then zbc w x o else g.c x o} (e.dropBox b) tm w (λl=>l.root.inBox b=false) (λb' =>b' ≠b):=by
  refine⟨hcle,λl hl d' hd' =>?_,λb' hb' hbs' _=>?_⟩
  ·have hd:e.ownAt l=some d':=by
    simp only[Env.ownAt]at hd' ⊢;split at hd'
    ·rename_i D1 hD1;rw[hroot _ hl _ hD1];exact hd'
    ·cases hd'
   exact⟨d',hd,λz xs' e=>⟨xs',e,Nat.le_refl _⟩,λv hv=>hv⟩
  ·rw[box_new,if_neg hb']at hbs';exact⟨hbs',rfl⟩
 refine⟨{g with c:=λx o=>if x=g.β b then zbc w x o else g.c x o},{
  size:=h.size
  tv:=λt=>by rw[get_new];exact(h.tv t).kill K (zdw b) (λk x hx=>⟨hx,rfl⟩)
  bx:=λb' cs' hcs=>?_
  binj:=λb1 b2 hb1 hb2 hl1 hl2 he=>?_
  sdis:=h.sdis
  sbox:=λs b' x hx hb' hl=>?_
  slt:=h.slt
  cmem:=λx o v hv=>?_
  base:=λx o v hv=>hcle _ _ _ (h.base _ _ _ hv)
  fix:=h.fix
  cdis:=λx o v hv=>?_},⟨rfl,rfl,rfl,Nat.le_refl _,λ_ _ _=>rfl,λx hx=>?_,hcle,λx o v hv=>?_,λ_ _=>⟨rfl,rfl⟩⟩,λo v hv=>?_⟩
 ·rw[box_new]at hcs;by_cases e1:b' =b
  ·rw[if_pos e1]at hcs;cases hcs
  ·rw[if_neg e1]at hcs;exact(h.bx b' cs' hcs).keep K (λo x hx=>⟨hx,rfl⟩) (λ_=>⟨rfl,rfl⟩) (λ_=>rfl)
 ·rw[box_new]at hb1 hb2;by_cases e1:b1=b
  ·rw[if_pos e1]at hb1;cases hb1
  ·by_cases e2:b2=b
   ·rw[if_pos e2]at hb2;cases hb2
   ·rw[if_neg e1]at hb1;rw[if_neg e2]at hb2;exact h.binj b1 b2 hb1 hb2 hl1 hl2 he
 ·rw[box_new]at hb';by_cases e1:b' =b
  ·rw[if_pos e1]at hb';cases hb'
  ·rw[if_neg e1]at hb';exact h.sbox s b' x hx hb' hl
 ·dsimp only at hv;split at hv
  ·exact hv
  ·exact h.cmem _ _ _ hv
 ·dsimp only at hv;by_cases hx:x=g.β b
  ·refine⟨λs hs=>h.sbox s b x hs hbs hlt hx.symm,λid hid hl he=>?_⟩
   rw[box_new]at hid;by_cases e1:id=b
   ·rw[if_pos e1]at hid;cases hid
   ·rw[if_neg e1]at hid;exact e1 (h.binj id b hid hbs hl hlt (he.trans hx))
  ·rw[if_neg hx]at hv;refine⟨(h.cdis x o v hv).1,λid hid hl=>?_⟩
   rw[box_new]at hid;by_cases e1:id=b
   ·rw[if_pos e1]at hid;cases hid
   ·rw[if_neg e1]at hid;exact(h.cdis x o v hv).2 id hid hl
 ·rcases hx with⟨s,hs⟩|⟨b',hb',hl,hx⟩
  ·exact .inl (.inl ⟨s,hs⟩)
  ·rw[box_new]at hb';by_cases e1:b' =b
   ·rw[if_pos e1]at hb';cases hb'
   ·rw[if_neg e1]at hb';exact .inl (.inr ⟨b',hb',hl,hx⟩)
 ·dsimp only at hv;by_cases hx:x=g.β b
  ·exact .inr (.inl (.inr ⟨b,hbs,hlt,hx.symm⟩))
  ·rw[if_neg hx]at hv;exact .inl hv
 ·simp only[if_pos];exact hv
theorem zqu[Base]{P:Program}{g:G}{e e':Env}{a:Act}{w:World}(h:Sim g e a.tmps w){o:Oper}{t:TypeId}{x:Operand}{lo hi:Option Operand}(ho:o.op=.slice t x lo hi none){l hh:Option D}(hl:rdO P e 0 lo=some l)(hhh:rdO P e 0 hi=some hh)(he:zg5 P e o.dst t x l hh=some e'):Stays P g e a w o e':=by
 have hbl:=zfd h hl;have hbh:=zfd h hhh;unfold zg5 at he;split at he
 ·rename_i m el b hu hbo;split at he
  ·rename_i hz;split at he
   ·rename_i ds hds;split at he
    ·rename_i i j hbd
     obtain⟨tx,rfl,htx⟩:∃tx,x=.tmp tx/\e.get tx=.one (.ptr b 0):=by
      unfold z5e at hbo;split at hbo
      ·rename_i tx;split at hbo
       ·rename_i b' hb';cases hbo;exact⟨tx,rfl,hb'⟩
       ·cases hbo
      ·cases hbo
     unfold zsp at hds;split at hds
     ·rename_i hlt;split at hds
      ·rename_i cs hcs;split at hds
       ·rename_i ds' hro;split at hds
        ·rename_i hc;obtain rfl:=Option.some.inj hds;simp only[Bool.and_eq_true,decide_eq_true_eq,List.all_eq_true,Bool.not_eq_true']at hc;obtain⟨hlen,hall⟩:=hc;obtain rfl:=zu7 hro;have hbx:=h.bx b _ hcs;unfold RepBox at hbx;rw[if_neg (by omega)]at hbx
         obtain⟨arr,el',hheap,hsz,hcell⟩:=hbx
         have hv:a.eval (.tmp tx)=.pointer (some ⟨g.β b,0,none⟩):=by
          have:=h.tv tx;rw[htx]at this;exact this (by rw[hcs];rfl) hlt
         obtain⟨hr,hij,hj⟩:=zhf (P:=P) (w:=w) (isSlice:=false) (Nat.le_refl m) hbl hbh hbd
         have hat:(Instr.sliceAt t (.pointer (some ⟨g.β b,0,none⟩)) (lo.map a.eval) (hi.map a.eval) none).run P w=.ok (.slice (some (if m=i then⟨g.β b,0,none⟩else⟨g.β b,i,none⟩)) (j-i) (m-i)) w:=by
          simp[Instr.sliceAt,run_underlying hu,Instr.sureAddr,hr,zeg hz,zcg]
         have hex:(execOp a.eval o).run P w=.ok (.value (.slice (some (if m=i then⟨g.β b,0,none⟩else⟨g.β b,i,none⟩)) (j-i) (m-i))) w:=by
          simp only[execOp,ho,hv,Sem.run_bind,Option.map_none,hat];rfl
         obtain⟨g1,h1,h2,h3⟩:=zqt h hcs hlt;have hdl:(ds'.map A.ro).length=m:=by rw[List.length_map];exact hlen
         rw[hdl]at hsz;have hlen2:((ds'.take j).drop i).length=j-i:=by rw[List.length_drop,List.length_take,hlen,Nat.min_eq_left hj]
         have hone:∀d∈ds',d.cells=[d]:=λd hd=>by
          have:=(hall d hd).2;cases d<;>first|rfl|cases this
         have hat2:∀(k:Nat) (d:D),ds'[k]? =some d->g1.c (g.β b) k=some (arr.getD k undef)/\(arr.getD k undef).oneCell' =true/\RO g1.c d (arr.getD k undef):=by
          intro k d hd;have hk:k<m:=by rw[<-hlen];exact(List.getElem?_eq_some_iff.1 hd).1
          obtain⟨_,q2,q3⟩:=hcell k (.ro d) (by rw[List.getElem?_map,hd];rfl)
          refine⟨h3 k _ ?_,q2,RO.mono h2.c q3⟩;have hks:k<arr.size:=by omega
          simp[World.cell?,hheap,hks]
         have hro2:RO g1.c (.sl 1 ((ds'.take j).drop i)) (.slice (some (if m=i then⟨g.β b,0,none⟩else⟨g.β b,i,none⟩)) (j-i) (m-i)):=by
          by_cases hnil:(ds'.take j).drop i=[]
          ·have:j-i=0:=by rw[<-hlen2,hnil];rfl
           rw[hnil,this];exact .sl0
          ·have hpos':0<j-i:=by rw[<-hlen2];exact List.length_pos_iff.2 hnil
           rw[if_neg (by omega)]
           rw[<-hlen2]
           have hat3:∀m',m' <j-i->((ds'.take j).drop i)[m']? =ds'[i+m']?:=λm' hm' =>by
            rw[List.getElem?_drop,List.getElem?_take_of_lt (by omega)]
           have hmem:∀x∈(ds'.take j).drop i,x∈ds':=λx hx=>List.mem_of_mem_take (List.mem_of_mem_drop hx)
           refine .sl (λm' =>arr.getD (i+m') undef) (by rw[hlen2];omega) (λx hx=>by rw[hone x (hmem x hx)];rfl) (λm' hm=>?_) (λm' d hm=>?_)
           ·rw[hlen2,Nat.mul_one]at hm;obtain⟨d,hd⟩:∃d,ds'[i+m']? =some d:=⟨_,List.getElem?_eq_getElem (by omega)⟩
            obtain⟨q1,q2,_⟩:=hat2 _ d hd;exact⟨q1,q2⟩
           ·have hfm:((ds'.take j).drop i).flatMap D.cells=(ds'.take j).drop i:=by
             have:∀l:List D,(∀x∈l,x.cells=[x])->l.flatMap D.cells=l:=by
              intro l
              induction l with
              |nil=>intro _;rfl
              |cons a r ih=>intro hl;rw[List.flatMap_cons,hl a (by simp),ih (λx hx=>hl x (by simp[hx]))];rfl
             exact this _ (λx hx=>hone x (hmem x hx))
            rw[hfm]at hm;have hlt':=(List.getElem?_eq_some_iff.1 hm).1;rw[hlen2]at hlt';rw[hat3 m' hlt']at hm;exact(hat2 _ d hm).2.2
         have hv0:HoldV g1 (e.dropBox b) a.tmps w (λ_ _=>False) (.one (.ro (.sl 1 ((ds'.take j).drop i)))) _:=hro2
         exact zau hex (Holds.after h2 (Holds.plain h1 hv0)) he
        ·cases hds
       ·cases hds
      ·cases hds
     ·cases hds
    ·cases he
   ·cases he
  ·cases he
 ·cases he
theorem zzt[Base]{P:Program}{io:FuncId->List Nat}{call:zai}{g:G}{e e':Env}{a:Act}{w:World}(h:Sim g e a.tmps w){o:Oper}{t:TypeId}{x:Operand}{lo hi mx:Option Operand}(ho:o.op=.slice t x lo hi mx)(he:evOp P io call e o=some e'):Stays P g e a w o e':=by
 simp only[evOp,ho]at he;split at he
 ·cases he
 ·split at he
  ·rename_i pl hpl;split at he
   ·rename_i v hv;exact zzs h ho hpl hv he
   ·cases he
  split at he
  ·rename_i l hh hl hhh;have hbl:=zfd h hl;have hbh:=zfd h hhh;split at he
   ·rename_i s hs;have hsv:=(h.rd hs).str_inv;split at he
    ·rename_i hu;split at he
     ·rename_i i j hb;obtain⟨hr,hij,hj⟩:=zhf (P:=P) (w:=w) (isSlice:=false) (Nat.le_refl s.size) hbl hbh hb
      have hsl:(Instr.slice t (.string s) (lo.map a.eval) (hi.map a.eval) none).run P w=.ok (.string (s.extract i j)) w:=by
       simp[Instr.slice,run_underlying hu,hr]
      have hat:(Instr.sliceAt t (.string s) (lo.map a.eval) (hi.map a.eval) none).run P w=.ok (.string (s.extract i j)) w:=by
       rw[<-hsl];simp[Instr.sliceAt,run_underlying hu]
      have hex:(execOp a.eval o).run P w=.ok (.value (.string (s.extract i j))) w:=by
       simp only[execOp,ho,hsv,Sem.run_bind,Option.map_none,hat];rfl
      have hv0:HoldV g e a.tmps w (λ_ _=>False) (.one (.ro (.str (s.extract i j)))) (.string (s.extract i j)):=RO.str _
      exact zau hex (Holds.plain h hv0) he
     ·cases he
    ·cases he
   ·rename_i z xs hs;split at he
    ·rename_i hz;split at he
     ·rename_i i j hb;obtain⟨el,hu,hel⟩:=zeq hz;obtain⟨i',dd,zv,hi',_,hzv,hsize,hpos,hby,hzs⟩:=zc9 hel;obtain⟨g1,h1,h2,h3⟩:=zqr h hs;obtain⟨av,cap,hv,hcap,hx⟩:=h3.sl_inv;obtain⟨hr,hij,hj⟩:=zhf (P:=P) (w:=w) (isSlice:=true) hcap hbl hbh hb
      have hsl:(Instr.slice t (.slice av xs.length cap) (lo.map a.eval) (hi.map a.eval) none).run P w=.ok (.slice (if cap=i then av else av.map (·.add (i*z))) (j-i) (cap-i)) w:=by
       simp[Instr.slice,run_underlying hu,hr,zlv hel]
      have hat:(Instr.sliceAt t (.slice av xs.length cap) (lo.map a.eval) (hi.map a.eval) none).run P w=.ok (.slice (if cap=i then av else av.map (·.add (i*z))) (j-i) (cap-i)) w:=by
       rw[<-hsl];simp[Instr.sliceAt,run_underlying hu]
      have hex:(execOp a.eval o).run P w=.ok (.value (.slice (if cap=i then av else av.map (·.add (i*z))) (j-i) (cap-i))) w:=by
       simp only[execOp,ho,hv,Sem.run_bind,Option.map_none,hat];rfl
      have hlen:((xs.take j).drop i).length=j-i:=by rw[List.length_drop,List.length_take,Nat.min_eq_left hj]
      have hro:RO g1.c (.sl z ((xs.take j).drop i)) (.slice (if cap=i then av else av.map (·.add (i*z))) (j-i) (cap-i)):=by
       by_cases hnil:(xs.take j).drop i=[]
       ·have:j-i=0:=by rw[<-hlen,hnil];rfl
        rw[hnil,this];exact .sl0
       ·have hpos':0<j-i:=by rw[<-hlen];exact List.length_pos_iff.2 hnil
        have hne:xs≠[]:=by rintro rfl;simp at hnil
        obtain⟨b,off,u,rfl,q1,q2,q3⟩:=hx hne;rw[if_neg (by omega)]
        simp only[Option.map_some,zcg];rw[<-hlen];refine .sl (λm=>u (i*z+m)) (by rw[hlen];omega) (λx hx=>q1 x (List.mem_of_mem_take (List.mem_of_mem_drop hx))) (λm hm=>?_) (λm d hm=>q3 _ d (znx hij hj hpos q1 hm))
        rw[hlen]at hm
        have hlt:i*z+m<xs.length*z:=by
         have h4:(i+(j-i))*z<=xs.length*z:=Nat.mul_le_mul_right _ (by omega)
         rw[Nat.add_mul]at h4;omega
        rw[Nat.add_assoc];exact q2 _ hlt
      have hv0:HoldV g1 (zcd e x) a.tmps w (λ_ _=>False) (.one (.ro (.sl z ((xs.take j).drop i)))) _:=hro
      exact zau hex (Holds.after h2 (Holds.plain h1 hv0)) he
     ·cases he
    ·cases he
   ·exact zqu h ho hl hhh he
   ·cases he
  ·cases he
end Go.Qz
namespace Go.Qz
def zzu(g:G)(e:Env)(tm:Array Value)(w:World)(Y:Nat->Blk)(cs:List A)(arr:Array Value):Prop:=
 arr.size=cs.length/\ ∀k a,cs[k]? =some a->a.portable=true/\(arr.getD k undef).oneCell' =true/\HoldA g e tm w (Y k) a (arr.getD k undef)
theorem zgp:∀(as cs:List A) (o:Nat),(zcf cs o as).length=cs.length
 | [],_,_=>rfl
 |a::r,cs,o=>by rw[zcf,zgp r];simp
theorem zkg:∀(as cs:List A) (o k:Nat),(zcf cs o as)[k]? =if o<=k/\k<o+as.length/\k<cs.length then as[k-o]? else cs[k]?
 | [],cs,o,k=>by rw[if_neg (by simp;omega)];rfl
 |a::r,cs,o,k=>by
  rw[zcf,zkg r (cs.set o a) (o+1) k];simp only[List.length_set,List.length_cons];by_cases e:k=o
  ·subst e;rw[if_neg (by omega)]
   by_cases hk:k<cs.length
   ·rw[if_pos (by omega),List.getElem?_set_self hk,Nat.sub_self];rfl
   ·rw[if_neg (by omega),List.getElem?_eq_none (by simpa using hk),List.getElem?_eq_none (by omega)]
  ·rw[List.getElem?_set_ne (Ne.symm e)];by_cases hin:o+1<=k/\k<o+1+r.length/\k<cs.length
   ·rw[if_pos hin,if_pos (by omega),show k-o=(k-(o+1))+1 by omega,List.getElem?_cons_succ]
   ·rw[if_neg hin,if_neg (by omega)]
def put1(arr vc:Array Value)(off:Nat):Array Value:=vc.zipIdx.foldl (λcs (x:Value×Nat)=>cs.setIfInBounds (off+x.2) x.1) arr
theorem zzv(arr vc:Array Value)(off:Nat):(put1 arr vc off).size=arr.size/\ ∀k:Nat,(put1 arr vc off)[k]? =if off<=k/\k<off+vc.size/\k<arr.size then vc[k-off]? else arr[k]?:=by
 have h:=Go.Great.foldl_set off vc.toList 0 arr
 have e:put1 arr vc off=(vc.toList.zipIdx 0).foldl (λcs (x:Value×Nat)=>cs.setIfInBounds (off+x.2) x.1) arr:=by
  unfold put1;rw[<-Array.foldl_toList,Array.toList_zipIdx]
 rw[e];refine⟨h.1,λk=>?_⟩
 rw[h.2 k];simp only[Nat.add_zero,show vc.toList.length=vc.size from Array.length_toList,Array.getElem?_toList]
theorem zl3{P:Program}:∀{fs:List Field},(fs.all λf=>(P.info? f.type).isSome)=true-> ∃places:List (Nat×Nat),fs.mapM (λf=>(P.info? f.type).map λi=>(f.offset,i.size))=some places/\ ∀(j:Nat) (f:Field),fs[j]? =some f-> ∃i,P.info? f.type=some i/\places[j]? =some (f.offset,i.size)
 | [],_=>⟨[],rfl,λj f hf=>by simp at hf⟩
 |f::r,h=>by
  simp only[List.all_cons,Bool.and_eq_true]at h;obtain⟨i,hi⟩:=Option.isSome_iff_exists.1 h.1;obtain⟨pl,h1,h2⟩:=zl3 h.2;refine⟨(f.offset,i.size)::pl,by simp[List.mapM_cons,hi,h1],λj f' hf=>?_⟩
  cases j with
  |zero=>
   simp only[List.getElem?_cons_zero,Option.some.injEq]at hf;subst hf;exact⟨i,hi,rfl⟩
  |succ j=>
   obtain⟨i',h3,h4⟩:=h2 j f' (by simpa using hf)
   exact⟨i',h3,by simpa using h4⟩
theorem zl4[Base]{P:Program}{a:Act}{w:World}{s:TypeId}{pf:Nat->Option (Nat×Nat)}(hpl:∀(j off:Nat) (ty:TypeId) (z:Nat),zgb P s j=some (off,ty)->zbj P ty=some z->pf j=some (off,z)):
 ∀{parts:List (Nat×Operand)} {cs as:List A} {arr:Array Value} {g1:G} {e1 e2:Env} {Y:Nat->Blk},Sim g1 e1 a.tmps w->zzu g1 e1 a.tmps w Y cs arr->Free g1 e1 w Y->zps P s e1 cs parts=some (as,e2)->
 ∃g2 Y' cells,Sim g2 e2 a.tmps w/\Next g1 e1 w g2 e2 w/\zzu g2 e2 a.tmps w Y' as cells/\Free g2 e2 w Y' /\Instr.fill pf arr (parts.map λx=>(x.1,a.eval x.2))=some cells/\ ∀k x,Y' k x->Mine g1 e1 x∨ ∃k',Y k' x
 | [],cs,as,arr,g1,e1,e2,Y,h,hc,hf,he=>by
   simp only[zps,Option.some.injEq,Prod.mk.injEq]at he;obtain⟨rfl,rfl⟩:=he;exact⟨g1,Y,arr,h,Next.refl _ _ _,hc,hf,rfl,λk x hx=>.inr ⟨k,hx⟩⟩
 |(j,x)::r,cs,as,arr,g1,e1,e2,Y,h,hc,hf,he=>by
  simp only[zps]at he;split at he
  ·rename_i off ty hft;split at he
   ·rename_i V e' ht;split at he
    ·rename_i vs hvs;split at he
     ·rename_i hck;simp only[Bool.and_eq_true,decide_eq_true_eq]at hck;obtain⟨⟨hsz,hle⟩,hport⟩:=hck;obtain⟨g',Y1,h1,h2,h3,h4,h5⟩:=zb3 h ht;obtain⟨Y1',k1,k2,k3,k4,k5⟩:=zjr hvs h2 h3;have hfY:=hf.next h4
      have hmY1:∀k x,Y1' k x->Mine g1 e1 x:=λk x hx=>by
       obtain⟨k',hk'⟩:=k5 k x hx;rcases h5 k' x hk' with hm|hle
       ·exact hm
       ·have:=h3.lt k' x hk';omega
      have hnm:∀k x,Y k x-> ¬Mine g1 e1 x:=by
       rintro k x hx (⟨s,hs⟩|⟨b,hb,hlt,e1⟩)
       ·exact hf.S k s x hx hs
       ·exact hf.box k x b hx hb hlt e1
      obtain⟨p1,p2⟩:=zzv arr (a.eval x).cells off
      let Y2:Nat->Blk:=λk=>if off<=k/\k<off+vs.length then Y1' (k-off)else Y k
      have hc2:zzu g' e' a.tmps w Y2 (zcf cs off vs) (put1 arr (a.eval x).cells off):=by
       refine⟨by rw[p1,zgp];exact hc.1,λk a' ha=>?_⟩
       rw[zkg]at ha
       have hg:(put1 arr (a.eval x).cells off).getD k undef=if off<=k/\k<off+vs.length/\k<cs.length then(a.eval x).cells.getD (k-off) undef else arr.getD k undef:=by
        rw[Array.getD_eq_getD_getElem?,p2 k,k1,hc.1];split
        ·rw[Array.getD_eq_getD_getElem?]
        ·rw[Array.getD_eq_getD_getElem?]
       rw[hg];by_cases hin:off<=k/\k<off+vs.length/\k<cs.length
       ·rw[if_pos hin]at ha ⊢;have e1:Y2 k=Y1' (k-off):=by simp only[Y2];rw[if_pos ⟨hin.1,hin.2.1⟩]
        rw[e1];exact⟨zeh hport a' (List.mem_of_getElem? ha),k2 _ (by omega),k3 _ a' ha⟩
       ·rw[if_neg hin]at ha ⊢;have hklt:=(List.getElem?_eq_some_iff.1 ha).1;have e1:Y2 k=Y k:=by simp only[Y2];rw[if_neg (λhh=>hin ⟨hh.1,hh.2,hklt⟩)]
        rw[e1];obtain⟨q1,q2,q3⟩:=hc.2 k a' ha;exact⟨q1,q2,q3.port q1 h4.c (λ_ _=>rfl)⟩
      have hf2:Free g' e' w Y2:=by
       refine⟨λk k' x hx hx' =>?_,λk s x hx hs=>?_,λk x b hx hb hlt=>?_,λk x hx=>?_,λk x o v hx hv=>?_⟩
       ·simp only[Y2]at hx hx';split at hx<;>split at hx'
        ·rename_i c1 c2;have:=k4.one _ _ x hx hx';omega
        ·exact(hnm _ x hx' (hmY1 _ x hx)).elim
        ·exact(hnm _ x hx (hmY1 _ x hx')).elim
        ·exact hf.one _ _ x hx hx'
       ·simp only[Y2]at hx;split at hx
        ·exact k4.S _ s x hx hs
        ·exact hfY.S _ s x hx hs
       ·simp only[Y2]at hx;split at hx
        ·exact k4.box _ x b hx hb hlt
        ·exact hfY.box _ x b hx hb hlt
       ·simp only[Y2]at hx;split at hx
        ·exact k4.lt _ x hx
        ·exact hfY.lt _ x hx
       ·simp only[Y2]at hx;split at hx
        ·exact k4.c _ x o v hx hv
        ·exact hfY.c _ x o v hx hv
      obtain⟨g2,Y',cells,m1,m2,m3,m4,m5,m6⟩:=zl4 hpl h1 hc2 hf2 he;refine⟨g2,Y',cells,m1,h4.trans m2,m3,m4,?_,λk x hx=>?_⟩
      ·rw[List.map_cons];have hplace:pf j=some (off,vs.length):=hpl j off ty _ hft hsz;unfold Instr.fill;simp only[hplace,k1];rw[if_neg (by simp only[hc.1];simp;omega)]
       exact m5
      ·rcases m6 k x hx with hm|⟨k',hy⟩
       ·exact(h4.mine x hm).elim .inl (λhle=>by have:=m4.lt k x hx;omega)
       ·simp only[Y2]at hy;split at hy
        ·exact .inl (hmY1 _ x hy)
        ·exact .inr ⟨k',hy⟩
     ·cases he
    ·cases he
   ·cases he
  ·cases he
theorem zzw[Base]{P:Program}{io:FuncId->List Nat}{call:zai}{g:G}{e e':Env}{a:Act}{w:World}(h:Sim g e a.tmps w){o:Oper}{t:TypeId}{parts:Array (Nat×Operand)}(ho:o.op=.build t parts)(he:evOp P io call e o=some e'):Stays P g e a w o e':=by
 simp only[evOp,ho]at he;split at he
 ·rename_i cs hcs;split at he
  ·rename_i hc;simp only[Bool.and_eq_true]at hc;split at he
   ·rename_i as e1 hfa;obtain⟨i,v,hi,hz,hl,hk⟩:=zjs hcs;have hok:=hc.1;unfold zim at hok;split at hok
    ·rename_i fs hu;obtain⟨places,hp1,hp2⟩:=zl3 hok;have hc0:zzu g e a.tmps w (λ_ _=>False) cs v.cells:=⟨hl,λk a' ha=>⟨(hk k a' ha).2.1,(hk k a' ha).1,(hk k a' ha).2.2 _ _ _ _ _⟩⟩
     have hpl:∀(j off:Nat) (ty:TypeId) (z:Nat),zgb P t j=some (off,ty)->zbj P ty=some z->places.toArray[j]? =some (off,z):=λj off ty z hft hsz=>by
      unfold zgb at hft;rw[hu]at hft;obtain⟨fs',fx,q1,q2,q3,q4⟩:=zgo hft;rw[hu]at q1;cases q1;obtain⟨i,q5,q6⟩:=hp2 j fx (by rw[Array.getElem?_toList];exact q2)
      obtain⟨i',d',q7,_,q8⟩:=zhb hsz;rw[q4,q7]at q5;cases q5;rw[List.getElem?_toArray,q6,q3,q8]
     obtain⟨g2,Y',cells,m1,m2,m3,m4,m5,m6⟩:=zl4 hpl h hc0 (zaw g e w) hfa
     have hb:P.built t (parts.map λ(i,x)=>(i,a.eval x)).toList=some cells:=by
      unfold Program.built;rw[hi,hu];simp only[hz,hp1];rw[Array.toList_map];exact m5
     have hr:=run_build (P:=P) w t (parts.map λ(i,x)=>(i,a.eval x)) cells hb
     have hex:(execOp a.eval o).run P w=.ok (.value (.agg cells)) w:=by
      simp only[execOp,ho,Sem.run_bind,hr];rfl
     have hh:HoldV g2 e1 a.tmps w Y' (.agg as) (.agg cells):=⟨cells,rfl,m3.1,λk a' ha=>(m3.2 k a' ha).2⟩
     exact zau hex ⟨g2,Y',m1,ziy hh,m4,m2,λk x hx=>(m6 k x hx).elim .inl (λ⟨_,h⟩=>h.elim)⟩ he
    ·rename_i n el hu;obtain⟨ie,hie⟩:=Option.isSome_iff_exists.1 hok;have hc0:zzu g e a.tmps w (λ_ _=>False) cs v.cells:=⟨hl,λk a' ha=>⟨(hk k a' ha).2.1,(hk k a' ha).1,(hk k a' ha).2.2 _ _ _ _ _⟩⟩
     have hpl:∀(j off:Nat) (ty:TypeId) (z:Nat),zgb P t j=some (off,ty)->zbj P ty=some z->(λi=>some (i*ie.size,ie.size)) j=some (off,z):=λj off ty z hft hsz=>by
      unfold zgb at hft;rw[hu]at hft;simp only at hft;split at hft
      ·rename_i z' hz';simp only[Option.some.injEq,Prod.mk.injEq]at hft;obtain⟨rfl,rfl⟩:=hft;rw[hsz]at hz';cases hz';obtain⟨i',d',q7,_,q8⟩:=zhb hsz;rw[hie]at q7;cases q7;simp[q8]
      ·cases hft
     obtain⟨g2,Y',cells,m1,m2,m3,m4,m5,m6⟩:=zl4 hpl h hc0 (zaw g e w) hfa
     have hb:P.built t (parts.map λ(i,x)=>(i,a.eval x)).toList=some cells:=by
      unfold Program.built;rw[hi,hu];simp only[hz,hie];rw[Array.toList_map];exact m5
     have hr:=run_build (P:=P) w t (parts.map λ(i,x)=>(i,a.eval x)) cells hb
     have hex:(execOp a.eval o).run P w=.ok (.value (.agg cells)) w:=by
      simp only[execOp,ho,Sem.run_bind,hr];rfl
     have hh:HoldV g2 e1 a.tmps w Y' (.agg as) (.agg cells):=⟨cells,rfl,m3.1,λk a' ha=>(m3.2 k a' ha).2⟩
     exact zau hex ⟨g2,Y',m1,ziy hh,m4,m2,λk x hx=>(m6 k x hx).elim .inl (λ⟨_,h⟩=>h.elim)⟩ he
    ·cases hok
   ·cases he
  ·cases he
 ·cases he
theorem zqv[Base]{P:Program}{g:G}{e:Env}{a:Act}{w:World}(h:Sim g e a.tmps w):∀{xs:List Operand} {caps:List Cap},zk8 P e xs=some caps->caps.length=xs.length/\ ∀(k:Nat) (c:Cap),caps[k]? =some c-> ∃x,xs[k]? =some x/\RepCap g e c (a.eval x)
 | [],caps,hc=>by
   simp only[zk8,Option.some.injEq]at hc;subst hc;exact⟨rfl,λk c hk=>by simp at hk⟩
 |x::r,caps,hc=>by
  have val:∀{p:A},za4 P e 0 x=some (.one p)->(∀d,p≠.own d)->HoldA g e a.tmps w (λ_=>False) p (a.eval x):=by
   intro p hp hno
   cases x with
   |tmp t=>
    simp only[za4,Option.some.injEq]at hp;have ht:=h.tv t;rw[hp]at ht;exact RepA.hold hno ht
   |const v=>
    simp only[za4]at hp;split at hp
    ·rename_i a' ha;simp only[Option.some.injEq,V.one.injEq]at hp;subst hp;rcases zgn ha with⟨d',rfl,hr⟩|⟨z,rfl,rfl⟩
     ·exact hr _
     ·exact absurd rfl (hno _)
    ·cases hp
   |func f=>
    simp only[za4,Option.some.injEq,V.one.injEq]at hp;subst hp;exact⟨#[],rfl,rfl,λk c hc=>by simp at hc⟩
   |global q=>cases hp
  have fin:∀{c:Cap} {cs:List Cap},zk8 P e r=some cs->RepCap g e c (a.eval x)->caps=c::cs->caps.length=(x::r).length/\ ∀(k:Nat) (c:Cap),caps[k]? =some c-> ∃y,(x::r)[k]? =some y/\RepCap g e c (a.eval y):=by
   rintro c cs hcs hrc rfl;obtain⟨h1,h2⟩:=zqv h hcs;refine⟨by simp[h1],λk c' hk=>?_⟩
   cases k with
   |zero=>
    simp only[List.getElem?_cons_zero,Option.some.injEq]at hk;subst hk;exact⟨x,rfl,hrc⟩
   |succ k=>
    obtain⟨y,h3,h4⟩:=h2 k c' (by simpa using hk)
    exact⟨y,by simpa using h3,h4⟩
  simp only[zk8]at hc;split at hc
  ·rename_i b cs hb hcs;simp only[Option.some.injEq]at hc;exact fin (c:=.ptr b) hcs (val hb (λd e=>by cases e)) hc.symm
  ·rename_i d cs hd hcs;simp only[Option.some.injEq]at hc;exact fin (c:=.ro d) hcs (val hd (λd e=>by cases e)) hc.symm
  ·cases hc
theorem zqw:∀{caps:List Cap} {ds:List D},zv4 caps=some ds->ds.length=caps.length/\ ∀(k:Nat) (d:D),ds[k]? =some d->caps[k]? =some (.ro d)
 | [],ds,h=>by
   simp only[zv4,Option.some.injEq]at h;subst h;exact⟨rfl,λk d hd=>by simp at hd⟩
 | .ptr b::r,ds,h=>by cases h
 | .ro d0::r,ds,h=>by
   simp only[zv4]at h;split at h
   ·rename_i ds' hds;obtain rfl:=Option.some.inj h;obtain⟨h1,h2⟩:=zqw hds;refine⟨by simp[h1],λk d hk=>?_⟩
    cases k with
    |zero=>
     simp only[List.getElem?_cons_zero,Option.some.injEq]at hk;subst hk;rfl
    |succ k=>simpa using h2 k d (by simpa using hk)
   ·cases h
theorem z28[Base]{g:G}{e:Env}{tm:Array Value}{w:World}{f:FuncId}{caps:List Cap}{v:Value}(h:HoldV g e tm w (λ_ _=>False) (.one (.fn f caps)) v):HoldV g e tm w (λ_ _=>False) (.one (fnA f caps)) v:=by
 cases caps with
 |nil=>exact h
 |cons c r=>
  simp only[fnA];split
  ·rename_i ds hds;obtain⟨h1,h2⟩:=zqw hds;obtain⟨vs,rfl,hs,hk⟩:=h;show RO g.c (.clo f ds) _;exact .clo (by rw[hs,h1]) (λm d hd=>hk m _ (h2 m d hd))
  ·exact h
theorem zqx[Base]{P:Program}{io:FuncId->List Nat}{call:zai}{g:G}{e e':Env}{a:Act}{w:World}(h:Sim g e a.tmps w){o:Oper}{f:FuncId}{first captured:Array Operand}(ho:o.op=.makeFunc (.func f) first captured)(he:evOp P io call e o=some e'):Stays P g e a w o e':=by
 simp only[evOp,ho]at he;split at he
 ·have hex:(execOp a.eval o).run P w=.ok (.value (.func (.func f) (first.map a.eval) (captured.map a.eval))) w:=by
   simp only[execOp,ho,Instr.makeFunc,Sem.run_bind,Sem.run_pure,Result.andThen_ok]
  have hh:HoldV g e a.tmps w (λ_ _=>False) (.one (.own .hole)) (.func (.func f) (first.map a.eval) (captured.map a.eval)):=OwnC.hole rfl
  exact zau hex (Holds.plain h hh) he
 split at he
 ·rename_i h0;split at he
  ·rename_i caps hcs;obtain⟨h1,h2⟩:=zqv h hcs;have hf:first= #[]:=Array.eq_empty_of_size_eq_zero h0
   have hex:(execOp a.eval o).run P w=.ok (.value (.func (.func f) #[] (captured.map a.eval))) w:=by
    simp only[execOp,ho,hf,Instr.makeFunc,Sem.run_bind,Sem.run_pure,Result.andThen_ok,List.map_toArray,List.map_nil]
   have hh:HoldV g e a.tmps w (λ_ _=>False) (.one (.fn f caps)) (.func (.func f) #[] (captured.map a.eval)):=by
    refine⟨_,rfl,by rw[Array.size_map,h1];exact Array.length_toList.symm,λk c hk=>?_⟩
    obtain⟨x,h3,h4⟩:=h2 k c hk;rw[Array.getElem?_toList]at h3;rw[Array.getD_eq_getD_getElem?,Array.getElem?_map,h3];exact h4
   exact zau hex (Holds.plain h (z28 hh)) he
  ·split at he
   ·rename_i ds e1 hds;have hf:first= #[]:=Array.eq_empty_of_size_eq_zero h0
    have hex:(execOp a.eval o).run P w=.ok (.value (.func (.func f) #[] (captured.map a.eval))) w:=by
     simp only[execOp,ho,hf,Instr.makeFunc,Sem.run_bind,Sem.run_pure,Result.andThen_ok,List.map_toArray,List.map_nil]
    obtain⟨g2,U,k1,k2,k3,k4,k5,k6⟩:=zl1 h hds;refine zau hex ⟨g2,λk x=>k=0/\ ∃j,U j x,k1,?_,⟨λk k' x hx hx' =>by rw[hx.1,hx'.1],λk s x ⟨_,j,hx⟩=>k5.S j s x hx,λk x b ⟨_,j,hx⟩=>k5.box j x b hx,λk x ⟨_,j,hx⟩=>k5.lt j x hx,λk x o v ⟨_,j,hx⟩=>k5.c j x o v hx⟩,k2,λk x ⟨_,j,hx⟩=>.inl (k6 j x hx)⟩ he
    show OwnC w (.clo f ds) _ _;refine .clo U (by rw[Array.size_map,k3];exact Array.length_toList.symm) (λm x hx=>⟨rfl,m,hx⟩) k5.one (λm d hd=>?_)
    have hm:m<captured.toList.length:=by rw[<-k3];exact(List.getElem?_eq_some_iff.1 hd).1
    have hx:captured.toList[m]? =some captured.toList[m]:=List.getElem?_eq_getElem hm;have:=k4 m d _ hd hx;rw[Array.getElem?_toList]at hx;rw[Array.getD_eq_getD_getElem?,Array.getElem?_map,hx];exact this
   ·cases he
 ·cases he
end Go.Qz
namespace Go.Qz
theorem zs6{P:Program}(w:World)(el:TypeId)(s:ByteArray):∃(cells:Array Value) (w':World),(Conv.stringToBytes el s).run P w=.ok (.slice (some ⟨w.heap.size,0,none⟩) s.size (grownCap w s.size 0 el)) w' /\w'.heap[w.heap.size]? =some (.cells cells el (cells.size,cells.size+1))/\cells.size=grownCap w s.size 0 el/\
 (∀(m:Nat) (b:UInt8),s.data[m]? =some b->cells[m]? =some (Value.int .u8 b.toNat))/\(∀x,x<w.heap.size->w'.heap[x]? =w.heap[x]?)/\w'.os=w.os/\w'.tape=w.tape/\w'.output=w.output:=by
 let cells:Array Value:=s.data.map (λb=>Value.int .u8 b.toNat)++Array.replicate (grownCap w s.size 0 el-s.size) (.int .u8 0)
 refine⟨cells,(w.drew.alloc (.cells cells el)).freeze ⟨w.heap.size,cells.size,none⟩ 1,?_,?_,?_,?_,?_,?_,?_,?_⟩
 ·have hsh:(w.drew.alloc (.cells cells el)).shape? w.heap.size=some (el,cells.size):=by
   have:=Go.heap_alloc_new w.drew (.cells cells el);have e:w.drew.heap.size=w.heap.size:=rfl;rw[e]at this;unfold World.shape?;rw[this]
  have e1:(choose (.appendCap s.size 0 el)).run P w=.ok (grownCap w s.size 0 el) w.drew:=by
   simp only[run_choose,Question.forced,grownCap];rfl
  simp only[Conv.stringToBytes,Sem.run_bind,e1,Result.andThen_ok,newRow,run_newObj,Sem.run_pure,markStringish,run_shape];have e2:({w.drew with heap:=w.drew.heap.push (.cells cells el)}:World)=w.drew.alloc (.cells cells el):=rfl
  have e3:w.drew.heap.size=w.heap.size:=rfl;simp only[e3];have e4:({w.drew with heap:=w.drew.heap.push (.cells (s.data.map (λb=>Value.int .u8 b.toNat)++Array.replicate (grownCap w s.size 0 el-s.size) (.int .u8 0)) el)}:World)=w.drew.alloc (.cells cells el):=rfl
  rw[e4,hsh];simp only[run_freeze,Result.andThen_ok]
 ·have:=Go.heap_alloc_new w.drew (.cells cells el);have e:w.drew.heap.size=w.heap.size:=rfl;rw[e]at this;simp only[World.freeze,if_neg (show ¬(1=0) by omega),Array.getElem?_modify,if_pos,this,Option.map_some]
  rfl
 ·have:=grownCap_ge w s.size 0 el;simp only[cells,Array.size_append,Array.size_map,Array.size_replicate];show s.size+_=_;omega
 ·intro m b hb;have hlt:=(Array.getElem?_eq_some_iff.1 hb).1;simp only[cells];rw[Array.getElem?_append_left (by simpa using hlt),Array.getElem?_map,hb]
  rfl
 ·intro x hx;have:=Go.heap_alloc_old w.drew (.cells cells el) x hx;simp only[World.freeze,if_neg (show ¬(1=0) by omega),Array.getElem?_modify]
  rw[if_neg (by omega),this]
  rfl
 ·rfl
 ·rfl
 ·rfl
theorem zo4{P:Program}{s d:TypeId}(h:zik P s d=true):∃el,P.underlying s=some .string/\P.underlying d=some (.slice el)/\P.underlying el=some (.int .u8):=by
 unfold zik at h;split at h
 ·rename_i el h1 h2;split at h
  ·rename_i h3;exact⟨el,h1,h2,h3⟩
  ·cases h
 ·cases h
theorem zwk[Base]{P:Program}(hT:zo2 P){g:G}{e e':Env}{a:Act}{w:World}(h:Sim g e a.tmps w){o:Oper}{V:V}(hp:zbe P e o.type o.op=some V)(he:zap e o.dst V=some e'):Stays P g e a w o e':=by
 obtain⟨u,hr,hh⟩:=z26 hT h hp;exact zau hr (Holds.plain h hh) he
theorem zl5[Base]{P:Program}(hT:zo2 P){g:G}{e e':Env}{a:Act}{w:World}(h:Sim g e a.tmps w){o:Oper}(he:(match zbe P e o.type o.op with|some v=>zap e o.dst v|none=>none)=some e'):Stays P g e a w o e':=by
 split at he
 ·rename_i V hV;exact zwk hT h hV he
 ·cases he
theorem zs7[Base]{P:Program}(hT:zo2 P){io:FuncId->List Nat}{call:zai}{g:G}{e e':Env}{a:Act}{w:World}(h:Sim g e a.tmps w){o:Oper}{s d:TypeId}{x:Operand}(ho:o.op=.convert s d x)(he:evOp P io call e o=some e'):Runs P g e a w o e':=by
 simp only[evOp,ho]at he;split at he
 ·rename_i str ht hs;split at he
  ·rename_i hle;obtain⟨el,h1,h2,h3⟩:=zo4 ht;have hsv:=(h.rd hs).str_inv;obtain⟨cells,w',hr,hblk,hcsz,hcell,hold,hos,htape,hout⟩:=zs6 (P:=P) w el str
   have hcv:(convert s d (.string str)).run P w=.ok (.slice (some ⟨w.heap.size,0,none⟩) str.size (grownCap w str.size 0 el)) w':=by
    rw[<-hr];simp[convert,run_underlying h1,run_underlying h2,run_underlying h3]
   have hex:(execOp a.eval o).run P w=.ok (.value (.slice (some ⟨w.heap.size,0,none⟩) str.size (grownCap w str.size 0 el))) w':=by
    simp only[execOp,ho,hsv,Sem.run_bind,hcv];rfl
   have hlen:(za2 str).length=str.size:=by unfold za2;rw[List.length_map,show str.data.toList.length=str.data.size from Array.length_toList];rfl
   have key:∀m d,((za2 str).flatMap D.cells)[m]? =some d->d.flat=true/\RO zzc d (cells.getD m undef)/\(cells.getD m undef).oneCell' =true:=by
    intro m d hm;rw[zcr (zbz str)]at hm;have hlt:m<str.data.size:=by have:=(List.getElem?_eq_some_iff.1 hm).1;rw[hlen]at this;exact this
    have q1:str.data[m]? =some str.data[m]:=Array.getElem?_eq_getElem hlt;rw[Array.getD_eq_getD_getElem?,hcell m _ q1];unfold za2 at hm;rw[List.getElem?_map,Array.getElem?_toList,q1]at hm;obtain rfl:=Option.some.inj hm;exact⟨rfl,.int _ _,rfl⟩
   have hone:∀x∈za2 str,x.cells.length=1:=λx hx=>by rw[zbz str x hx];rfl
   have hh:=zkd (z:=1) (cap:=grownCap w str.size 0 el) (xs:=za2 str) (el:=el) (cur:=cells) (U:=λ_ _=>False) h (Next.refl g e w) (zaw _ _ _) (λ_ _ hx=>hx.elim) hold hos htape hout ⟨_,hblk,.inr (Nat.le_refl _)⟩
    (by rw[hcsz,Nat.mul_one]) (by rw[hlen];exact grownCap_ge _ _ _ _) (grownCap_le_maxLen _ _ _ _ hle) Nat.one_pos hone
    (λm hm=>by
     rw[<-zat hone]at hm
     exact(key m _ (List.getElem?_eq_getElem hm)).2.2)
    (λm d hd=>.flat (key m d hd).1 (key m d hd).2.1)
   rw[hlen]at hh;exact zda hex hh he
  ·cases he
 ·rw[<-ho]at he;exact(zl5 hT h he).runs
def Op.callsValue:Op->Bool
 | .call {callee:=.value _,..}=>true
 |_=>false
theorem z29[Base]{P:Program}(hT:zo2 P){io:FuncId->List Nat}{call:zai}{g:G}{e e':Env}{a:Act}{w:World}(h:Sim g e a.tmps w){o:Oper}(hn:Op.callsValue o.op=false)(he:evOp P io call e o=some e'):Runs P g e a w o e':=by
 have rest:evOp P io call e o=(match zbe P e o.type o.op with|some v=>zap e o.dst v|none=>none)->Runs P g e a w o e':=λh1=>(zl5 hT h (by rw[<-h1];exact he)).runs
 cases hop:o.op with
 |move x=>exact(z27 h hop he).runs
 |assign x=>exact(zwg h hop he).runs
 |extract x i=>exact(zs2 h hop he).runs
 |alloc t=>exact zzm h hop he
 |box t x=>exact z5m h hop he
 |store t x y=>exact zzn h hop he
 |buildSlice t n parts=>exact zm5 h hop he
 |build t parts=>exact(zzw h hop he).runs
 |makeSlice t x y=>exact zo3 h hop he
 |slice t x lo hi mx=>exact(zzt h hop he).runs
 |convert s d x=>exact zs7 hT h hop he
 |makeFunc fn first captured=>
  cases fn with
  |func f=>exact(zqx h hop he).runs
  |_=>exact rest (by simp only[evOp,hop]<;>rfl)
 |call c=>
  obtain⟨callee,args,argTypes⟩:=c
  cases callee with
  |value f=>rw[hop]at hn;cases hn
  |invoke x m=>simp only[evOp,hop]at he;cases he
  |builtin b=>
   cases b with
   |append=>
    simp only[evOp,hop]at he;split at he
    ·rename_i x y t u ha ht;have ea:args= #[x,y]:=by apply Array.ext';simpa using ha
     have et:argTypes= #[t,u]:=by apply Array.ext';simpa using ht
     subst ea et;exact zqp h hop he
    ·cases he
   |_=>exact rest (by simp only[evOp,hop]<;>rfl)
 |_=>exact rest (by simp only[evOp,hop]<;>rfl)
end Go.Qz
namespace Go.Qz
open Classical
theorem zei:∀{m:List Lent},zax m=true-> ∀a∈m,a.okId=true
 | [],_,a,ha=>by cases ha
 |b::r,h,a,ha=>by
  simp only[zax,Bool.and_eq_true]at h
  cases ha with
  |head=>exact h.1.1
  |tail _ hm=>exact zei h.2 a hm
theorem zbm:∀{m:List Lent},zax m=true-> ∀a∈m,∀b∈m,a=b∨a.apart b=true∨b.apart a=true
 | [],_,a,ha,_,_=>by cases ha
 |c::r,h,a,ha,b,hb=>by
  simp only[zax,Bool.and_eq_true]at h;have h1:=List.all_eq_true.1 h.1.2
  cases ha with
  |head=>
   cases hb with
   |head=>exact .inl rfl
   |tail _ hm=>exact .inr (.inl (h1 b hm))
  |tail _ hm=>
   cases hb with
   |head=>exact .inr (.inr (h1 a hm))
   |tail _ hm' =>exact zbm h.2 a hm b hm'
section
variable{m:List Lent}(hm:zax m=true)
include hm
theorem z5n{n b b':Nat}(h:Lent.box n b∈m)(h':Lent.box n b' ∈m):b=b':=by
 rcases zbm hm _ h _ h' with e|e|e
 ·cases e;rfl
 ·simp[Lent.apart]at e
 ·simp[Lent.apart]at e
theorem zu8{n n' b:Nat}(h:Lent.box n b∈m)(h':Lent.box n' b∈m):n=n':=by
 rcases zbm hm _ h _ h' with e|e|e
 ·cases e;rfl
 ·simp[Lent.apart]at e
 ·simp[Lent.apart]at e
theorem z5o{n:Nat}{l l':Loc}(h:Lent.row n l∈m)(h':Lent.row n l' ∈m):l=l':=by
 rcases zbm hm _ h _ h' with e|e|e
 ·cases e;rfl
 ·simp[Lent.apart]at e
 ·simp[Lent.apart]at e
theorem z3a{n n':Nat}{l l':Loc}(h:Lent.row n l∈m)(h':Lent.row n' l' ∈m)(hr:l.root=l'.root):n=n' /\l=l':=by
 rcases zbm hm _ h _ h' with e|e|e
 ·cases e;exact⟨rfl,rfl⟩
 ·simp[Lent.apart,hr]at e
 ·simp[Lent.apart,hr]at e
theorem zs8{n b n':Nat}{l:Loc}(h:Lent.box n b∈m)(h':Lent.row n' l∈m):l.root.inBox b=false/\n≠n':=by
 rcases zbm hm _ h _ h' with e|e|e
 ·cases e
 ·simpa [Lent.apart]using e
 ·simp[Lent.apart]at e;exact⟨e.1,λh=>e.2 h.symm⟩
theorem z3b{n b:Nat}{r:Root}(h:Lent.box n b∈m)(h':Lent.read r∈m):r.inBox b=false:=by
 rcases zbm hm _ h _ h' with e|e|e
 ·cases e
 ·simpa [Lent.apart]using e
 ·simpa [Lent.apart]using e
theorem z3c{n:Nat}{l:Loc}{r:Root}(h:Lent.row n l∈m)(h':Lent.read r∈m):r≠l.root:=by
 rcases zbm hm _ h _ h' with e|e|e
 ·cases e
 ·simpa [Lent.apart]using e
 ·simpa [Lent.apart]using e
end
theorem zjv{r:Root}{b o:Nat}(h:r.inBox b=false):r.slot≠.cell b o:=by
 intro e
 cases r with
 |tmp t=>cases e
 |cell b' o' =>
  simp only[Root.slot,Slot.cell.injEq]at e;simp[Root.inBox,e.1]at h
theorem zu9{r r':Root}(h:r.slot=r'.slot):r=r':=Classical.byContradiction λhn=>zzf hn h
structure Focus(g:G)(e:Env)(tm:Array Value)(w:World)(l:Loc)(D0 d:D)(V v:Value)(U:Blk):Prop where
 root:e.root l.root=.own D0
 sub:D0.sub l.path=some d
 rootV:RootV g tm w l.root V
 path:PathV w V l.path v
 own:OwnC w d v U
 inS:∀x,U x->g.S l.root.slot x
 pathF:∀w':World,(∀x,g.S l.root.slot x-> ¬U x->w'.heap[x]? =w.heap[x]?)->PathV w' V l.path v
 re:∀(w':World) (d':D) (U':Blk),(∀x,g.S l.root.slot x-> ¬U x->w'.heap[x]? =w.heap[x]?)->OwnC w' d' v U' ->(l.path≠[]->d'.cells=[d'])->(∀x,U' x->g.S l.root.slot x->U x)->OwnC w' (D0.repl l.path d') V (λx=>(g.S l.root.slot x/\ ¬U x)∨U' x)
theorem Sim.focusAt[Base]{g:G}{e:Env}{tm:Array Value}{w:World}(h:Sim g e tm w){l:Loc}{d:D}(hl:e.ownAt l=some d):∃D0 V v U,Focus g e tm w l D0 d V v U:=by
 simp only[Env.ownAt]at hl;split at hl
 ·rename_i D0 hD;obtain⟨V,hV,ho⟩:=h.rootOwn hD;obtain⟨v,U,h1,h2,h3,h4,h5⟩:=ho.focus hl;exact⟨D0,V,v,U,hD,hl,hV,h1,h2,h3,h4,h5⟩
 ·cases hl
theorem Focus.conc{g:G}{e:Env}{tm:Array Value}{w:World}{l:Loc}{D0 d:D}{V v:Value}{U:Blk}(h:Focus g e tm w l D0 d V v U):ConcV g tm w l v:=⟨V,h.rootV,h.path⟩
theorem Sim.focuses[Base]{g:G}{e:Env}{tm:Array Value}{w:World}(h:Sim g e tm w):∃(VV vv:Loc->Value) (UU:Loc->Blk),∀l d,e.ownAt l=some d-> ∃D0,Focus g e tm w l D0 d (VV l) (vv l) (UU l):=by
 have key:∀l:Loc,∃p:Value×Value×Blk,∀d,e.ownAt l=some d-> ∃D0,Focus g e tm w l D0 d p.1 p.2.1 p.2.2:=by
  intro l
  cases hl:e.ownAt l with
  |none=>exact⟨(undef,undef,λ_=>False),λd hd=>by cases hd⟩
  |some d=>
   obtain⟨D0,V,v,U,hf⟩:=h.focusAt hl;exact⟨(V,v,U),λd' hd' =>by cases hd';exact⟨D0,hf⟩⟩
 obtain⟨f,hf⟩:=axiomOfChoice key;exact⟨λl=>(f l).1,λl=>(f l).2.1,λl=>(f l).2.2,hf⟩
def RdB(g:G)(m:List Lent):Blk:=λx=> ∃r,Lent.read r∈m/\g.S r.slot x
noncomputable def zaz(g:G)(w:World)(m:List Lent)(vv:Loc->Value)(UU:Loc->Blk):G where
 c:=λb o=>if RdB g m b then zbc w b o else g.c b o
 S:=λs=>match s with
  | .tmp _ _=> λ_=>False
  | .cell n o=> λx=>(∃b,Lent.box n b∈m/\g.S (.cell b o) x)∨(o=0/\ ∃l,Lent.row n l∈m/\UU l x)
 β:=λn=>if h:∃b,Lent.box n b∈m then g.β h.choose else 0
 γ:=λn=>if h:∃l,Lent.row n l∈m then vv h.choose else undef
theorem zej{g:G}{w:World}{m:List Lent}{vv:Loc->Value}{UU:Loc->Blk}(hm:zax m=true){n b:Nat}(h:Lent.box n b∈m):(zaz g w m vv UU).β n=g.β b:=by
 have hex:∃b,Lent.box n b∈m:=⟨b,h⟩;simp only[zaz,dif_pos hex];rw[z5n hm hex.choose_spec h]
theorem zl6{g:G}{w:World}{m:List Lent}{vv:Loc->Value}{UU:Loc->Blk}(hm:zax m=true){n:Nat}{l:Loc}(h:Lent.row n l∈m):(zaz g w m vv UU).γ n=vv l:=by
 have hex:∃l,Lent.row n l∈m:=⟨l,h⟩;simp only[zaz,dif_pos hex];rw[z5o hm hex.choose_spec h]
theorem zch{e:Env}:∀{m:List Lent} {bx:zas},zar e m=some bx-> ∀n cs,za5 n bx=some cs->(∃b,Lent.box n b∈m/\e.box b=some cs/\ ∀a∈cs,a.portable=true)∨(∃l d,Lent.row n l∈m/\cs=[.own d]/\e.ownAt l=some d)
 | [],bx,h,n,cs,hg=>by
   simp only[zar,Option.some.injEq]at h;subst h;cases hg
 | .box n' b::r,bx,h,n,cs,hg=>by
   simp only[zar]at h;split at h
   ·rename_i cs' hcs;split at h
    ·rename_i hp;split at h
     ·rename_i bx' hbx;obtain rfl:=Option.some.inj h;simp only[za5]at hg;split at hg
      ·rename_i e1;subst e1;obtain rfl:=Option.some.inj hg;exact .inl ⟨b,List.mem_cons_self,hcs,zeh hp⟩
      ·rcases zch hbx n cs hg with⟨b',h1,h2⟩|⟨l,d,h1,h2⟩
       ·exact .inl ⟨b',List.mem_cons_of_mem _ h1,h2⟩
       ·exact .inr ⟨l,d,List.mem_cons_of_mem _ h1,h2⟩
     ·cases h
    ·cases h
   ·cases h
 | .read q::r,bx,h,n,cs,hg=>by
   simp only[zar]at h;rcases zch h n cs hg with⟨b',h1,h2⟩|⟨l,d,h1,h2⟩
   ·exact .inl ⟨b',List.mem_cons_of_mem _ h1,h2⟩
   ·exact .inr ⟨l,d,List.mem_cons_of_mem _ h1,h2⟩
 | .row n' l::r,bx,h,n,cs,hg=>by
   simp only[zar]at h;split at h
   ·rename_i d hd;split at h
    ·rename_i bx' hbx;obtain rfl:=Option.some.inj h;simp only[za5]at hg;split at hg
     ·rename_i e1;subst e1;obtain rfl:=Option.some.inj hg;exact .inr ⟨l,d,List.mem_cons_self,rfl,hd⟩
     ·rcases zch hbx n cs hg with⟨b',h1,h2⟩|⟨l',d',h1,h2⟩
      ·exact .inl ⟨b',List.mem_cons_of_mem _ h1,h2⟩
      ·exact .inr ⟨l',d',List.mem_cons_of_mem _ h1,h2⟩
    ·cases h
   ·cases h
theorem zci{e:Env}:∀{m:List Lent} {bx:zas},zar e m=some bx-> ∀n b,Lent.box n b∈m->(e.box b).isSome=true
 | [],_,_,_,_,hm=>by cases hm
 | .box n' b' ::r,bx,h,n,b,hm=>by
   simp only[zar]at h;split at h
   ·rename_i cs' hcs;split at h
    ·split at h
     ·rename_i bx' hbx
      cases hm with
      |head=>rw[hcs];rfl
      |tail _ hm=>exact zci hbx n b hm
     ·cases h
    ·cases h
   ·cases h
 | .read q::r,bx,h,n,b,hm=>by
   simp only[zar]at h
   cases hm with
   |tail _ hm=>exact zci h n b hm
 | .row n' l::r,bx,h,n,b,hm=>by
   simp only[zar]at h;split at h
   ·split at h
    ·rename_i bx' hbx
     cases hm with
     |tail _ hm=>exact zci hbx n b hm
    ·cases h
   ·cases h
theorem zc0{e:Env}:∀{m:List Lent} {bx:zas},zar e m=some bx-> ∀n l,Lent.row n l∈m->(e.ownAt l).isSome=true
 | [],_,_,_,_,hm=>by cases hm
 | .box n' b' ::r,bx,h,n,b,hm=>by
   simp only[zar]at h;split at h
   ·split at h
    ·split at h
     ·rename_i bx' hbx
      cases hm with
      |tail _ hm=>exact zc0 hbx n b hm
     ·cases h
    ·cases h
   ·cases h
 | .read q::r,bx,h,n,b,hm=>by
   simp only[zar]at h
   cases hm with
   |tail _ hm=>exact zc0 h n b hm
 | .row n' l' ::r,bx,h,n,l,hm=>by
   simp only[zar]at h;split at h
   ·rename_i d hd;split at h
    ·rename_i bx' hbx
     cases hm with
     |head=>rw[hd];rfl
     |tail _ hm=>exact zc0 hbx n l hm
    ·cases h
   ·cases h
theorem zkh[Base]{g:G}{e:Env}{tm:Array Value}{w:World}(h:Sim g e tm w){m:List Lent}(hm:zax m=true){bx:zas}(hbx:zar e m=some bx){vv VV:Loc->Value}{UU:Loc->Blk}(hfoc:∀l d,e.ownAt l=some d-> ∃D0,Focus g e tm w l D0 d (VV l) (vv l) (UU l))
 {as:List A} {vs:Array Value} (hsz:vs.size=as.length) (hargs:∀k a,as[k]? =some a->RepA (zaz g w m vv UU) (zak as.length as bx) vs w (.tmp k 0) a (vs.getD k undef)):
 Sim (zaz g w m vv UU) (zak as.length as bx) vs w:=by
 have hok:=zei hm
 have hrow:∀n l,Lent.row n l∈m-> ∀x,UU l x->g.S l.root.slot x:=by
  intro n l hl x hx;obtain⟨d,hd⟩:=Option.isSome_iff_exists.1 (zc0 hbx n l hl);obtain⟨D0,hf⟩:=hfoc l d hd;exact hf.inS x hx
 have hid:∀n,((zak as.length as bx).box n).isSome=true->(∃b,Lent.box n b∈m)∨(∃l,Lent.row n l∈m):=by
  intro n hn;obtain⟨cs,hcs⟩:=Option.isSome_iff_exists.1 hn;rcases zch hbx n cs hcs with⟨b,h1,_⟩|⟨l,d,h1,_⟩
  ·exact .inl ⟨b,h1⟩
  ·exact .inr ⟨l,h1⟩
 have hnr:∀n l,Lent.row n l∈m->zab<=n:=by
  intro n l hl;have:=hok _ hl;simpa [Lent.okId]using this
 have hnb:∀n b,Lent.box n b∈m->zaq<=n/\n<zab/\b<zab:=by
  intro n b hb;have:=hok _ hb;simp only[Lent.okId,Bool.and_eq_true,decide_eq_true_eq]at this;exact⟨this.1.1,Nat.lt_trans this.1.2 (by decide),this.2⟩
 have hSb:∀s x,(zaz g w m vv UU).S s x->(∃n o b,s=.cell n o/\Lent.box n b∈m/\g.S (.cell b o) x)∨(∃n l,s=.cell n 0/\Lent.row n l∈m/\UU l x):=by
  intro s x hx
  cases s with
  |tmp t k=>exact hx.elim
  |cell n o=>
   rcases hx with⟨b,h1,h2⟩|⟨rfl,l,h1,h2⟩
   ·exact .inl ⟨n,o,b,rfl,h1,h2⟩
   ·exact .inr ⟨n,l,rfl,h1,h2⟩
 have hSg:∀s x,(zaz g w m vv UU).S s x-> ∃s',g.S s' x:=by
  intro s x hx;rcases hSb s x hx with⟨n,o,b,_,_,h2⟩|⟨n,l,_,h1,h2⟩
  ·exact⟨_,h2⟩
  ·exact⟨_,hrow n l h1 x h2⟩
 have hβ:∀n,((zak as.length as bx).box n).isSome=true->n<zab-> ∃b,Lent.box n b∈m/\(zaz g w m vv UU).β n=g.β b/\(e.box b).isSome=true/\b<zab:=by
  intro n hn hlt;rcases hid n hn with⟨b,hb⟩|⟨l,hl⟩
  ·exact⟨b,hb,zej hm hb,zci hbx n b hb,(hnb n b hb).2.2⟩
  ·have:=hnr n l hl;omega
 have hcle:g.c.le (zaz g w m vv UU).c:=by
  intro b o v hv;have:¬RdB g m b:=λ⟨r,_,hr⟩=>(h.cdis b o v hv).1 _ hr
  simp only[zaz,if_neg this];exact hv
 refine{
  size:=by rw[hsz];exact Nat.le_refl _
  tv:=λt=>?_
  bx:=λn cs hcs=>?_
  binj:=λn n' hn hn' hlt hlt' he=>?_
  sdis:=λs s' x hx hx' =>?_
  sbox:=λs n x hx hn hlt=>?_
  slt:=λs x hx=>?_
  cmem:=λb o v hv=>?_
  base:=λb o v hv=>hcle _ _ _ (h.base b o v hv)
  fix:=h.fix
  cdis:=λb o v hv=>?_}
 ·show RepV _ _ _ _ t (match as[t]? with|some a=>.one a|none=>.undef) _
  cases ht:as[t]? with
  |some a=>exact hargs t a ht
  |none=>
   have:as.length<=t:=List.getElem?_eq_none_iff.1 ht;show vs.getD t undef=undef;rw[Array.getD_eq_getD_getElem?,Array.getElem?_eq_none (by omega)]
   rfl
 ·rcases zch hbx n cs hcs with⟨b,h1,h2,h3⟩|⟨l,d,h1,rfl,h3⟩
  ·have hn:=hnb n b h1;have hbr:=h.bx b cs h2;unfold RepBox at hbr ⊢;rw[if_neg (by omega)]at hbr
   rw[if_neg (by omega),zej hm h1]
   obtain⟨arr,el,q1,q2,q3⟩:=hbr;refine⟨arr,el,q1,q2,λo a ha=>?_⟩
   obtain⟨p1,p2,p3⟩:=q3 o a ha;refine⟨p1,p2,?_⟩
   cases a with
   |own d=>exact OwnC.mono (λx hx=>.inl ⟨b,h1,hx⟩) p3
   |ro d=>exact RO.mono hcle p3
   |selfp=>
    obtain⟨b',o',e1,hv⟩:=p3;cases e1;exact⟨n,o,rfl,λ_=>by rw[zej hm h1];exact hv hn.2.2⟩
   |bnil t=>
    obtain⟨e0,b',o',e1,hv⟩:=p3;cases e1;exact⟨e0,n,o,rfl,λ_=>by rw[zej hm h1];exact hv hn.2.2⟩
   |fn f caps=>
    cases caps with
    |nil=>obtain⟨vs',e1,hs,_⟩:=p3;exact⟨vs',e1,hs,λk c hc=>by simp at hc⟩
    |cons c r=>simp[A.portable]at p1
   |undef=>exact p3
   |dead=>trivial
   |view l=>simp[A.portable]at p1
   |ptr b o=>simp[A.portable]at p1
   |eptr l z i o=>simp[A.portable]at p1
   |pview l i k=>simp[A.portable]at p1
   |rptr ds=>simp[A.portable]at p1
  ·have hn:=hnr n l h1;unfold RepBox;rw[if_pos hn];refine⟨_,rfl,rfl,?_⟩;obtain⟨D0,hf⟩:=hfoc l d h3;rw[zl6 hm h1];exact hf.own.mono (λx hx=>.inr ⟨rfl,l,h1,hx⟩)
 ·obtain⟨b,h1,h2,h3,h4⟩:=hβ n hn hlt;obtain⟨b',h1',h2',h3',h4'⟩:=hβ n' hn' hlt';rw[h2,h2']at he;have:=h.binj b b' h3 h3' h4 h4' he;subst this;exact zu8 hm h1 h1'
 ·rcases hSb s x hx with⟨n,o,b,rfl,h1,h2⟩|⟨n,l,rfl,h1,h2⟩<;>rcases hSb s' x hx' with⟨n',o',b',rfl,h1',h2'⟩|⟨n',l',rfl,h1',h2'⟩
  ·have:=h.sdis _ _ _ h2 h2';cases this;rw[zu8 hm h1 h1']
  ·exact absurd (h.sdis _ _ _ (hrow n' l' h1' x h2') h2) (zjv (zs8 hm h1 h1').1)
  ·exact absurd (h.sdis _ _ _ (hrow n l h1 x h2) h2') (zjv (zs8 hm h1' h1).1)
  ·have:=zu9 (h.sdis _ _ _ (hrow n l h1 x h2) (hrow n' l' h1' x h2'));rw[(z3a hm h1 h1' this).1]
 ·obtain⟨b,h1,h2,h3,h4⟩:=hβ n hn hlt;obtain⟨s',hs'⟩:=hSg s x hx;rw[h2];exact h.sbox s' b x hs' h3 h4
 ·obtain⟨s',hs'⟩:=hSg s x hx;exact h.slt s' x hs'
 ·have hv':(if RdB g m b then zbc w b o else g.c b o)=some v:=hv
  split at hv'
  ·exact hv'
  ·exact h.cmem b o v hv'
 ·have hv':(if RdB g m b then zbc w b o else g.c b o)=some v:=hv
  split at hv'
  ·rename_i hr;obtain⟨r,hr1,hr2⟩:=hr;refine⟨λs hx=>?_,λn hn hlt=>?_⟩
   ·rcases hSb s b hx with⟨n,o',b',rfl,h1,h2⟩|⟨n,l,rfl,h1,h2⟩
    ·exact zjv (z3b hm h1 hr1) (h.sdis _ _ _ hr2 h2)
    ·exact z3c hm h1 hr1 (zu9 (h.sdis _ _ _ hr2 (hrow n l h1 b h2)))
   ·obtain⟨b',h1,h2,h3,h4⟩:=hβ n hn hlt;rw[h2];exact h.sbox _ b' b hr2 h3 h4
  ·refine⟨λs hx=>?_,λn hn hlt=>?_⟩
   ·obtain⟨s',hs'⟩:=hSg s b hx;exact(h.cdis b o v hv').1 s' hs'
   ·obtain⟨b',h1,h2,h3,h4⟩:=hβ n hn hlt;rw[h2];exact(h.cdis b o v hv').2 b' h3 h4
theorem zfv{g:G}{e:Env}{tm:Array Value}{w:World}{m:List Lent}(hm:zax m=true){bx:zas}(hbx:zar e m=some bx){vv VV:Loc->Value}{UU:Loc->Blk}(hfoc:∀l d,e.ownAt l=some d-> ∃D0,Focus g e tm w l D0 d (VV l) (vv l) (UU l)){as:List A}{x:Nat}
 (hx:Mine (zaz g w m vv UU) (zak as.length as bx) x):(∃n b o,Lent.box n b∈m/\g.S (.cell b o) x)∨(∃n l,Lent.row n l∈m/\UU l x/\g.S l.root.slot x)∨(∃n b,Lent.box n b∈m/\(e.box b).isSome=true/\b<zab/\g.β b=x):=by
 have hok:=zei hm;rcases hx with⟨s,hs⟩|⟨n,hn,hlt,hβ⟩
 ·cases s with
  |tmp t k=>exact hs.elim
  |cell n o=>
   rcases hs with⟨b,h1,h2⟩|⟨rfl,l,h1,h2⟩
   ·exact .inl ⟨n,b,o,h1,h2⟩
   ·refine .inr (.inl ⟨n,l,h1,h2,?_⟩);obtain⟨d,hd⟩:=Option.isSome_iff_exists.1 (zc0 hbx n l h1);obtain⟨D0,hf⟩:=hfoc l d hd;exact hf.inS x h2
 ·obtain⟨cs,hcs⟩:=Option.isSome_iff_exists.1 hn;rcases zch hbx n cs hcs with⟨b,h1,h2,_⟩|⟨l,d,h1,_⟩
  ·rw[zej hm h1]at hβ;have:=hok _ h1;simp only[Lent.okId,Bool.and_eq_true,decide_eq_true_eq]at this;exact .inr (.inr ⟨n,b,h1,by rw[h2];rfl,this.2,hβ⟩)
  ·have:=hok _ h1;simp only[Lent.okId,decide_eq_true_eq]at this;omega
end Go.Qz
namespace Go.Qz
open Classical
def zs9(g:G)(e:Env)(tm:Array Value)(w:World):V×Option Nat->Value->Prop
 |(.one (.own d),some t),v=>e.get t=.one (.own d)/\v=tm.getD t undef
 |(.one (.own d),none),v=>OwnC w d v (λ_=>False)
 |(.one a,_),v=>HoldA g e tm w (λ_=>False) a v
 |(.agg as,_),v=> ∃vs:Array Value,v=.agg vs/\vs.size=as.length/\ ∀k a,as[k]? =some a->(vs.getD k undef).oneCell' =true/\(a.isOwn=false->HoldA g e tm w (λ_=>False) a (vs.getD k undef))
 |(.tup _,_),_=>True
structure CallCtx[Base](g:G)(e:Env)(tm:Array Value)(w:World)(m:List Lent)(bx:zas)(vv VV:Loc->Value)(UU:Loc->Blk):Prop where
 sim:Sim g e tm w
 apart:zax m=true
 boxes:zar e m=some bx
 foc:∀l d,e.ownAt l=some d-> ∃D0,Focus g e tm w l D0 d (VV l) (vv l) (UU l)
section
variable[Base]{g:G}{e:Env}{tm:Array Value}{w:World}{m:List Lent}{bx:zas}{vv VV:Loc->Value}{UU:Loc->Blk}(C:CallCtx g e tm w m bx vv VV UU)
include C
theorem CallCtx.cle:g.c.le (zaz g w m vv UU).c:=by
 intro b o v hv;have:¬RdB g m b:=λ⟨r,_,hr⟩=>(C.sim.cdis b o v hv).1 _ hr
 simp only[zaz,if_neg this];exact hv
theorem CallCtx.read{d:D}{v:Value}{T:Blk}{r:Root}(hr:Lent.read r∈m)(ho:OwnC w d v T)(hT:∀x,T x->g.S r.slot x):RO (zaz g w m vv UU).c d v:=
 ho.toRO (λb o u hb hu=>by
  have _:=C.boxes;have:RdB g m b:=⟨r,hr,hT b hb⟩;simp only[zaz,if_pos this]
  exact hu)
theorem CallCtx.box{n b o:Nat}(hb:Lent.box n b∈m){s:Slot}{n':Nat}{vs:Array Value}{as:List A}{v:Value}(h:(e.box b).isSome=true->b<zab->v=.pointer (some ⟨g.β b,o,none⟩)):RepA (zaz g w m vv UU) (zak n' as bx) vs w s (.ptr n o) v:=by
 intro _ _;rw[zej C.apart hb];have:=zei C.apart _ hb;simp only[Lent.okId,Bool.and_eq_true,decide_eq_true_eq]at this;exact h (zci C.boxes n b hb) this.2
theorem CallCtx.caps:∀{caps caps':List Cap} {n k:Nat} {m':List Lent},zcp e n caps k=some (caps',m')->(∀a∈m',a∈m)-> ∀{as:List A} {n':Nat} (f:Nat->Value),(∀j c,caps[j]? =some c->RepCap g e c (f j))->
 caps'.length=caps.length/\ ∀j c,caps'[j]? =some c->RepCap (zaz g w m vv UU) (zak n' as bx) c (f j)
 | [],caps',n,k,m',h,_,as,n',f,_=>by
   simp only[zcp,Option.some.injEq,Prod.mk.injEq]at h;obtain⟨rfl,rfl⟩:=h;exact⟨rfl,λj c hj=>by simp at hj⟩
 | .ro d::r,caps',n,k,m',h,hsub,as,n',f,hf=>by
   simp only[zcp]at h;split at h
   ·rename_i cs m1 h1;simp only[Option.some.injEq,Prod.mk.injEq]at h;obtain⟨rfl,rfl⟩:=h;obtain⟨k1,k2⟩:=CallCtx.caps h1 hsub (as:=as) (n':=n') (λj=>f (j+1)) (λj c hj=>hf (j+1) c (by simpa using hj))
    refine⟨by simp[k1],λj c hj=>?_⟩
    cases j with
    |zero=>
     simp only[List.getElem?_cons_zero,Option.some.injEq]at hj;subst hj;exact RO.mono C.cle (hf 0 _ rfl)
    |succ j=>exact k2 j c (by simpa using hj)
   ·cases h
 | .ptr b::r,caps',n,k,m',h,hsub,as,n',f,hf=>by
   simp only[zcp]at h;split at h
   ·rename_i cs m1 h1;simp only[Option.some.injEq,Prod.mk.injEq]at h;obtain⟨rfl,rfl⟩:=h;obtain⟨k1,k2⟩:=CallCtx.caps h1 (λa ha=>hsub a (List.mem_cons_of_mem _ ha)) (as:=as) (n':=n') (λj=>f (j+1)) (λj c hj=>hf (j+1) c (by simpa using hj))
    refine⟨by simp[k1],λj c hj=>?_⟩
    cases j with
    |zero=>
     simp only[List.getElem?_cons_zero,Option.some.injEq]at hj;subst hj;exact C.box (hsub _ List.mem_cons_self) (s:=.tmp 0 0) (vs:=#[]) (as:=as) (n':=n') (hf 0 _ rfl)
    |succ j=>exact k2 j c (by simpa using hj)
   ·cases h
theorem CallCtx.lend1{n:Nat}{wr:Bool}{x:Option Nat}{V:V}{v:Value}{a:A}{m':List Lent}(hl:lend1 e n wr x V=some (a,m'))(hsub:∀a∈m',a∈m)(hv:zs9 g e tm w (V,x) v){vs':Array Value}{as:List A}{n':Nat}{j:Nat}:
 RepA (zaz g w m vv UU) (zak n' as bx) vs' w (.tmp j 0) a v:=by
 have hview:∀(l:Loc) (d:D),e.ownAt l=some d->Lent.row (zab+n) l∈m->ConcV g tm w l v->RepA (zaz g w m vv UU) (zak n' as bx) vs' w (.tmp j 0) (.view ⟨.cell (zab+n) 0,[]⟩) v:=by
  intro l d hd hmem hcv d' _;obtain⟨D0,hf⟩:=C.foc l d hd;refine⟨v,?_,rfl⟩;simp only[RootV];rw[if_pos (Nat.le_add_right _ _),zl6 C.apart hmem];exact hf.conc.det hcv
 unfold Qz.lend1 at hl;split at hl
 ·rename_i b o;split at hl
  ·rename_i h0;simp only[Option.some.injEq,Prod.mk.injEq]at hl;obtain⟨rfl,rfl⟩:=hl;subst h0;exact C.box (hsub _ List.mem_cons_self) hv
  ·cases hl
 ·rename_i f caps;split at hl
  ·rename_i cs m1 h1;simp only[Option.some.injEq,Prod.mk.injEq]at hl;obtain⟨rfl,rfl⟩:=hl;obtain⟨vs,rfl,hs,hk⟩:=hv;obtain⟨k1,k2⟩:=CallCtx.caps C h1 hsub (as:=as) (n':=n') (λj=>vs.getD j undef) hk
   exact⟨vs,rfl,by omega,k2⟩
  ·cases hl
 ·rename_i ds;simp only[Option.some.injEq,Prod.mk.injEq]at hl;obtain⟨rfl,rfl⟩:=hl;obtain⟨b,off,rfl,hd⟩:=hv;refine⟨b,off,rfl,λk d hk=>?_⟩
  obtain⟨u,h1,h2,h3⟩:=hd k d hk;exact⟨u,C.cle _ _ _ h1,h2,h3.mono C.cle⟩
 ·rename_i d;split at hl
  ·rename_i t;obtain⟨ht,rfl⟩:=hv;have hown:e.ownAt ⟨.tmp t,[]⟩=some d:=by simp[Env.ownAt,Env.root,ht,D.sub]
   split at hl
   ·simp only[Option.some.injEq,Prod.mk.injEq]at hl;obtain⟨rfl,rfl⟩:=hl;exact hview ⟨.tmp t,[]⟩ d hown (hsub _ List.mem_cons_self) ⟨_,rfl,rfl⟩
   ·simp only[Option.some.injEq,Prod.mk.injEq]at hl;obtain⟨rfl,rfl⟩:=hl;have htv:=C.sim.tv t;rw[ht]at htv;exact C.read (r:=.tmp t) (hsub _ List.mem_cons_self) htv (λx hx=>hx)
  ·split at hl
   ·split at hl
    ·cases hl
    ·simp only[Option.some.injEq,Prod.mk.injEq]at hl;obtain⟨rfl,rfl⟩:=hl;exact OwnC.toRO hv (λb o u hb _=>hb.elim)
   ·cases hl
 ·rename_i l;split at hl
  ·rename_i d hd;have hcv:=hv d hd;split at hl
   ·split at hl
    ·cases hl
    ·simp only[Option.some.injEq,Prod.mk.injEq]at hl;obtain⟨rfl,rfl⟩:=hl;exact hview l d hd (hsub _ List.mem_cons_self) hcv
   ·simp only[Option.some.injEq,Prod.mk.injEq]at hl;obtain⟨rfl,rfl⟩:=hl;obtain⟨v',U,h1,h2,h3,_⟩:=C.sim.ownAt hd;obtain rfl:=hcv.det h1;exact C.read (r:=l.root) (hsub _ List.mem_cons_self) h2 h3
  ·cases hl
 ·rename_i l i k;split at hl
  ·rename_i z xs hd;split at hl
   ·rename_i hc;obtain⟨_,hik,hk⟩:=hc;simp only[Option.some.injEq,Prod.mk.injEq]at hl;obtain⟨rfl,rfl⟩:=hl;obtain⟨av,n,cap,hcv,rfl⟩:=hv z xs hd hk;obtain⟨v',U,h1,h2,h3,_⟩:=C.sim.ownAt hd;obtain rfl:=hcv.det h1;exact RO.part (C.read (r:=l.root) (hsub _ List.mem_cons_self) h2 h3) hik hk
   ·cases hl
  ·cases hl
 ·rename_i d;simp only[Option.some.injEq,Prod.mk.injEq]at hl;obtain⟨rfl,rfl⟩:=hl;exact RO.mono C.cle hv
 ·rename_i as0;split at hl
  ·cases hl
  ·rename_i hno0;have hno:¬as0.any A.isOwn=true:=λh=>hno0 (by rw[h,Bool.or_true])
   split at hl
   ·rename_i ds hds;simp only[Option.some.injEq,Prod.mk.injEq]at hl;obtain⟨rfl,rfl⟩:=hl;obtain⟨vs,rfl,hs,hk⟩:=hv;obtain⟨k1,k2⟩:=zlp hds
    have hreads:∀{l:Loc} {as:List A},A.view l∈as->Lent.read l.root∈zk4 as:=by
     intro l as
     induction as with
     |nil=>intro h;cases h
     |cons a r ih=>
      intro h
      cases h with
      |head=>exact List.mem_cons_self
      |tail _ h=>
       have:=ih h;cases a<;>first|exact this|exact List.mem_cons_of_mem _ this
    refine .agg (by omega) (λk hk' =>(hk k _ (List.getElem?_eq_getElem (by omega))).1) (λk d hd=>?_)
    obtain⟨a,h1,h2⟩:=k2 k d hd;have hmem:=List.mem_of_getElem? h1
    have hown:a.isOwn=false:=by
     cases ha:a.isOwn with
     |false=>rfl
     |true=>exact absurd (List.any_eq_true.2 ⟨a,hmem,ha⟩) hno
    have hh:=(hk k a h1).2 hown
    cases a with
    |ro d' =>
     simp only[A.data,Option.some.injEq]at h2;subst h2;exact RO.mono C.cle hh
    |own d' =>cases hown
    |view l=>
     simp only[A.data]at h2;obtain⟨v',U,q1,q2,q3,_⟩:=C.sim.ownAt h2;obtain rfl:=(hh d h2).det q1;exact C.read (r:=l.root) (hsub _ (hreads hmem)) q2 q3
    |_=>cases h2
   ·cases hl
 ·cases hl
theorem CallCtx.args{io:List Nat}:∀{xs:List (V×Option Nat)} {n:Nat} {as0:List A} {m':List Lent},lend e io n xs=some (as0,m')->(∀a∈m',a∈m)-> ∀(f:Nat->Value),(∀(k:Nat) x,xs[k]? =some x->zs9 g e tm w x (f k))->
 ∀{vs':Array Value} {as:List A} {n':Nat},as0.length=xs.length/\ ∀(k:Nat) (a:A),as0[k]? =some a-> ∀j,RepA (zaz g w m vv UU) (zak n' as bx) vs' w (.tmp j 0) a (f k)
 | [],n,as0,m',h,_,f,_,vs',as,n' =>by
   simp only[lend,Option.some.injEq,Prod.mk.injEq]at h;obtain⟨rfl,rfl⟩:=h;exact⟨rfl,λk a ha=>by simp at ha⟩
 |(V,x)::r,n,as0,m',h,hsub,f,hf,vs',as,n' =>by
  simp only[lend]at h;split at h
  ·rename_i a m1 h1;split at h
   ·rename_i as1 m2 h2;simp only[Option.some.injEq,Prod.mk.injEq]at h;obtain⟨rfl,rfl⟩:=h;obtain⟨k1,k2⟩:=CallCtx.args h2 (λa ha=>hsub a (List.mem_append_right _ ha)) (λk=>f (k+1)) (λk x hx=>hf (k+1) x (by simpa using hx)) (vs':=vs') (as:=as) (n':=n')
    refine⟨by simp[k1],λk a' ha j=>?_⟩
    cases k with
    |zero=>
     simp only[List.getElem?_cons_zero,Option.some.injEq]at ha;subst ha;exact C.lend1 h1 (λa ha=>hsub a (List.mem_append_left _ ha)) (hf 0 _ rfl)
    |succ k=>exact k2 k a' (by simpa using ha) j
   ·cases h
  ·cases h
end
end Go.Qz
namespace Go.Qz
open Classical
theorem zgq(b:Nat):zgm (A.killIn b) (λl=>l.root.inBox b=false) (λ_=>True):=by
 intro a
 cases a with
 |view l=>by_cases h:l.root.inBox b=true<;>simp[A.killIn,h,A.okRefs]
 |eptr l z i o=>by_cases h:l.root.inBox b=true<;>simp[A.killIn,h,A.okRefs]
 |pview l i k=>by_cases h:l.root.inBox b=true<;>simp[A.killIn,h,A.okRefs]
 |_=>exact .inr ⟨rfl,by simp[A.okRefs]⟩
def G.reS(g:G)(d:Nat)(Y:Nat->Blk):G:=
 {c:=g.c
  S:=λs=>match s with
   | .cell b o=>if b=d then Y o else g.S (.cell b o)
   | .tmp t k=>g.S (.tmp t k)
  β:=g.β
  γ:=g.γ}
theorem zek{g:G}{d:Nat}{Y:Nat->Blk}{s:Slot}{x:Nat}(hx:(g.reS d Y).S s x):(∃o,s=.cell d o/\Y o x)∨((∀o,s≠.cell d o)/\g.S s x):=by
 cases s with
 |tmp t k=>exact .inr ⟨λo e=>(by cases e),hx⟩
 |cell b o=>
  simp only[G.reS]at hx;split at hx
  ·rename_i e;subst e;exact .inl ⟨o,rfl,hx⟩
  ·rename_i e;exact .inr ⟨λo' e' =>e (by cases e';rfl),hx⟩
theorem Sim.rebox[Base]{g:G}{e:Env}{tm:Array Value}{w:World}(h:Sim g e tm w){b:Nat}(hb:(e.box b).isSome=true)(hlt:b<zab){cs:List A}{arr:Array Value}{el:TypeId}{Y:Nat->Blk}(hblk:w.heap[g.β b]? =some (.cells arr el (0,0)))(hl:arr.size=cs.length)
 (hc:∀o a,cs[o]? =some a->a.portable=true/\(arr.getD o undef).oneCell' =true/\RepA (g.reS b Y) e tm w (.cell b o) a (arr.getD o undef)) (hf:Free g e w Y):Sim (g.reS b Y) ((e.mapA (A.killIn b)).setBox b cs) tm w:=by
 have box_new:∀b',((e.mapA (A.killIn b)).setBox b cs).box b' =if b' =b then some cs else e.box b':=λb' =>rfl
 have get_new:∀t,((e.mapA (A.killIn b)).setBox b cs).get t=(e.get t).mapA (A.killIn b):=λt=>rfl
 have hsome:∀b',(((e.mapA (A.killIn b)).setBox b cs).box b').isSome=(e.box b').isSome:=by
  intro b';rw[box_new];split
  ·rename_i e1;subst e1;rw[hb];rfl
  ·rfl
 have hroot:∀r:Root,r.inBox b=false-> ∀D,((e.mapA (A.killIn b)).setBox b cs).root r=.own D->e.root r=.own D:=by
  intro r hr D hD
  cases r with
  |tmp t=>
   simp only[Env.root,get_new]at hD ⊢
   cases hV:e.get t with
   |one a=>
    rw[hV]at hD;simp only[V.mapA]at hD ⊢;exact zef (zgq b) _ _ hD
   |tup as=>rw[hV]at hD;cases hD
   |agg as=>rw[hV]at hD;cases hD
  |cell b' o=>
   have hne:b' ≠b:=by simpa [Root.inBox]using hr
   simp only[Env.root,box_new,if_neg hne]at hD ⊢;exact hD
 have K:zcy g e tm w (g.reS b Y) ((e.mapA (A.killIn b)).setBox b cs) tm w (λl=>l.root.inBox b=false) (λ_=>True):=by
  refine⟨λ_ _ _ hx=>hx,λl hl' d' hd' =>?_,λb' _ hbs _=>⟨by rw[hsome]at hbs;exact hbs,rfl⟩⟩
  have hd:e.ownAt l=some d':=by
   simp only[Env.ownAt]at hd' ⊢;split at hd'
   ·rename_i D1 hD1;rw[hroot _ hl' _ hD1];exact hd'
   ·cases hd'
  refine⟨d',hd,λz xs' e=>⟨xs',e,Nat.le_refl _⟩,λv hv=>?_⟩
  obtain⟨V,hV,hp⟩:=hv;refine⟨V,?_,hp⟩
  cases hq:l.root with
  |tmp t=>rw[hq]at hV;exact hV
  |cell b' o=>rw[hq]at hV;exact hV
 refine{
  size:=h.size
  tv:=λt=>?_
  bx:=λb' cs' hcs' =>?_
  binj:=λb1 b2 h1 h2=>by rw[hsome]at h1 h2;exact h.binj b1 b2 h1 h2
  sdis:=λs s' x hx hx' =>?_
  sbox:=λs b' x hx hb' hlt' =>?_
  slt:=λs x hx=>?_
  cmem:=h.cmem
  base:=h.base
  fix:=h.fix
  cdis:=λb' o v hv=>⟨λs hx=>?_,λid hid=>by rw[hsome]at hid;exact(h.cdis b' o v hv).2 id hid⟩}
 ·rw[get_new];exact(h.tv t).kill K (zgq b) (λk x hx=>⟨hx,rfl⟩)
 ·rw[box_new]at hcs';by_cases e1:b' =b
  ·subst e1;rw[if_pos rfl]at hcs';obtain rfl:=Option.some.inj hcs';unfold RepBox;rw[if_neg (by omega)]
   refine⟨arr,el,hblk,hl,λo a ha=>?_⟩
   obtain⟨p1,p2,p3⟩:=hc o a ha;refine⟨p1,p2,?_⟩
   have K2:zcy (g.reS b' Y) e tm w (g.reS b' Y) ((e.mapA (A.killIn b')).setBox b' cs) tm w (λl=>l.root.inBox b' =false) (λ_=>True):=by
    refine⟨λ_ _ _ hx=>hx,λl hl' d' hd' =>?_,K.box⟩
    obtain⟨d,h1,h2,h3⟩:=K.loc l hl' d' hd';refine⟨d,h1,h2,λv hv=>h3 v ?_⟩
    obtain⟨V,hV,hp⟩:=hv;refine⟨V,?_,hp⟩
    cases hq:l.root with
    |tmp t=>rw[hq]at hV;exact hV
    |cell b' o=>rw[hq]at hV;exact hV
   exact p3.keep K2 (zcq p1 _ _) (λ_ _ x hx=>⟨hx,rfl⟩) (λ_=>⟨rfl,λ_ _ _ _=>⟨rfl,λ_ h=>h⟩⟩)
  ·rw[if_neg e1]at hcs';exact(h.bx b' cs' hcs').keep K (λo x hx=>⟨by simp only[G.reS,if_neg e1];exact hx,rfl⟩) (λ_=>⟨rfl,rfl⟩) (λ_=>rfl)
 ·rcases zek hx with⟨o,rfl,hy⟩|⟨hne,hs⟩<;>rcases zek hx' with⟨o',rfl,hy'⟩|⟨hne',hs'⟩
  ·rw[hf.one o o' x hy hy']
  ·exact(hf.S o s' x hy hs').elim
  ·exact(hf.S o' s x hy' hs).elim
  ·exact h.sdis s s' x hs hs'
 ·rw[hsome]at hb';rcases zek hx with⟨o,rfl,hy⟩|⟨hne,hs⟩
  ·exact hf.box o x b' hy hb' hlt'
  ·exact h.sbox s b' x hs hb' hlt'
 ·rcases zek hx with⟨o,rfl,hy⟩|⟨hne,hs⟩
  ·exact hf.lt o x hy
  ·exact h.slt s x hs
 ·rcases zek hx with⟨o',rfl,hy⟩|⟨hne,hs⟩
  ·exact hf.c o' b' o v hy hv
  ·exact(h.cdis b' o v hv).1 s hs
theorem Sim.worldD[Base]{g:G}{env:Env}{tm:Array Value}{w w':World}(h:Sim g env tm w)(DD:Nat->Prop)(hs:w.heap.size<=w'.heap.size)
 (hold:∀x,x<w.heap.size->((∃s,g.S s x)∨(∃b,(env.box b).isSome=true/\b<zab/\ ¬DD b/\g.β b=x)∨ ∃o v,g.c x o=some v)->w'.heap[x]? =w.heap[x]?)
 (hdead:∀b cs,DD b->b<zab->env.box b=some cs->(∀a∈cs,a=.dead)/\ ∃arr el,w'.heap[g.β b]? =some (.cells arr el (0,0))/\arr.size=cs.length/\ ∀o,o<cs.length->(arr.getD o undef).oneCell' =true):Sim g env tm w':=by
 have hβ:∀b,(env.box b).isSome=true->b<zab-> ¬DD b->w'.heap[g.β b]? =w.heap[g.β b]?:=by
  intro b hb hlt hd;obtain⟨cs,hcs⟩:=Option.isSome_iff_exists.1 hb;have:=h.bx b cs hcs;unfold RepBox at this;rw[if_neg (by omega)]at this
  obtain⟨arr,e,h1,_⟩:=this;exact hold _ (Array.getElem?_eq_some_iff.1 h1).1 (.inr (.inl ⟨b,hb,hlt,hd,rfl⟩))
 have hS:∀s x,g.S s x->w'.heap[x]? =w.heap[x]?:=λs x hx=>hold x (h.slt s x hx) (.inl ⟨s,hx⟩)
 have hroot:∀r D,env.root r=.own D-> ∀V,RootV g tm w r V->RootV g tm w' r V:=by
  intro r D hD V hV
  cases r with
  |tmp t=>exact hV
  |cell b o=>
   simp only[RootV]at hV ⊢;split
   ·rename_i hg;rw[if_pos hg]at hV;exact hV
   ·rename_i hg;rw[if_neg hg]at hV;simp only[Env.root]at hD;split at hD
    ·rename_i cs hcs
     have hnd:¬DD b:=by
      intro hd;have hall:=(hdead b cs hd (by omega) hcs).1
      rw[List.getD_eq_getElem?_getD]at hD
      cases hq:cs[o]? with
      |none=>rw[hq]at hD;cases hD
      |some a=>
       rw[hq]at hD;have:=hall a (List.mem_of_getElem? hq);subst this;cases hD
     rw[World.cell?_of_block (w':=w') (w:=w) (hβ b (by rw[hcs];rfl) (by omega) hnd)]
     exact hV
    ·cases hD
 have K:zcy g env tm w g env tm w' (λ_=>True) (λ_=>True):=⟨λ_ _ _ hx=>hx,λl _ d' hd' =>⟨d',hd',λz xs' e=>⟨xs',e,Nat.le_refl _⟩,λv hv=>by
  have hl:=hd';simp only[Env.ownAt]at hl;split at hl
  ·rename_i D hD;exact h.conc hd' (λV hV=>hroot _ D hD V hV) (λx hx=>hS _ x hx) hv
  ·cases hl⟩,λb _ hb _=>⟨hb,rfl⟩⟩
 exact{
  size:=h.size
  tv:=λt=>(h.tv t).keep K (λk x hx=>⟨hx,hS _ x hx⟩)
  bx:=λb cs hcs=>by
   by_cases hd:DD b/\b<zab
   ·obtain⟨hall,arr,el,q1,q2,q3⟩:=hdead b cs hd.1 hd.2 hcs;unfold RepBox;rw[if_neg (by omega)]
    refine⟨arr,el,q1,q2,λo a ha=>?_⟩
    have:=hall a (List.mem_of_getElem? ha);subst this;exact⟨rfl,q3 o (List.getElem?_eq_some_iff.1 ha).1,trivial⟩
   ·exact(h.bx b cs hcs).keep K (λo x hx=>⟨hx,hS _ x hx⟩) (λhlt=>⟨rfl,hβ b (by rw[hcs];rfl) hlt (λh=>hd ⟨h,hlt⟩)⟩) (λ_=>rfl)
  binj:=h.binj
  sdis:=h.sdis
  sbox:=h.sbox
  slt:=λs x hx=>Nat.lt_of_lt_of_le (h.slt s x hx) hs
  cmem:=λb o v hv=>by
   have hc:=h.cmem b o v hv;have hlt:b<w.heap.size:=World.block_lt_of_cell? w _ hc;simp only[zbc]at hc ⊢;rw[World.cell?_of_block (w':=w') (w:=w) (hold b hlt (.inr (.inr ⟨o,v,hv⟩)))];exact hc
  base:=h.base
  fix:=λx v hv=>(hold x (World.block_lt_of_cell? w _ (h.cmem _ _ _ (h.base _ _ _ hv))) (.inr (.inr ⟨0,v,h.base _ _ _ hv⟩))).trans (h.fix x v hv)
  cdis:=h.cdis}
theorem Focus.other{g g':G}{e e':Env}{tm:Array Value}{w:World}{l:Loc}{D0 d:D}{V v:Value}{U:Blk}(h:Focus g e tm w l D0 d V v U)(hr:e'.root l.root=.own D0)(hS:∀x,g'.S l.root.slot x↔g.S l.root.slot x)(hβ:g'.β=g.β)(hγ:g'.γ=g.γ):Focus g' e' tm w l D0 d V v U where
 root:=hr
 sub:=h.sub
 rootV:=by
  have:=h.rootV
  cases hq:l.root with
  |tmp t=>rw[hq]at this;exact this
  |cell b o=>rw[hq]at this;simp only[RootV]at this ⊢;rw[hβ,hγ];exact this
 path:=h.path
 own:=h.own
 inS:=λx hx=>(hS x).2 (h.inS x hx)
 pathF:=λw' hw=>h.pathF w' (λx hx hn=>hw x ((hS x).2 hx) hn)
 re:=λw' d' U' h1 h2 h3 h4=>by
  have:=h.re w' d' U' (λx hx hn=>h1 x ((hS x).2 hx) hn) h2 h3 (λx hx hs=>h4 x hx ((hS x).2 hs))
  exact this.mono (λx hx=>hx.elim (λ⟨p,q⟩=>.inl ⟨(hS x).2 p,q⟩) .inr)
end Go.Qz
namespace Go.Qz
theorem zqy{e:Env}{f:A->A}{r q:Root}{a:A}{X:D}(hf:f (.own X)=.own X)(hne:q≠r)(h:e.root q=.own X):((e.mapA f).setRoot r a).root q=.own X:=by
 cases q with
 |tmp t=>
  have hV:=ziv h;simp only[Env.root,zbf];have:¬(r=.tmp t):=λe1=>hne e1.symm
  rw[if_neg this,hV];exact hf
 |cell b o=>
  simp only[Env.root,za1]at h ⊢
  cases r with
  |tmp t=>exact h
  |cell b' o' =>
   dsimp only;by_cases e1:b=b'
   ·subst e1;rw[if_pos rfl]
    cases hb:e.box b with
    |none=>rw[hb]at h;cases h
    |some cs=>
     rw[hb]at h;simp only[Option.map_some];have ho:o' ≠o:=λe2=>hne (by rw[e2])
     dsimp only at h;rw[List.getD_eq_getElem?_getD]at h ⊢;rw[List.getElem?_set_ne ho];exact h
   ·rw[if_neg e1];exact h
theorem zer{e:Env}{f:A->A}{b:Nat}{cs:List A}{q:Root}{X:D}(hf:f (.own X)=.own X)(hq:q.inBox b=false)(h:e.root q=.own X):((e.mapA f).setBox b cs).root q=.own X:=by
 cases q with
 |tmp t=>
  have hV:=ziv h;show (match((e.get t).mapA f)with| .one a=>a|_=>.dead)=_
  rw[hV];exact hf
 |cell b' o=>
  have hne:b' ≠b:=by simpa [Root.inBox]using hq
  simp only[Env.root]at h ⊢;have:((e.mapA f).setBox b cs).box b' =e.box b':=by show (if b' =b then _ else _)=_;rw[if_neg hne];rfl
  rw[this];exact h
theorem zfw{e:Env}{l:Loc}{d X:D}{q:Root}(hne:q≠l.root)(h:e.root q=.own X):(e.setLoc l d).root q=.own X:=by
 unfold Env.setLoc;split
 ·exact zqy rfl hne h
 ·exact h
theorem zel:∀{r:List Lent} {e:Env} {q:Root} {X:D},e.root q=.own X->(∀n b,Lent.box n b∈r->q.inBox b=false)->(∀n l,Lent.row n l∈r->q≠l.root)->(zbl e r).root q=.own X
 | [],_,_,_,h,_,_=>h
 | .box n b::r,e,q,X,h,h1,h2=>by
   simp only[zbl];split
   ·exact zel (zer rfl (h1 n b List.mem_cons_self) h) (λn b hb=>h1 n b (List.mem_cons_of_mem _ hb)) (λn l hl=>h2 n l (List.mem_cons_of_mem _ hl))
   ·exact zel h (λn b hb=>h1 n b (List.mem_cons_of_mem _ hb)) (λn l hl=>h2 n l (List.mem_cons_of_mem _ hl))
 | .row n l::r,e,q,X,h,h1,h2=>by
   simp only[zbl];exact zel (zfw (h2 n l List.mem_cons_self) h) (λn b hb=>h1 n b (List.mem_cons_of_mem _ hb)) (λn l hl=>h2 n l (List.mem_cons_of_mem _ hl))
 | .read _::r,e,q,X,h,h1,h2=>by
   simp only[zbl];exact zel h (λn b hb=>h1 n b (List.mem_cons_of_mem _ hb)) (λn l hl=>h2 n l (List.mem_cons_of_mem _ hl))
theorem zdo{e:Env}{l:Loc}{d:D}{b:Nat}(h:l.root.inBox b=false):(e.setLoc l d).box b=e.box b:=by
 unfold Env.setLoc;split
 ·rw[za1];split
  ·rfl
  ·rename_i b' o hr;rw[hr]at h;have:b' ≠b:=by simpa [Root.inBox]using h
   rw[if_neg (Ne.symm this)]
 ·rfl
theorem zfe:∀{r:List Lent} {e:Env} {b:Nat},(∀n,Lent.box n b∉r)->(∀n l,Lent.row n l∈r->l.root.inBox b=false)->(zbl e r).box b=e.box b
 | [],_,_,_,_=>rfl
 | .box n b' ::r,e,b,h1,h2=>by
   have hne:b≠b':=λe1=>h1 n (by rw[e1];exact List.mem_cons_self)
   simp only[zbl];split
   ·rw[zfe (λn hn=>h1 n (List.mem_cons_of_mem _ hn)) (λn l hl=>h2 n l (List.mem_cons_of_mem _ hl))]
    show (if b=b' then _ else _)=_
    rw[if_neg hne];rfl
   ·exact zfe (λn hn=>h1 n (List.mem_cons_of_mem _ hn)) (λn l hl=>h2 n l (List.mem_cons_of_mem _ hl))
 | .row n l::r,e,b,h1,h2=>by
   simp only[zbl];rw[zfe (λn hn=>h1 n (List.mem_cons_of_mem _ hn)) (λn l hl=>h2 n l (List.mem_cons_of_mem _ hl)),zdo (h2 n l List.mem_cons_self)]
 | .read _::r,e,b,h1,h2=>by
   simp only[zbl];exact zfe (λn hn=>h1 n (List.mem_cons_of_mem _ hn)) (λn l hl=>h2 n l (List.mem_cons_of_mem _ hl))
theorem zbt:∀{r:List Lent} {e:Env} (b:Nat),((zbl e r).box b).isSome=(e.box b).isSome
 | [],_,_=>rfl
 | .box n b' ::r,e,b=>by
   simp only[zbl];split
   ·rename_i cs hcs;rw[zbt b];show (if b=b' then _ else _:Option (List A)).isSome=_
    split
    ·rename_i e1;rw[e1,hcs];rfl
    ·rfl
   ·exact zbt b
 | .row n l::r,e,b=>by simp only[zbl];rw[zbt b,zfa]
 | .read _::r,e,b=>by simp only[zbl];exact zbt b
theorem zcj{a:Lent}{r:List Lent}(h:zax (a::r)=true):(∀b∈r,a.apart b=true)/\zax r=true/\a.okId=true:=by
 simp only[zax,Bool.and_eq_true]at h;exact⟨List.all_eq_true.1 h.1.2,h.2,h.1.1⟩
theorem zhg[Base]{tm:Array Value}{w:World}{VV vv:Loc->Value}{UU:Loc->Blk}:∀{r:List Lent} {g:G} {e:Env},Sim g e tm w->zax r=true->(∀n b,Lent.box n b∈r->(e.box b).isSome=true)->
 (∀n l,Lent.row n l∈r-> ∃D0 d,Focus g e tm w l D0 d (VV l) (vv l) (UU l)/\OwnC w (zk5 d) (vv l) (λ_=>False)/\(l.path≠[]->zk5 d=.hole))->
 ∃g',Sim g' (zbl e r) tm w/\g'.c=g.c/\g'.β=g.β/\g'.γ=g.γ/\(∀s x,g'.S s x->g.S s x)/\
  (∀n b,Lent.box n b∈r->(∀o x,¬g'.S (.cell b o) x)/\ ∃cs cs0,(zbl e r).box b=some cs/\e.box b=some cs0/\cs=cs0.map λ_=>.dead)/\
  (∀n l,Lent.row n l∈r->(∀x,g'.S l.root.slot x-> ¬UU l x)/\ ∃D0 d,e.root l.root=.own D0/\D0.sub l.path=some d/\(zbl e r).root l.root=.own (D0.repl l.path (zk5 d)))
 | [],g,e,h,_,_,_=>⟨g,h,rfl,rfl,rfl,λ_ _ hx=>hx,λn b hb=>(by cases hb),λn l hl=>(by cases hl)⟩
 | .read q::r,g,e,h,ha,hb,hr=>by
   obtain⟨h1,h2,h3⟩:=zcj ha;obtain⟨g',k1,k2,k3,k4,k5,k6,k7⟩:=zhg h h2 (λn b hm=>hb n b (List.mem_cons_of_mem _ hm)) (λn l hm=>hr n l (List.mem_cons_of_mem _ hm))
   refine⟨g',k1,k2,k3,k4,k5,λn b hm=>?_,λn l hm=>?_⟩
   ·cases hm with
    |tail _ hm=>exact k6 n b hm
   ·cases hm with
    |tail _ hm=>exact k7 n l hm
 | .box n b::r,g,e,h,ha,hb,hr=>by
   obtain⟨h1,h2,h3⟩:=zcj ha;simp only[Lent.okId,Bool.and_eq_true,decide_eq_true_eq]at h3;obtain⟨cs,hcs⟩:=Option.isSome_iff_exists.1 (hb n b List.mem_cons_self);have hbx:=h.bx b cs hcs;unfold RepBox at hbx;rw[if_neg (by omega)]at hbx
   obtain⟨arr,el,q1,q2,q3⟩:=hbx
   have hs1:=h.rebox (Y:=λ_ _=>False) (by rw[hcs];rfl) h3.2 (cs:=cs.map λ_=>.dead) q1 (by simpa using q2) (λo a ha=>by
    rw[List.getElem?_map]at ha
    cases hq:cs[o]? with
    |none=>rw[hq]at ha;cases ha
    |some a0=>
     rw[hq]at ha;obtain rfl:=Option.some.inj ha
     exact⟨rfl,(q3 o a0 hq).2.1,trivial⟩) (zaw _ _ _)
   have hSle:∀s x,(g.reS b (λ_ _=>False)).S s x->g.S s x:=λs x hx=>(zek hx).elim (λ⟨_,_,hf⟩=>hf.elim) (λhx=>hx.2)
   have hrow:∀n' l,Lent.row n' l∈r->l.root.inBox b=false:=by
    intro n' l hl;have:=h1 _ hl;simp only[Lent.apart,Bool.and_eq_true,Bool.not_eq_true']at this;exact this.1
   have hbox:∀n' b',Lent.box n' b' ∈r->b' ≠b:=by
    intro n' b' hb' e1;have:=h1 _ hb';simp[Lent.apart,e1]at this
   obtain⟨g',k1,k2,k3,k4,k5,k6,k7⟩:=zhg hs1 h2 (λn' b' hm=>by
    show (if b' =b then _ else _:Option (List A)).isSome=true
    rw[if_neg (hbox n' b' hm)]
    exact hb n' b' (List.mem_cons_of_mem _ hm))
    (λn' l hm=>by
     obtain⟨D0,d,hf,h1c⟩:=hr n' l (List.mem_cons_of_mem _ hm);refine⟨D0,d,hf.other (zer rfl (hrow n' l hm) hf.root) (λx=>⟨λhx=>hSle _ x hx,λhx=>?_⟩) rfl rfl,h1c⟩
     cases hq:l.root with
     |tmp t=>rw[hq]at hx;exact hx
     |cell b' o=>
      have hne:b' ≠b:=by have:=hrow n' l hm;rw[hq]at this;simpa [Root.inBox]using this
      rw[hq]at hx;show (if b' =b then _ else _:Blk) x
      rw[if_neg hne]
      exact hx)
   have eh:zbl e (.box n b::r)=zbl ((e.mapA (A.killIn b)).setBox b (cs.map λ_=>.dead)) r:=by simp only[zbl,hcs]
   rw[eh];refine⟨g',k1,k2,k3,k4,λs x hx=>hSle s x (k5 s x hx),λn' b' hm=>?_,λn' l hm=>?_⟩
   ·cases hm with
    |head=>
     refine⟨λo x hx=>?_,cs.map λ_=>.dead,cs,?_,hcs,rfl⟩
     ·have:=k5 _ x hx;simp only[G.reS,if_pos]at this
     ·rw[zfe (λn'' hn=>hbox n'' b hn rfl) hrow]
      show (if b=b then _ else _)=_
      rw[if_pos rfl]
    |tail _ hm=>
     obtain⟨p1,cs1,cs0,p2,p3,p4⟩:=k6 n' b' hm;refine⟨p1,cs1,cs0,p2,?_,p4⟩;have:((e.mapA (A.killIn b)).setBox b (cs.map λ_=>.dead)).box b' =e.box b':=by show (if b' =b then _ else _)=_;rw[if_neg (hbox n' b' hm)];rfl
     rw[<-this];exact p3
   ·cases hm with
    |tail _ hm=>
     obtain⟨p1,D0,d,p2,p3,p4⟩:=k7 n' l hm;obtain⟨D0',d',hf,_⟩:=hr n' l (List.mem_cons_of_mem _ hm);have hroot:=zer (f:=A.killIn b) (cs:=cs.map λ_=>.dead) rfl (hrow n' l hm) hf.root
     rw[hroot]at p2;have e0:D0' =D0:=by cases p2;rfl
     exact⟨p1,D0',d,hf.root,by rw[e0];exact p3,by rw[e0];exact p4⟩
 | .row n l::r,g,e,h,ha,hb,hr=>by
   obtain⟨h1,h2,h3⟩:=zcj ha;obtain⟨D0,d,hf,h1c⟩:=hr n l List.mem_cons_self;have hnew:=hf.re w (zk5 d) (λ_=>False) (λ_ _ _=>rfl) h1c.1 (λhp=>by rw[h1c.2 hp];rfl) (λ_ hx=>hx.elim)
   have hS':∀x,((g.S l.root.slot x/\ ¬UU l x)∨False)->g.S l.root.slot x:=λx hx=>hx.elim (λh=>h.1) (λh=>h.elim)
   have hown:e.ownAt l=some d:=by simp only[Env.ownAt,hf.root];exact hf.sub
   have hlen:∀z xs',D0.repl l.path (zk5 d)=.sl z xs' -> ∃xs,D0=.sl z xs/\xs'.length<=xs.length:=by
    intro z xs' e1;by_cases hp:l.path=[]
    ·rw[hp]at e1;exfalso;revert e1;cases d<;>intro e1<;>cases e1
    ·exact zo1 hp e1
   have hset:e.setLoc l (zng (e.ownAt l))=(e.mapA (A.turn l.root)).setRoot l.root (.own (D0.repl l.path (zk5 d))):=by rw[hown];simp only[Env.setLoc,hf.root,zng]
   have hs1:=h.turn hf.root hf.rootV _ hnew hlen (Nat.le_refl _) (λ_ _ _=>rfl) (λx s hx hs=>h.sdis _ _ _ hs (hS' x hx)) (λx b hx hb hlt=>h.sbox _ b x (hS' x hx) hb hlt) (λx hx=>h.slt _ x (hS' x hx)) (λx o v hx hv=>(h.cdis x o v hv).1 _ (hS' x hx))
   rw[<-hset]at hs1
   have hSle:∀s x,(g.setSlot l.root.slot (λx=>(g.S l.root.slot x/\ ¬UU l x)∨False)).S s x->g.S s x:=by
    intro s x hx;by_cases e1:s=l.root.slot
    ·subst e1;rw[zal]at hx;exact hS' x hx
    ·rw[zae g _ e1]at hx;exact hx
   have hrow:∀n' l',Lent.row n' l' ∈r->l'.root≠l.root:=by
    intro n' l' hl' e1;have:=h1 _ hl';simp[Lent.apart,e1]at this
   have hbox:∀n' b',Lent.box n' b' ∈r->l.root.inBox b' =false:=by
    intro n' b' hb';have:=h1 _ hb';simp only[Lent.apart,Bool.and_eq_true,Bool.not_eq_true']at this;exact this.1
   obtain⟨g',k1,k2,k3,k4,k5,k6,k7⟩:=zhg hs1 h2 (λn' b' hm=>by rw[zfa];exact hb n' b' (List.mem_cons_of_mem _ hm))
    (λn' l' hm=>by
     obtain⟨D0',d',hf',h1c'⟩:=hr n' l' (List.mem_cons_of_mem _ hm)
     exact⟨D0',d',hf'.other (zfw (hrow n' l' hm) hf'.root) (λx=>by rw[zae g _ (zzf (hrow n' l' hm))]) rfl rfl,h1c'⟩)
   have eh:zbl e (.row n l::r)=zbl (e.setLoc l (zng (e.ownAt l))) r:=rfl;rw[eh];refine⟨g',k1,k2,k3,k4,λs x hx=>hSle s x (k5 s x hx),λn' b' hm=>?_,λn' l' hm=>?_⟩
   ·cases hm with
    |tail _ hm=>
     obtain⟨p1,cs1,cs0,p2,p3,p4⟩:=k6 n' b' hm;rw[zdo (hbox n' b' hm)]at p3;exact⟨p1,cs1,cs0,p2,p3,p4⟩
   ·cases hm with
    |head=>
     refine⟨λx hx hu=>?_,D0,d,hf.root,hf.sub,?_⟩
     ·have:=k5 _ x hx;rw[zal]at this;exact this.elim (λh=>h.2 hu) (λh=>h.elim)
     ·refine zel ?_ hbox (λn' l' hl' e1=>hrow n' l' hl' e1.symm)
      rw[hset];exact zf8 e hf.root
    |tail _ hm=>
     obtain⟨p1,D0',d',p2,p3,p4⟩:=k7 n' l' hm;obtain⟨D0'',d'',hf',_⟩:=hr n' l' (List.mem_cons_of_mem _ hm);have hroot:=zfw (d:=zng (e.ownAt l)) (hrow n' l' hm) hf'.root;rw[hroot]at p2;have e0:D0'' =D0':=by cases p2;rfl
     exact⟨p1,D0'',d',hf'.root,by rw[e0];exact p3,by rw[e0];exact p4⟩
end Go.Qz
namespace Go.Qz
theorem Sim.reown[Base]{g:G}{env:Env}{tm:Array Value}{w w':World}(h:Sim g env tm w){r:Root}{D0 D':D}(hr:env.root r=.own D0){V:Value}(hV:RootV g tm w r V)(S':Blk)(hown:OwnC w' D' V S')
 (hsize:w.heap.size<=w'.heap.size) (hheap:∀x,x<w.heap.size-> ¬g.S r.slot x->w'.heap[x]? =w.heap[x]?)
 (hS1:∀x s,S' x->g.S s x->s=r.slot) (hS2:∀x b,S' x->(env.box b).isSome=true->b<zab->g.β b≠x) (hS3:∀x,S' x->x<w'.heap.size) (hS4:∀x o v,S' x->g.c x o=some v->False):
 Sim (g.setSlot r.slot S') ((env.mapA (A.drop r)).setRoot r (.own D')) tm w':=by
 have hβ:∀b,(env.box b).isSome=true->b<zab->w'.heap[g.β b]? =w.heap[g.β b]?:=by
  intro b hb hlt;obtain⟨cs,hcs⟩:=Option.isSome_iff_exists.1 hb;have:=h.bx b cs hcs;unfold RepBox at this;rw[if_neg (by omega)]at this
  obtain⟨arr,e,h1,_⟩:=this;exact hheap _ (Array.getElem?_eq_some_iff.1 h1).1 (λhx=>h.sbox _ b _ hx hb hlt rfl)
 have hSw:∀s x,s≠r.slot->g.S s x->w'.heap[x]? =w.heap[x]?:=λs x hs hx=>hheap x (h.slt s x hx) (λhx' =>hs (h.sdis _ _ _ hx hx'))
 have hroot:∀r' D1,env.root r' =.own D1-> ∀W,RootV g tm w r' W->RootV (g.setSlot r.slot S') tm w' r' W:=by
  intro r' D1 hD W hW;have:=RootV.world hD hβ W hW;cases r' <;>exact this
 have hslot:∀r':Root,r' ≠r->r'.slot≠r.slot:=by
  intro r' hne e;cases r' <;>cases r<;>simp[Root.slot]at e<;>first|exact hne (by rw[e])|(obtain⟨e1,e2⟩:=e;exact hne (by rw[e1,e2]))
 have hrootr:((env.mapA (A.drop r)).setRoot r (.own D')).root r=.own D':=by
  cases r with
  |tmp t=>simp[Env.root,zbf]
  |cell b o=>
   simp only[Env.root,za1,if_pos];simp only[Env.root]at hr;split at hr
   ·rename_i cs hcs;rw[hcs];simp only[Option.map_some];rw[List.getD_eq_getElem?_getD]at hr ⊢
    have hlt:o<cs.length:=by
     rcases Nat.lt_or_ge o cs.length with hl|hl
     ·exact hl
     ·rw[List.getElem?_eq_none hl]at hr;cases hr
    rw[List.getElem?_set_self hlt];rfl
   ·cases hr
 have K:zcy g env tm w (g.setSlot r.slot S') ((env.mapA (A.drop r)).setRoot r (.own D')) tm w' (λl=>l.root≠r) (λ_=>True):=by
  refine⟨λ_ _ _ hx=>hx,λl hl d' hd' =>?_,λb _ hb _=>⟨by rw[zaj]at hb;exact hb,rfl⟩⟩
  by_cases hlr:l.root=r
  ·exact absurd hlr hl
  ·have hd:env.ownAt l=some d':=by
    simp only[Env.ownAt]at hd' ⊢;split at hd'
    ·rename_i D1 hD1;rw[za9 (zef (zd0 r)) hlr hD1];exact hd'
    ·cases hd'
   refine⟨d',hd,λz xs' e=>⟨xs',e,Nat.le_refl _⟩,λv hv=>?_⟩
   have hl2:=hd;simp only[Env.ownAt]at hl2;split at hl2
   ·rename_i D1 hD1;exact h.conc hd (λW hW=>hroot _ D1 hD1 W hW) (λx hx=>hSw _ x (hslot _ hlr) hx) hv
   ·cases hl2
 refine{
  size:=by rw[zct];exact h.size
  tv:=λt=>?_
  bx:=λb cs hcs=>?_
  binj:=λb b' hb hb' =>by rw[zaj]at hb hb';exact h.binj b b' hb hb'
  sdis:=λs s' x hx hx' =>?_
  sbox:=λs b x hx hb hlt=>?_
  slt:=λs x hx=>?_
  cmem:=λb o v hv=>?_
  base:=h.base
  fix:=λx v hv=>(hheap x (World.block_lt_of_cell? w _ (h.cmem _ _ _ (h.base _ _ _ hv))) ((h.cdis x 0 v (h.base _ _ _ hv)).1 _)).trans (h.fix x v hv)
  cdis:=λb o v hv=>⟨λs hx=>?_,λid hid=>by rw[zaj]at hid;exact(h.cdis b o v hv).2 id hid⟩}
 ·rw[zbf];by_cases e:r=.tmp t
  ·rw[if_pos e];subst e;show OwnC w' D' (tm.getD t undef) ((g.setSlot (Slot.tmp t 0) S').S (.tmp t 0));rw[zal];have:tm.getD t undef=V:=hV;rw[this];exact hown
  ·rw[if_neg e];refine(h.tv t).kill K (zd0 r) (λk x hx=>?_)
   have hs:Slot.tmp t k≠r.slot:=by
    intro he
    cases r with
    |tmp t' =>simp only[Root.slot,Slot.tmp.injEq]at he;exact e (by rw[he.1])
    |cell b o=>cases he
   exact⟨by rw[zae g S' hs];exact hx,hSw _ x hs hx⟩
 ·-- the boxes
  have hb0:∀b0 cs0,env.box b0=some cs0->(∀o,r≠.cell b0 o)->RepBox (g.setSlot r.slot S') ((env.mapA (A.drop r)).setRoot r (.own D')) tm w' b0 cs0:=by
   intro b0 cs0 hcs0 hne
   have hs:∀o,Slot.cell b0 o≠r.slot:=by
    intro o he
    cases r with
    |tmp t' =>cases he
    |cell b' o' =>simp only[Root.slot,Slot.cell.injEq]at he;exact hne o' (by rw[he.1])
   exact(h.bx b0 cs0 hcs0).keep K (λo x hx=>⟨by rw[zae g S' (hs o)];exact hx,hSw _ x (hs o) hx⟩) (λhlt=>⟨rfl,hβ b0 (by rw[hcs0];rfl) hlt⟩) (λ_=>rfl)
  rw[za1]at hcs
  cases r with
  |tmp t=>exact hb0 b cs hcs (λo he=>by cases he)
  |cell b' o' =>
   simp only at hcs;by_cases e:b=b'
   ·subst e;rw[if_pos rfl]at hcs
    cases hq:env.box b with
    |none=>rw[hq]at hcs;cases hcs
    |some cs0=>
     rw[hq]at hcs;obtain rfl:=Option.some.inj hcs;have hold:=h.bx b cs0 hq;unfold RepBox at hold ⊢;by_cases hg:zab<=b
     ·rw[if_pos hg]at hold ⊢;obtain⟨a,rfl,_,_⟩:=hold
      have ho:o' =0:=by
       simp only[Env.root,hq]at hr
       cases o' with
       |zero=>rfl
       |succ n=>simp at hr
      subst ho;refine⟨.own D',rfl,rfl,?_⟩;show OwnC w' D' (g.γ b) ((g.setSlot (Slot.cell b 0) S').S (.cell b 0));rw[zal];have:g.γ b=V:=by simpa [RootV,hg]using hV
      rw[this];exact hown
     ·rw[if_neg hg]at hold ⊢;obtain⟨arr,et,h1,h2,h3⟩:=hold;refine⟨arr,et,(hβ b (by rw[hq];rfl) (by omega)).trans h1,by simpa using h2,λo a ha=>?_⟩
      by_cases eo:o=o'
      ·subst eo
       have hlt:o<cs0.length:=by
        have:=(List.getElem?_eq_some_iff.1 ha).1;simpa using this
       rw[List.getElem?_set_self hlt]at ha;obtain rfl:=Option.some.inj ha;obtain⟨_,hone,_⟩:=h3 o cs0[o] (List.getElem?_eq_getElem hlt);refine⟨rfl,hone,?_⟩;show OwnC w' D' (arr.getD o undef) ((g.setSlot (Slot.cell b o) S').S (.cell b o));rw[zal]
       have hVe:arr.getD o undef=V:=by
        have:=hV;simp only[RootV]at this;rw[if_neg hg]at this;simp[World.cell?,h1,h2,hlt]at this;simp[h2,hlt,this]
       rw[hVe];exact hown
      ·rw[List.getElem?_set_ne (Ne.symm eo)]at ha;obtain⟨hp,hone,hra⟩:=h3 o a ha;have hs:Slot.cell b o≠Slot.cell b o':=λhe=>eo (by cases he;rfl)
       exact⟨hp,hone,hra.keep K (zcq hp _ _) (λ_ _ x hx=>⟨by rw[show (Root.cell b o').slot=Slot.cell b o' from rfl,zae g S' hs];exact hx,hSw _ x hs hx⟩) (λ_=>⟨rfl,λb1 o1 hs1 _=>by cases hs1;exact⟨rfl,λt ⟨arr2,fz,ht⟩=>⟨arr2,fz,(hβ b (by rw[hq];rfl) (by omega)).trans ht⟩⟩⟩)⟩
   ·rw[if_neg e]at hcs;exact hb0 b cs hcs (λo he=>e (by cases he;rfl))
 ·by_cases e:s=r.slot<;>by_cases e':s' =r.slot
  ·rw[e,e']
  ·subst e;rw[zal]at hx;rw[zae g S' e']at hx';exact absurd (hS1 x s' hx hx') e'
  ·subst e';rw[zal]at hx';rw[zae g S' e]at hx;exact absurd (hS1 x s hx' hx) e
  ·rw[zae g S' e]at hx;rw[zae g S' e']at hx';exact h.sdis s s' x hx hx'
 ·rw[zaj]at hb;by_cases e:s=r.slot
  ·subst e;rw[zal]at hx;exact hS2 x b hx hb hlt
  ·rw[zae g S' e]at hx;exact h.sbox s b x hx hb hlt
 ·by_cases e:s=r.slot
  ·subst e;rw[zal]at hx;exact hS3 x hx
  ·rw[zae g S' e]at hx;exact Nat.lt_of_lt_of_le (h.slt s x hx) hsize
 ·have hc:=h.cmem b o v hv;have hlt:b<w.heap.size:=World.block_lt_of_cell? w _ hc;simp only[zbc]at hc ⊢;rw[World.cell?_of_block (w':=w') (w:=w) (hheap b hlt ((h.cdis b o v hv).1 _))];exact hc
 ·by_cases e:s=r.slot
  ·subst e;rw[zal]at hx;exact hS4 b o v hx hv
  ·rw[zae g S' e]at hx;exact(h.cdis b o v hv).1 s hx
def CellV(c:Mem)(T:Blk)(w:World)(blk:Nat):A->Value->Prop
 | .own d,v=>OwnC w d v T
 | .ro d,v=>RO c d v
 | .fn f [],v=>v=.func (.func f) #[] #[]
 | .selfp,v=>v=.pointer (some ⟨blk,0,none⟩)
 | .bnil t,v=>v=.pointer none/\TagAt w blk t
 | .undef,v=>v=undef
 | .dead,_=>True
 |_,_=>False
theorem CellV.rep{g:G}{e:Env}{tm:Array Value}{w:World}{T:Blk}{b o:Nat}{a:A}{v:Value}(hT:∀x,T x->g.S (.cell b o) x)(h:CellV g.c T w (g.β b) a v):RepA g e tm w (.cell b o) a v:=by
 cases a with
 |own d=>exact OwnC.mono hT h
 |ro d=>exact h
 |fn f caps=>
  cases caps with
  |nil=>exact⟨#[],h,rfl,λk c hc=>by simp at hc⟩
  |cons c r=>exact h.elim
 |selfp=>exact⟨b,o,rfl,λ_=>h⟩
 |bnil t=>exact⟨h.1,b,o,rfl,λ_=>h.2⟩
 |undef=>exact h
 |dead=>trivial
 |view l=>exact h.elim
 |ptr b o=>exact h.elim
 |eptr l z i o=>exact h.elim
 |pview l i k=>exact h.elim
 |rptr ds=>exact h.elim
theorem RepA.cellV{g:G}{e:Env}{tm:Array Value}{w:World}{c:Mem}{b o:Nat}{a:A}{v:Value}(hp:a.portable=true)(hlt:b<zab)(hc:∀d,a=.ro d->RO g.c d v->RO c d v)(h:RepA g e tm w (.cell b o) a v):CellV c (g.S (.cell b o)) w (g.β b) a v:=by
 cases a with
 |own d=>exact h
 |ro d=>exact hc d rfl h
 |fn f caps=>
  cases caps with
  |nil=>
   obtain⟨vs,e1,hs,_⟩:=h;have:vs= #[]:=Array.eq_empty_of_size_eq_zero (by simpa using hs)
   rw[this]at e1;exact e1
  |cons c r=>simp[A.portable]at hp
 |selfp=>obtain⟨b',o',hs,hv⟩:=h;cases hs;exact hv hlt
 |bnil t=>obtain⟨e0,b',o',hs,hv⟩:=h;cases hs;exact⟨e0,hv hlt⟩
 |undef=>exact h
 |dead=>trivial
 |view l=>simp[A.portable]at hp
 |ptr b o=>simp[A.portable]at hp
 |eptr l z i o=>simp[A.portable]at hp
 |pview l i k=>simp[A.portable]at hp
 |rptr ds=>simp[A.portable]at hp
structure Backs(w:World)(c:Mem)(β:Nat->Nat)(vv:Loc->Value)(T:Nat->Nat->Blk)(r:List Lent)(bx:zas):Prop where
 box:∀n b cs,Lent.box n b∈r->za5 n bx=some cs-> ∃arr el,w.heap[β b]? =some (.cells arr el (0,0))/\arr.size=cs.length/\ ∀o a,cs[o]? =some a->a.portable=true/\(arr.getD o undef).oneCell' =true/\CellV c (T n o) w (β b) a (arr.getD o undef)
 row:∀n l d,Lent.row n l∈r->za5 n bx=some [.own d]->OwnC w d (vv l) (T n 0)
theorem Backs.tail{w:World}{c:Mem}{β:Nat->Nat}{vv:Loc->Value}{T:Nat->Nat->Blk}{a:Lent}{r:List Lent}{bx:zas}(h:Backs w c β vv T (a::r) bx):Backs w c β vv T r bx:=
 ⟨λn b cs hm=>h.box n b cs (List.mem_cons_of_mem _ hm),λn l d hm=>h.row n l d (List.mem_cons_of_mem _ hm)⟩
def Lent.id:Lent->Option Nat
 | .box n _| .row n _=>some n
 | .read _=>none
theorem zva{a b:Lent}(h:a.apart b=true){n:Nat}(ha:a.id=some n):b.id≠some n:=by
 intro hb;cases a<;>cases b<;>simp[Lent.id]at ha hb<;>simp[Lent.apart,ha,hb]at h
theorem FreeB.step{g g1:G}{e e1:Env}{w:World}{Y Z:Blk}(h:FreeB g e w Y)(hS:∀s x,g1.S s x->g.S s x∨Z x)(hdis:∀x,Y x-> ¬Z x)(hβ:g1.β=g.β)(hc:g1.c=g.c)(hb:∀b,(e1.box b).isSome=(e.box b).isSome):FreeB g1 e1 w Y:=
 ⟨λs x hx hs=>(hS s x hs).elim (h.S s x hx) (hdis x hx),λx b hx hb' hlt=>by rw[hβ];rw[hb]at hb';exact h.box x b hx hb' hlt,h.lt,λx o v hx hv=>h.c x o v hx (by rw[<-hc];exact hv)⟩
theorem ConcV.same{g g1:G}{tm:Array Value}{w:World}{l:Loc}{v:Value}(h:ConcV g tm w l v)(hβ:g1.β=g.β)(hγ:g1.γ=g.γ):ConcV g1 tm w l v:=by
 obtain⟨V,hV,hp⟩:=h;refine⟨V,?_,hp⟩
 cases hq:l.root with
 |tmp t=>rw[hq]at hV;exact hV
 |cell b o=>rw[hq]at hV;simp only[RootV]at hV ⊢;rw[hβ,hγ];exact hV
theorem zfx[Base]{tm:Array Value}{w:World}{c:Mem}{β:Nat->Nat}{vv:Loc->Value}{T:Nat->Nat->Blk}{bx:zas}(hT:∀n o n' o' x,T n o x->T n' o' x->n=n' /\o=o'):∀{r:List Lent} {g:G} {e e':Env},Sim g e tm w->g.c=c->g.β=β->zax r=true->Backs w c β vv T r bx->
 (∀a n,a∈r->a.id=some n-> ∀o,FreeB g e w (T n o))->(∀n l,Lent.row n l∈r-> ∃D0,e.root l.root=.own D0/\(∃q,D0.sub l.path=some q)/\ConcV g tm w l (vv l))->zbd e r bx=some e' ->
 ∃g',Sim g' e' tm w/\g'.c=g.c/\g'.β=g.β/\g'.γ=g.γ/\(∀s x,g'.S s x->g.S s x∨ ∃a n o,a∈r/\a.id=some n/\T n o x)/\ ∀b,(e'.box b).isSome=(e.box b).isSome
 | [],g,e,e',h,_,_,_,_,_,_,he=>by
   simp only[zbd,Option.some.injEq]at he;subst he;exact⟨g,h,rfl,rfl,rfl,λ_ _ hx=>.inl hx,λ_=>rfl⟩
 | .read q::r,g,e,e',h,hc,hβ,ha,hk,hf,hr,he=>by
   simp only[zbd]at he;obtain⟨h1,h2,h3⟩:=zcj ha;obtain⟨g',k1,k2,k3,k4,k5,k6⟩:=zfx hT h hc hβ h2 hk.tail (λa n hm=>hf a n (List.mem_cons_of_mem _ hm)) (λn l hm=>hr n l (List.mem_cons_of_mem _ hm)) he
   exact⟨g',k1,k2,k3,k4,λs x hx=>(k5 s x hx).imp id (λ⟨a,n,o,p1,p2⟩=>⟨a,n,o,List.mem_cons_of_mem _ p1,p2⟩),k6⟩
 | .box n b::r,g,e,e',h,hc,hβ,ha,hk,hf,hr,he=>by
   simp only[zbd]at he;obtain⟨h1,h2,h3⟩:=zcj ha;simp only[Lent.okId,Bool.and_eq_true,decide_eq_true_eq]at h3;split at he
   ·rename_i cs hcs;split at he
    ·rename_i cs0 hcs0;split at he
     ·rename_i hlen;obtain⟨arr,el,q1,q2,q3⟩:=hk.box n b cs List.mem_cons_self hcs;have hbs:(e.box b).isSome=true:=by rw[hcs0];rfl
      have hfree:Free g e w (T n):=⟨λk k' x hx hx' =>(hT n k n k' x hx hx').2,λk s x hx=>(hf _ n List.mem_cons_self rfl k).S s x hx,λk x b hx=>(hf _ n List.mem_cons_self rfl k).box x b hx,λk x hx=>(hf _ n List.mem_cons_self rfl k).lt x hx,λk x o v hx=>(hf _ n List.mem_cons_self rfl k).c x o v hx⟩
      have hs1:=h.rebox (Y:=T n) hbs h3.2 (cs:=cs) (by rw[hβ];exact q1) q2 (λo a ha' =>by
       obtain⟨p1,p2,p3⟩:=q3 o a ha';refine⟨p1,p2,CellV.rep (T:=T n o) (λx hx=>by simp only[G.reS,if_pos];exact hx) ?_⟩
       show CellV g.c _ w (g.β b) a _;rw[hc,hβ]
       exact p3) hfree
      have hSle:∀s x,(g.reS b (T n)).S s x->g.S s x∨ ∃o,T n o x:=λs x hx=>(zek hx).elim (λ⟨o,_,hy⟩=>.inr ⟨o,hy⟩) (λhx=>.inl hx.2)
      have hsome:∀b',(((e.mapA (A.killIn b)).setBox b cs).box b').isSome=(e.box b').isSome:=by
       intro b';show (if b' =b then _ else _:Option (List A)).isSome=_
       split
       ·rename_i e1;subst e1;rw[hbs];rfl
       ·rfl
      have hrow:∀n' l,Lent.row n' l∈r->l.root.inBox b=false:=by
       intro n' l hl;have:=h1 _ hl;simp only[Lent.apart,Bool.and_eq_true,Bool.not_eq_true']at this;exact this.1
      obtain⟨g',k1,k2,k3,k4,k5,k6⟩:=zfx hT hs1 hc hβ h2 hk.tail (λa n' hm hid o=>(hf a n' (List.mem_cons_of_mem _ hm) hid o).step (Z:=λx=> ∃o,T n o x) hSle (λx hx ⟨o',hy⟩=>by
       have e1:=(hT _ _ _ _ x hx hy).1;subst e1
       exact zva (h1 a hm) rfl hid) rfl rfl hsome)
       (λn' l hm=>by
        obtain⟨D0,p1,p2,p3⟩:=hr n' l (List.mem_cons_of_mem _ hm)
        exact⟨D0,zer rfl (hrow n' l hm) p1,p2,p3.same rfl rfl⟩) he
      refine⟨g',k1,k2,k3,k4,λs x hx=>?_,λb' =>(k6 b').trans (hsome b')⟩
      rcases k5 s x hx with hs|⟨a,n',o,p1,p2,p3⟩
      ·exact(hSle s x hs).imp id (λ⟨o,ho⟩=>⟨.box n b,n,o,List.mem_cons_self,rfl,ho⟩)
      ·exact .inr ⟨a,n',o,List.mem_cons_of_mem _ p1,p2,p3⟩
     ·cases he
    ·cases he
   ·cases he
 | .row n l::r,g,e,e',h,hc,hβ,ha,hk,hf,hr,he=>by
   obtain⟨h1,h2,h3⟩:=zcj ha;obtain⟨D0,hroot,hsub,hcv⟩:=hr n l List.mem_cons_self;have hfr:=hf (.row n l) n List.mem_cons_self rfl 0
   have hrow:∀n' l',Lent.row n' l' ∈r->l'.root≠l.root:=by
    intro n' l' hl' e1;have:=h1 _ hl';simp[Lent.apart,e1]at this
   have step:∀{e1:Env} {S':Blk},Sim (g.setSlot l.root.slot S') e1 tm w->(∀x,S' x->g.S l.root.slot x∨T n 0 x)->(∀b,(e1.box b).isSome=(e.box b).isSome)->(∀q X,q≠l.root->e.root q=.own X->e1.root q=.own X)->zbd e1 r bx=some e' ->
    ∃g',Sim g' e' tm w/\g'.c=g.c/\g'.β=g.β/\g'.γ=g.γ/\(∀s x,g'.S s x->g.S s x∨ ∃a n' o,a∈Lent.row n l::r/\a.id=some n' /\T n' o x)/\ ∀b,(e'.box b).isSome=(e.box b).isSome:=by
    intro e1 S' hs1 hS' hsome hkeep he1
    have hSle:∀s x,(g.setSlot l.root.slot S').S s x->g.S s x∨T n 0 x:=by
     intro s x hx;by_cases e2:s=l.root.slot
     ·subst e2;rw[zal]at hx;exact hS' x hx
     ·rw[zae g _ e2]at hx;exact .inl hx
    obtain⟨g',k1,k2,k3,k4,k5,k6⟩:=zfx hT hs1 hc hβ h2 hk.tail (λa n' hm hid o=>(hf a n' (List.mem_cons_of_mem _ hm) hid o).step (Z:=T n 0) hSle (λx hx hy=>by
     have e1:=(hT _ _ _ _ x hx hy).1;subst e1
     exact zva (h1 a hm) rfl hid) rfl rfl hsome)
     (λn' l' hm=>by
      obtain⟨D0,p1,p2,p3⟩:=hr n' l' (List.mem_cons_of_mem _ hm)
      exact⟨D0,hkeep _ _ (hrow n' l' hm) p1,p2,p3.same rfl rfl⟩) he1
    refine⟨g',k1,k2,k3,k4,λs x hx=>?_,λb' =>(k6 b').trans (hsome b')⟩
    rcases k5 s x hx with hs|⟨a,n',o,p1,p2,p3⟩
    ·exact(hSle s x hs).imp id (λho=>⟨.row n l,n,0,List.mem_cons_self,rfl,ho⟩)
    ·exact .inr ⟨a,n',o,List.mem_cons_of_mem _ p1,p2,p3⟩
   simp only[zbd]at he;split at he
   ·rename_i d hd;have hown:=hk.row n l d List.mem_cons_self hd;split at he
    ·cases he
    ·rename_i hnagg;split at he
     ·rename_i hp;obtain⟨V,hV,hpv⟩:=hcv;rw[hp]at hpv;have hVe:V=vv l:=hpv;refine step (h.reown hroot hV (T n 0) (by rw[hVe];exact hown) (Nat.le_refl _) (λ_ _ _=>rfl) (λx s hx hs=>(hfr.S s x hx hs).elim) hfr.box hfr.lt hfr.c) (λx hx=>.inr hx) (λb=>zaj b) (λq X hq hX=>zqy rfl hq hX) he
     ·rename_i hp;obtain⟨q0,hsub⟩:=hsub;have hownAt:e.ownAt l=some q0:=by simp only[Env.ownAt,hroot];exact hsub
      obtain⟨D0',V,v,U,hfc⟩:=h.focusAt hownAt;have e0:D0' =D0:=by have:=hfc.root;rw[hroot]at this;cases this;rfl
      subst e0;have hve:v=vv l:=hfc.conc.det hcv;have hpne:l.path≠[]:=λe1=>hp e1
      have hd1:d.cells=[d]:=by
       cases d with
       |agg ds=>exact absurd rfl (hnagg ds)
       |_=>rfl
      have hnew:=hfc.re w d (T n 0) (λ_ _ _=>rfl) (by rw[hve];exact hown) (λ_=>hd1) (λx hx hs=>(hfr.S _ x hx hs).elim)
      have hset:e.setLoc l d=(e.mapA (A.turn l.root)).setRoot l.root (.own (D0'.repl l.path d)):=by simp only[Env.setLoc,hroot]
      have hS':∀x,((g.S l.root.slot x/\ ¬U x)∨T n 0 x)->g.S l.root.slot x∨T n 0 x:=λx hx=>hx.imp (λh=>h.1) id
      have hs1:=h.turn hroot hfc.rootV _ hnew (λz xs' e1=>zo1 hpne e1) (Nat.le_refl _) (λ_ _ _=>rfl)
       (λx s hx hs=>(hS' x hx).elim (λh1=>h.sdis _ _ _ hs h1) (λh1=>(hfr.S s x h1 hs).elim)) (λx b hx hb hlt=>(hS' x hx).elim (λh1=>h.sbox _ b x h1 hb hlt) (λh1=>hfr.box x b h1 hb hlt))
       (λx hx=>(hS' x hx).elim (λh1=>h.slt _ x h1) (λh1=>hfr.lt x h1)) (λx o v hx hv=>(hS' x hx).elim (λh1=>(h.cdis x o v hv).1 _ h1) (λh1=>hfr.c x o v h1 hv))
      rw[<-hset]at hs1;exact step hs1 hS' (λb=>zfa e l d b) (λq X hq hX=>zfw hq hX) he
   ·have e0:g.setSlot l.root.slot (g.S l.root.slot)=g:=by
     unfold G.setSlot;congr 1;funext s';split
     ·rename_i e1;rw[e1]
     ·rfl
    exact step (S':=g.S l.root.slot) (by rw[e0];exact h) (λx hx=>.inl hx) (λb=>rfl) (λq X hq hX=>hX) he
   ·cases he
end Go.Qz
namespace Go.Qz
open Classical
def zba(bx:zas):Env:={size:=0,tmps:=λ_=>.undef,boxes:=λb=>za5 b bx}
structure zdt[Base](g:G)(env:Env)(w:World)(r:V)(bx':zas)(v:Value)(w':World)(g':G)(Y:Nat->Blk):Prop where
 sim:Sim g' (zba bx') #[] w'
 hold:HoldV g' (zba bx') #[] w' Y r v
 free:Free g' (zba bx') w' Y
 next:Next g env w g' (zba bx') w'
 mine:∀k x,Y k x->Mine g env x∨w.heap.size<=x
def zzx(m:List Lent):Prop:=∀r,Lent.read r∉m
theorem OwnC.holed{w:World}{d:D}{v:Value}{T:Blk}(h:OwnC w d v T):OwnC w (zk5 d) v (λ_=>False):=by
 cases d with
 |agg ds=>
  obtain⟨vs,rfl,q1,q2⟩:∃vs,v=.agg vs/\vs.size=ds.length/\ ∀m,m<ds.length->(vs.getD m undef).oneCell' =true:=by
   cases h with
   |agg U h1 h2 h3 h4 h5=>exact⟨_,rfl,h1,h4⟩
   |flat hf hr=>
    obtain⟨vs,e,h1,h2,_⟩:=hr.agg_inv;exact⟨vs,e,h1,h2⟩
  show OwnC w (.agg (ds.map λ_=>.hole)) (.agg vs) _
  refine .agg (λ_ _=>False) (by simpa using q1) (λ_ _ hx=>hx) (λ_ _ _ hx=>hx.elim) (by simpa using q2) (λm d hd=>?_)
  rw[List.getElem?_map]at hd
  cases hq:ds[m]? with
  |none=>rw[hq]at hd;cases hd
  |some q=>
   rw[hq]at hd;obtain rfl:=Option.some.inj hd;exact .hole (q2 m (List.getElem?_eq_some_iff.1 hq).1)
 |_=>exact .hole (h.notAgg (λds e=>by cases e))
theorem zdc{e:Env}:∀{m:List Lent},zdq e m=true-> ∀n l,Lent.row n l∈m-> ∃d,e.ownAt l=some d/\(l.path≠[]-> ∀ds,d≠.agg ds)
 | [],_,_,_,h=>by cases h
 | .row n' l' ::r,h,n,l,hm=>by
   simp only[zdq,Bool.and_eq_true]at h
   cases hm with
   |head=>
    have:=h.1;split at this
    ·rename_i d hd;refine⟨d,hd,λhp ds e=>?_⟩
     subst e;simp[D.isAgg,hp]at this
    ·cases this
   |tail _ hm=>exact zdc h.2 n l hm
 | .box n' b::r,h,n,l,hm=>by
   cases hm with
   |tail _ hm=>exact zdc (by simpa only[zdq]using h) n l hm
 | .read q::r,h,n,l,hm=>by
   cases hm with
   |tail _ hm=>exact zdc (by simpa only[zdq]using h) n l hm
theorem zbu:∀{r:List Lent} {e e':Env} {bx:zas},zbd e r bx=some e' -> ∀n b,Lent.box n b∈r-> ∃cs,za5 n bx=some cs
 | [],_,_,_,_,_,_,h=>by cases h
 | .box n' b' ::r,e,e',bx,he,n,b,hm=>by
   simp only[zbd]at he;split at he
   ·rename_i cs hcs;split at he
    ·split at he
     ·cases hm with
      |head=>exact⟨cs,hcs⟩
      |tail _ hm=>exact zbu he n b hm
     ·cases he
    ·cases he
   ·cases he
 | .row n' l' ::r,e,e',bx,he,n,b,hm=>by
   simp only[zbd]at he
   cases hm with
   |tail _ hm=>
    split at he
    ·split at he
     ·cases he
     ·split at he
      ·exact zbu he n b hm
      ·exact zbu he n b hm
    ·exact zbu he n b hm
    ·cases he
 | .read q::r,e,e',bx,he,n,b,hm=>by
   simp only[zbd]at he
   cases hm with
   |tail _ hm=>exact zbu he n b hm
theorem zdd:∀{r:List Lent} {e e':Env} {bx:zas},zax r=true->zbd e r bx=some e' -> ∀n b cs,Lent.box n b∈r->za5 n bx=some cs-> ∃cs0,e.box b=some cs0/\cs.length=cs0.length
 | [],_,_,_,_,_,_,_,_,h,_=>by cases h
 | .box n' b' ::r,e,e',bx,ha,he,n,b,cs,hm,hcs=>by
   obtain⟨h1,h2,h3⟩:=zcj ha;simp only[zbd]at he;split at he
   ·rename_i cs1 hcs1;split at he
    ·rename_i cs0 hcs0;split at he
     ·rename_i hlen
      cases hm with
      |head=>
       rw[hcs1]at hcs;cases hcs;exact⟨cs0,hcs0,hlen⟩
      |tail _ hm=>
       obtain⟨c0,p1,p2⟩:=zdd h2 he n b cs hm hcs
       have hne:b≠b':=by
        intro e1;have:=h1 _ hm;simp[Lent.apart,e1]at this
       refine⟨c0,?_,p2⟩;rw[<-p1];show _=(if b=b' then _ else _)
       rw[if_neg hne];rfl
     ·cases he
    ·cases he
   ·cases he
 | .row n' l' ::r,e,e',bx,ha,he,n,b,cs,hm,hcs=>by
   obtain⟨h1,h2,h3⟩:=zcj ha;simp only[zbd]at he
   cases hm with
   |tail _ hm=>
    have hin:l'.root.inBox b=false:=by
     have:=h1 _ hm;simp only[Lent.apart,Bool.and_eq_true,Bool.not_eq_true']at this;exact this.1
    split at he
    ·split at he
     ·cases he
     ·split at he
      ·obtain⟨c0,p1,p2⟩:=zdd h2 he n b cs hm hcs;refine⟨c0,?_,p2⟩;rw[<-p1,za1];split
       ·rfl
       ·rename_i b'' o'' hr;rw[hr]at hin;have:b'' ≠b:=by simpa [Root.inBox]using hin
        rw[if_neg (Ne.symm this)]
      ·obtain⟨c0,p1,p2⟩:=zdd h2 he n b cs hm hcs;rw[zdo hin]at p1;exact⟨c0,p1,p2⟩
    ·exact zdd h2 he n b cs hm hcs
    ·cases he
 | .read q::r,e,e',bx,ha,he,n,b,cs,hm,hcs=>by
   obtain⟨h1,h2,h3⟩:=zcj ha;simp only[zbd]at he
   cases hm with
   |tail _ hm=>exact zdd h2 he n b cs hm hcs
theorem zi3:∀{bx:zas} {n:Nat} {cs:List A},zd8 bx=true->za5 n bx=some cs-> ∀a∈cs,a.flat=true
 | [],_,_,_,h=>by cases h
 |(n',cs')::r,n,cs,hf,hg=>by
  simp only[zd8,Bool.and_eq_true]at hf;simp only[za5]at hg;split at hg
  ·cases hg;exact zeh hf.1
  ·exact zi3 hf.2 hg
theorem z3d[Base]{g:G}{e e1:Env}{tm:Array Value}{w w':World}{m:List Lent}{bx bx':zas}{vv VV:Loc->Value}{UU:Loc->Blk}(C:CallCtx g e tm w m bx vv VV UU)(hro:zdq e m=true){as:List A}{r:V}{v:Value}{g':G}{Y:Nat->Blk}
 (hp:zdt (zaz g w m vv UU) (zak as.length as bx) w r bx' v w' g' Y) (hb:zdf e m bx' =some e1) (hfb:zzx m∨zd8 bx' =true):
 ∃g2,Sim g2 e1 tm w' /\Next g e w g2 e1 w' /\g2.c=(λb o=>if RdB g m b then g.c b o else g'.c b o)/\g2.β=g.β/\g2.γ=g.γ/\Free g2 e1 w' Y/\(∀k x,Y k x->Mine g e x∨w.heap.size<=x)/\
  (∀b,(e1.box b).isSome=(e.box b).isSome)/\(∀x,Mine g2 e1 x->x=g'.β zjf->za5 zjf bx' =none):=by
 have hok:=zei C.apart
 have hid:∀n b,Lent.box n b∈m->zaq<=n/\n<zjf/\b<zab:=by
  intro n b hb;have:=hok _ hb;simp only[Lent.okId,Bool.and_eq_true,decide_eq_true_eq]at this;exact⟨this.1.1,this.1.2,this.2⟩
 have hidr:∀n l,Lent.row n l∈m->zab<=n:=by
  intro n l hl;have:=hok _ hl;simpa [Lent.okId]using this
 have hng:zjf<zab:=by decide
 have hlg:zaq<=zjf:=by decide
 obtain⟨gh,s1,s2,s3,s4,s5,s6,s7⟩:=zhg (VV:=VV) (vv:=vv) (UU:=UU) C.sim C.apart (λn b hm=>zci C.boxes n b hm) (λn l hm=>by
  obtain⟨d,hd,hnagg⟩:=zdc hro n l hm;obtain⟨D0,hf⟩:=C.foc l d hd
  exact⟨D0,d,hf,hf.own.holed,λhp=>by
   have:=hnagg hp
   cases d with
   |agg ds=>exact absurd rfl (this ds)
   |_=>rfl⟩)
 have hrowU:∀n l,Lent.row n l∈m-> ∀x,UU l x->g.S l.root.slot x:=by
  intro n l hl x hx;obtain⟨d,hd,_⟩:=zdc hro n l hl;obtain⟨D0,hf⟩:=C.foc l d hd;exact hf.inS x hx
 have nmS:∀x,Mine (zaz g w m vv UU) (zak as.length as bx) x-> ∀s,¬gh.S s x:=by
  intro x hx s hs;rcases zfv C.apart C.boxes C.foc hx with⟨n,b,o,h1,h2⟩|⟨n,l,h1,h2,h3⟩|⟨n,b,h1,h2,h3,h4⟩
  ·have e1:=C.sim.sdis _ _ _ (s5 s x hs) h2;subst e1;exact(s6 n b h1).1 o x hs
  ·have e1:=C.sim.sdis _ _ _ (s5 s x hs) h3;subst e1;exact(s7 n l h1).1 x hs h2
  ·exact C.sim.sbox s b x (s5 s x hs) h2 h3 h4
 have nmB:∀x,Mine (zaz g w m vv UU) (zak as.length as bx) x-> ∀b,(e.box b).isSome=true->b<zab->g.β b=x-> ∃n,Lent.box n b∈m:=by
  intro x hx b hb hlt he;rcases zfv C.apart C.boxes C.foc hx with⟨n,b',o,h1,h2⟩|⟨n,l,h1,h2,h3⟩|⟨n,b',h1,h2,h3,h4⟩
  ·exact absurd he (C.sim.sbox _ b x h2 hb hlt)
  ·exact absurd he (C.sim.sbox _ b x h3 hb hlt)
  ·have:=C.sim.binj b b' hb h2 hlt h3 (he.trans h4.symm);subst this;exact⟨n,h1⟩
 have nmC:∀x o v,g.c x o=some v-> ¬Mine (zaz g w m vv UU) (zak as.length as bx) x:=by
  intro x o v hv hx;rcases zfv C.apart C.boxes C.foc hx with⟨n,b,o',h1,h2⟩|⟨n,l,h1,h2,h3⟩|⟨n,b,h1,h2,h3,h4⟩
  ·exact(C.sim.cdis x o v hv).1 _ h2
  ·exact(C.sim.cdis x o v hv).1 _ h3
  ·exact(C.sim.cdis x o v hv).2 b h2 h3 h4
 have mineG:∀x,Mine (zaz g w m vv UU) (zak as.length as bx) x->Mine g e x:=by
  intro x hx;rcases zfv C.apart C.boxes C.foc hx with⟨n,b,o',h1,h2⟩|⟨n,l,h1,h2,h3⟩|⟨n,b,h1,h2,h3,h4⟩
  ·exact .inl ⟨_,h2⟩
  ·exact .inl ⟨_,h3⟩
  ·exact .inr ⟨b,h2,h3,h4⟩
 have boxLt:∀b,(e.box b).isSome=true->b<zab->g.β b<w.heap.size:=by
  intro b hb hlt;obtain⟨cs,hcs⟩:=Option.isSome_iff_exists.1 hb;have:=C.sim.bx b cs hcs;unfold RepBox at this;rw[if_neg (by omega)]at this
  obtain⟨arr,e,h1,_⟩:=this;exact(Array.getElem?_eq_some_iff.1 h1).1
 have hret:∀n b cs,Lent.box n b∈m->za5 n bx' =some cs->g'.β n=g.β b/\ ∃arr el,w'.heap[g.β b]? =some (.cells arr el (0,0))/\arr.size=cs.length/\ ∀o a,cs[o]? =some a->a.portable=true/\(arr.getD o undef).oneCell' =true/\RepA g' (zba bx') #[] w' (.cell n o) a (arr.getD o undef):=by
  intro n b cs hm hcs;have hi:=hid n b hm;have e1:g'.β n=g.β b:=by rw[(hp.next.lent n hi.1).1,zej C.apart hm]
  refine⟨e1,?_⟩;have:=hp.sim.bx n cs hcs;unfold RepBox at this;rw[if_neg (by omega),e1]at this
  exact this
 have hw:=s1.worldD (λb=> ∃n,Lent.box n b∈m) hp.next.size (λx hx hk=>by
  refine hp.next.old x hx (λhmine=>?_)
  rcases hk with⟨s,hs⟩|⟨b,hb,hlt,hnd,he⟩|⟨o,v,hv⟩
  ·exact nmS x hmine s hs
  ·rw[zbt]at hb;rw[s3]at he;exact hnd (nmB x hmine b hb hlt he)
  ·rw[s2]at hv
   exact nmC x o v hv hmine)
  (λb cs hd hlt hcs=>by
   obtain⟨n,hn⟩:=hd;obtain⟨_,cs1,cs0,p1,p2,p3⟩:=s6 n b hn;rw[hcs]at p1;obtain rfl:=Option.some.inj p1;obtain⟨csr,hcsr⟩:=zbu hb n b hn;obtain⟨c1,q1,q2⟩:=zdd C.apart hb n b csr hn hcsr;rw[hcs]at q1;obtain rfl:=Option.some.inj q1;obtain⟨_,arr,el,k1,k2,k3⟩:=hret n b csr hn hcsr;refine⟨λa ha=>?_,arr,el,by rw[s3];exact k1,by omega,λo ho=>(k3 o _ (List.getElem?_eq_getElem (by omega))).2.1⟩
   rw[p3]at ha;obtain⟨_,_,rfl⟩:=List.mem_map.1 ha
   rfl)
 have hc2:∀b o v,(if RdB g m b then g.c b o else g'.c b o)=some v-> ¬RdB g m b/\g'.c b o=some v:=by
  intro b o v hv;split at hv
  ·rename_i hr;obtain⟨q,_,hq⟩:=hr;exact absurd hq ((C.sim.cdis b o v hv).1 _)
  ·rename_i hr;exact⟨hr,hv⟩
 have hcle:g.c.le (λb o=>if RdB g m b then g.c b o else g'.c b o):=by
  intro b o v hv;have hnr:¬RdB g m b:=λ⟨q,_,hq⟩=>(C.sim.cdis b o v hv).1 _ hq
  show (if RdB g m b then _ else _)=_
  rw[if_neg hnr];exact hp.next.c _ _ _ (C.cle _ _ _ hv)
 have hcnew:∀b o v,(if RdB g m b then g.c b o else g'.c b o)=some v->g.c b o=some v∨Mine (zaz g w m vv UU) (zak as.length as bx) b∨w.heap.size<=b:=by
  intro b o v hv;obtain⟨h1,h2⟩:=hc2 b o v hv;rcases hp.next.cnew b o v h2 with h3|h3|h3
  ·have h4:(if RdB g m b then zbc w b o else g.c b o)=some v:=h3
   rw[if_neg h1]at h4;exact .inl h4
  ·exact .inr (.inl h3)
  ·exact .inr (.inr h3)
 have hl:=hw.learn (λb o=>if RdB g m b then g.c b o else g'.c b o) (by rw[s2];exact hcle)
  (λb o v hv=>hp.sim.cmem b o v (hc2 b o v hv).2)
  (λb o v hv=>by
   rcases hcnew b o v hv with h1|h1|h1
   ·rw[s2];exact .inl h1
   ·right;rintro(⟨s,hs⟩|⟨b',hb',hlt',he⟩)
    ·exact nmS b h1 s hs
    ·rw[zbt]at hb';rw[s3]at he;obtain⟨n,hn⟩:=nmB b h1 b' hb' hlt' he;obtain⟨cs,hcs⟩:=zbu hb n b' hn;have:=hid n b' hn;exact(hp.sim.cdis b o v (hc2 b o v hv).2).2 n (by show (za5 n bx').isSome=true;rw[hcs];rfl) (by omega) (by rw[(hret n b' cs hn hcs).1];exact he)
   ·right;rintro(⟨s,hs⟩|⟨b',hb',hlt',he⟩)
    ·have:=s1.slt s b hs;omega
    ·rw[zbt]at hb';rw[s3]at he
     have:=boxLt b' hb' hlt';omega)
 have hT:∀n o n' o' x,g'.S (.cell n o) x->g'.S (.cell n' o') x->n=n' /\o=o':=by
  intro n o n' o' x h1 h2;have:=hp.sim.sdis _ _ _ h1 h2;cases this;exact⟨rfl,rfl⟩
 have mineT:∀s x,g'.S s x->Mine (zaz g w m vv UU) (zak as.length as bx) x∨w.heap.size<=x:=λs x hx=>hp.next.mine x (.inl ⟨s,hx⟩)
 have hback:Backs w' (λb o=>if RdB g m b then g.c b o else g'.c b o) g.β vv (λn o=>g'.S (.cell n o)) m bx':=by
  refine⟨λn b cs hm hcs=>?_,λn l d hm hd=>?_⟩
  ·obtain⟨k0,arr,el,k1,k2,k3⟩:=hret n b cs hm hcs;refine⟨arr,el,k1,k2,λo a ha=>?_⟩
   obtain⟨p1,p2,p3⟩:=k3 o a ha;have hi:=hid n b hm
   have:=RepA.cellV (c:=λb o=>if RdB g m b then g.c b o else g'.c b o) p1 (by omega) (λd e1 hro=>by
    rcases hfb with hno|hfl
    ·refine RO.mono (λb o v hv=>?_) hro
     show (if RdB g m b then _ else _)=_
     rw[if_neg (λ⟨q,hq,_⟩=>hno q hq)]
     exact hv
    ·have:=zi3 hfl hcs a (List.mem_of_getElem? ha);rw[e1]at this
     exact RO.flatG hro this) p3
   rw[k0]at this;exact⟨p1,p2,this⟩
  ·have:=hp.sim.bx n [.own d] hd;have hi:=hidr n l hm;unfold RepBox at this;rw[if_pos hi]at this;obtain⟨a,e1,_,h3⟩:=this;cases e1
   rw[(hp.next.lent n (by have:zaq<=zab:=by decide
                          omega)).2,zl6 C.apart hm]at h3
   exact h3
 obtain⟨g2,t1,t2,t3,t4,t5,t6⟩:=zfx (T:=λn o=>g'.S (.cell n o)) hT hl rfl s3 C.apart hback
  (λa n hm hidn o=>by
   refine⟨λs x hx hs=>?_,λx b hx hb' hlt' he=>?_,λx hx=>hp.sim.slt _ x hx,λx o' v hx hv=>(hp.sim.cdis x o' v (hc2 x o' v hv).2).1 _ hx⟩
   ·rcases mineT _ x hx with h1|h1
    ·exact nmS x h1 s hs
    ·have:=s1.slt s x hs;omega
   ·rw[zbt]at hb';have he':g.β b=x:=by rw[<-s3];exact he
    rcases mineT _ x hx with h1|h1
    ·obtain⟨n',hn'⟩:=nmB x h1 b hb' hlt' he';obtain⟨cs,hcs⟩:=zbu hb n' b hn';have hi:=hid n' b hn';exact hp.sim.sbox _ n' x hx (by show (za5 n' bx').isSome=true;rw[hcs];rfl) (by omega) (by rw[(hret n' b cs hn' hcs).1];exact he')
    ·have:=boxLt b hb' hlt';omega)
  (λn l hm=>by
   obtain⟨_,D0,d,p1,p2,p3⟩:=s7 n l hm;obtain⟨D0',hf⟩:=C.foc l d (by simp only[Env.ownAt,p1];exact p2)
   have hnil:l.path≠[]->zk5 d=.hole:=λhp=>by
    obtain⟨d',q1,q2⟩:=zdc hro n l hm;have:d' =d:=by simp only[Env.ownAt,p1]at q1;rw[p2]at q1;cases q1;rfl
    subst this;have:=q2 hp
    cases d' with
    |agg ds=>exact absurd rfl (this ds)
    |_=>rfl
   refine⟨_,p3,⟨_,zkx p2 (λhp=>by rw[hnil hp];rfl)⟩,?_⟩
   have hVV:RootV gh tm w l.root (VV l):=by
    have:=hf.rootV
    cases hq:l.root with
    |tmp t=>rw[hq]at this;exact this
    |cell b o=>rw[hq]at this;simp only[RootV]at this ⊢;rw[s3,s4];exact this
   have hc0:ConcV gh tm w l (vv l):=⟨VV l,hVV,hf.path⟩;have hown:(zbl e m).ownAt l=some (zk5 d):=by simp only[Env.ownAt,p3];exact zkx p2 (λhp=>by rw[hnil hp];rfl)
   obtain⟨D0h,Vh,vh,Uh,hfh⟩:=s1.focusAt hown;have hve:vh=vv l:=hfh.conc.det hc0;refine⟨Vh,?_,by rw[<-hve];exact hfh.pathF w' (λx hx _=>hp.next.old x (s1.slt _ x hx) (λhmn=>nmS x hmn _ hx))⟩
   have hrv:=hfh.rootV
   cases hq:l.root with
   |tmp t=>rw[hq]at hrv;exact hrv
   |cell b o=>
    rw[hq]at hrv;simp only[RootV]at hrv ⊢;split
    ·rename_i hg;rw[if_pos hg]at hrv;exact hrv
    ·rename_i hg;rw[if_neg hg]at hrv
     have hbs:(e.box b).isSome=true:=by
      rw[hq]at p1;simp only[Env.root]at p1;split at p1
      ·rename_i cs hcs;rw[hcs];rfl
      ·cases p1
     rw[s3]at hrv ⊢
     rw[World.cell?_of_block (w':=w') (w:=w) (hp.next.old _ (boxLt b hbs (by omega)) (λhmn=>by
      obtain⟨n',hn'⟩:=nmB _ hmn b hbs (by omega) rfl
      have:=(zs8 C.apart hn' hm).1;rw[hq]at this
      simp[Root.inBox]at this))]
     exact hrv) hb
 have hbox1:∀b,(e1.box b).isSome=(e.box b).isSome:=λb=>(t6 b).trans (zbt b)
 have hβ2:g2.β=g.β:=t3.trans s3;have hγ2:g2.γ=g.γ:=t4.trans s4;have hYm:∀k x,Y k x->Mine g e x∨w.heap.size<=x:=λk x hx=>(hp.mine k x hx).imp (mineG x) id
 have freshB:∀x,(Mine (zaz g w m vv UU) (zak as.length as bx) x∨w.heap.size<=x)->(∀n,((zba bx').box n).isSome=true->n<zab->(∃b,Lent.box n b∈m)->g'.β n≠x)-> ∀b,(e1.box b).isSome=true->b<zab->g2.β b≠x:=by
  intro x hx hn b hb' hlt' he;rw[hbox1]at hb';rw[hβ2]at he;rcases hx with h1|h1
  ·obtain⟨n',hn'⟩:=nmB x h1 b hb' hlt' he;obtain⟨cs,hcs⟩:=zbu hb n' b hn';have hi:=hid n' b hn';exact hn n' (by show (za5 n' bx').isSome=true;rw[hcs];rfl) (by omega) ⟨b,hn'⟩ (by rw[(hret n' b cs hn' hcs).1];exact he)
  ·have:=boxLt b hb' hlt';omega
 have noS:∀x,(Mine (zaz g w m vv UU) (zak as.length as bx) x∨w.heap.size<=x)->(∀s,¬g'.S s x)-> ∀s,¬g2.S s x:=by
  intro x hx hn s hs;rcases t5 s x hs with h1|⟨a,n,o,_,_,h1⟩
  ·rcases hx with h2|h2
   ·exact nmS x h2 s h1
   ·have:=s1.slt s x h1;omega
  ·exact hn _ h1
 refine⟨g2,t1,⟨hp.next.os,hp.next.tape,hp.next.output,hp.next.size,λx hx hm=>hp.next.old x hx (λh1=>hm (mineG x h1)),λx hx=>?_,by rw[t2];exact hcle,λb o v hv=>?_,λb _=>⟨by rw[hβ2],by rw[hγ2]⟩⟩,t2,hβ2,hγ2,
  ⟨hp.free.one,λk s x hx hs=>?_,λk x b hx hb' hlt' =>?_,hp.free.lt,λk x o v hx hv=>?_⟩,hYm,hbox1,λx hx he=>?_⟩
 ·rcases hx with⟨s,hs⟩|⟨b,hb',hlt',he⟩
  ·rcases t5 s x hs with h1|⟨a,n,o,_,_,h1⟩
   ·exact .inl (.inl ⟨s,s5 s x h1⟩)
   ·exact(mineT _ x h1).imp (mineG x) id
  ·rw[hbox1]at hb';rw[hβ2]at he;exact .inl (.inr ⟨b,hb',hlt',he⟩)
 ·rw[t2]at hv;exact(hcnew b o v hv).imp id (λh=>h.imp (mineG b) id)
 ·exact noS x (hp.mine k x hx) (λs' hs' =>hp.free.S k s' x hx hs') s hs
 ·exact freshB x (hp.mine k x hx) (λn hn hlt _=>hp.free.box k x n hx hn hlt) b hb' hlt'
 ·rw[t2]at hv;exact hp.free.c k x o v hx (hc2 x o v hv).2
 ·cases hnb:za5 zjf bx' with
  |none=>rfl
  |some cs=>
   exfalso;have hsome:((zba bx').box zjf).isSome=true:=by show (za5 zjf bx').isSome=true;rw[hnb];rfl
   have hmn:Mine (zaz g w m vv UU) (zak as.length as bx) x∨w.heap.size<=x:=hp.next.mine x (.inr ⟨zjf,hsome,hng,he.symm⟩)
   rcases hx with⟨s,hs⟩|⟨b,hb',hlt',he2⟩
   ·exact noS x hmn (λs' hs' =>hp.sim.sbox s' zjf x hs' hsome hng he.symm) s hs
   ·refine freshB x hmn (λn hn hlt ⟨b',hb''⟩ he3=>?_) b hb' hlt' he2
    have:=hp.sim.binj n zjf hn hsome hlt hng (by rw[he3,he])
    have hi:=hid n b' hb'';omega
end Go.Qz
namespace Go.Qz
open Classical
abbrev Post[Base](g:G)(env:Env)(w:World)(r:V)(bx':zas)(v:Value)(w':World):Prop:=match r with
 | .agg cs=> ∃(us:Array Value) (el:TypeId),v=.pointer (some ⟨w.heap.size,0,none⟩)/\w' =w.alloc (.cells us el)/\us.size=cs.length/\ ∀k d,cs[k]? =some (.ro d)->(us.getD k undef).oneCell' =true/\RO g.c d (us.getD k undef)
 |r=> ∃g' Y,zdt g env w r bx' v w' g' Y
theorem Post.of[Base]{g:G}{env:Env}{w w':World}{r:V}{bx':zas}{v:Value}{g':G}{Y:Nat->Blk}(hr:∀cs,r≠.agg cs)(h:zdt g env w r bx' v w' g' Y):Post g env w r bx' v w':=by
 cases r with
 |one a=>exact⟨g',Y,h⟩
 |tup as=>exact⟨g',Y,h⟩
 |agg as=>exact absurd rfl (hr as)
theorem Post.leaves[Base]{g:G}{env:Env}{w w':World}{r:V}{bx':zas}{v:Value}(hr:r.leavesV=true)(h:Post g env w r bx' v w'):∃g' Y,zdt g env w r bx' v w' g' Y:=by
 cases r with
 |one a=>exact h
 |tup as=>exact h
 |agg as=>cases hr
def zav[Base](P:Program)(call:zai):Prop:=∀f as bx r bx',call f as bx=some (r,bx')->(∃fn,P.funcs[f]? =some fn/\fn.body.isSome=true/\fn.name≠ "runtime.NumGoroutine")/\
 ∀(g:G) (w:World) (vs:Array Value),vs.size=as.length->Sim g (zak as.length as bx) vs w->Calls P f vs w (λen w' => ∃v,en=.returned v/\Post g (zak as.length as bx) w r bx' v w')
structure zff[Base](P:Program)(call:zai):Prop where
 tab:zo2 P
 fn:zav P call
theorem zhh[Base]{P:Program}{g:G}{e:Env}{a:Act}{w:World}(h:Sim g e a.tmps w){x:Operand}{ty:TypeId}{V:V}(hx:za4 P e ty x=some V):zs9 g e a.tmps w (V,zhn x) (a.eval x):=by
 cases x with
 |tmp t=>
  simp only[za4,Option.some.injEq]at hx;subst hx;have ht:=h.tv t;have hev:a.eval (.tmp t)=a.tmps.getD t undef:=rfl
  cases hV:e.get t with
  |one p=>
   rw[hV]at ht;have ht':RepA g e a.tmps w (.tmp t 0) p (a.tmps.getD t undef):=ht;have hh:(∀d,p≠.own d)->HoldA g e a.tmps w (λ_=>False) p (a.eval (.tmp t)):=λhno=>RepA.hold hno ht'
   cases p with
   |own d=>exact⟨hV,rfl⟩
   |_=>exact hh (λd e=>(by cases e))
  |tup as=>trivial
  |agg as=>
   rw[hV]at ht;obtain⟨vs,e1,hs,hk⟩:=ht;exact⟨vs,e1,hs,λk p hp=>⟨(hk k p hp).1,λhno=>RepA.hold (λd e=>by rw[e]at hno;cases hno) (hk k p hp).2⟩⟩
 |const v=>
  simp only[za4]at hx;split at hx
  ·rename_i p hp;obtain rfl:=Option.some.inj hx;rcases zgn hp with⟨d,rfl,hr⟩|⟨z,rfl,rfl⟩
   ·exact hr _
   ·exact .nil
  ·cases hx
 |func f=>
  simp only[za4,Option.some.injEq]at hx;subst hx;exact⟨#[],rfl,rfl,λk c hc=>by simp at hc⟩
 |global q=>cases hx
theorem zia[Base]{P:Program}{g:G}{e:Env}{a:Act}{w:World}(h:Sim g e a.tmps w):∀{xs:List Operand} {tys:List TypeId} {vs:List V},za0 P e (xs.zip tys)=some vs->xs.length=tys.length->
 vs.length=xs.length/\ ∀(k:Nat) (p:V×Option Nat),(vs.zip (xs.map zhn))[k]? =some p-> ∃x,xs[k]? =some x/\zs9 g e a.tmps w p (a.eval x)
 | [],tys,vs,hv,_=>by
   simp only[List.zip_nil_left,za0,Option.some.injEq]at hv;subst hv;exact⟨rfl,λk p hp=>by simp at hp⟩
 |x::r,[],vs,hv,hl=>by simp at hl
 |x::r,ty::tys,vs,hv,hl=>by
  simp only[List.zip_cons_cons,za0]at hv;split at hv
  ·rename_i V hV;split at hv
   ·rename_i vs' hvs;obtain rfl:=Option.some.inj hv;obtain⟨h1,h2⟩:=zia h hvs (by simpa using hl)
    refine⟨by simp[h1],λk p hp=>?_⟩
    cases k with
    |zero=>
     simp only[List.map_cons,List.zip_cons_cons,List.getElem?_cons_zero,Option.some.injEq]at hp;subst hp;exact⟨x,rfl,zhh h hV⟩
    |succ k=>
     obtain⟨y,h3,h4⟩:=h2 k p (by simpa using hp)
     exact⟨y,by simpa using h3,h4⟩
   ·cases hv
  ·cases hv
theorem zta{g' g2:G}{e1 e2:Env}{tm1 tm2:Array Value}{w:World}{Y:Nat->Blk}{r:V}{v:Value}(hl:r.leavesV=true)(hc:g'.c.le g2.c∨r.flatRet=true)(h:HoldV g' e1 tm1 w Y r v):HoldV g2 e2 tm2 w Y r v:=by
 have one:∀{a:A} {v:Value} {T:Blk},a.leaves=true->(g'.c.le g2.c∨a.flat=true)->HoldA g' e1 tm1 w T a v->HoldA g2 e2 tm2 w T a v:=by
  intro a v T hl hc h
  cases a with
  |own d=>exact h
  |ro d=>
   rcases hc with hc|hc
   ·exact RO.mono hc h
   ·exact RO.flatG h hc
  |fn f caps=>
   cases caps with
   |nil=>obtain⟨vs,e,hs,_⟩:=h;exact⟨vs,e,hs,λk c hc=>by simp at hc⟩
   |cons c r=>simp[A.leaves]at hl
  |_=>simp[A.leaves]at hl
 cases r with
 |one a=>exact one hl hc h
 |tup as=>
  obtain⟨vs,e,hs,hk⟩:=h;exact⟨vs,e,hs,λk a ha=>one (zeh hl a (List.mem_of_getElem? ha)) (hc.imp id (λhf=>zeh hf a (List.mem_of_getElem? ha))) (hk k a ha)⟩
 |agg as=>cases hl
theorem zl7{caps:List Cap}{k:Nat}{p:V×Option Nat}(h:(zb6 caps)[k]? =some p):∃c,caps[k]? =some c/\p=(match c with| .ptr b=>(.one (.ptr b 0),none)| .ro d=>(.one (.ro d),none)):=by
 unfold zb6 at h;rw[List.getElem?_map]at h
 cases hq:caps[k]? with
 |none=>rw[hq]at h;cases h
 |some c=>
  rw[hq]at h;obtain rfl:=Option.some.inj h;exact⟨c,rfl,by cases c<;>rfl⟩
theorem zo5{P:Program}{io:FuncId->List Nat}{call:zai}{e:Env}{f:FuncId}{caps:List Cap}{args:List Operand}{tys:List TypeId}{r:V}{e1:Env}(he:zb7 P io call e f caps args tys=some (r,e1)):
 ∃Vs as m bx bx',args.length=tys.length/\za0 P e (args.zip tys)=some Vs/\lend e (io f) 0 (Vs.zip (args.map zhn)++zb6 caps)=some (as,m)/\(zax m&&zdq e m)=true/\zar e m=some bx/\
  call f as bx=some (r,bx')/\zm2 m r bx' =true/\zdf e m bx' =some e1:=by
 unfold zb7 at he;split at he
 ·rename_i as m bx hp;split at he
  ·rename_i r' bx' hc;split at he
   ·rename_i hok;split at he
    ·rename_i e' hg;simp only[Option.some.injEq,Prod.mk.injEq]at he;obtain⟨rfl,rfl⟩:=he;unfold zhp at hp;split at hp
     ·rename_i hlen;split at hp
      ·rename_i Vs hVs;split at hp
       ·rename_i as' m' hl;split at hp
        ·rename_i hap;split at hp
         ·rename_i bx0 hbx;simp only[Option.some.injEq,Prod.mk.injEq]at hp;obtain⟨rfl,rfl,rfl⟩:=hp;exact⟨Vs,_,_,_,bx',hlen,hVs,hl,hap,hbx,hc,hok,hg⟩
         ·cases hp
        ·cases hp
       ·cases hp
      ·cases hp
     ·cases hp
    ·cases he
   ·cases he
  ·cases he
 ·cases he
theorem zqz[Base]{P:Program}{io:FuncId->List Nat}{call:zai}(hcs:zff P call){g:G}{e:Env}{tm:Array Value}{w:World}(h:Sim g e tm w){f:FuncId}{ps:List (V×Option Nat)}{as:List A}{m:List Lent}{bx bx':zas}{r:V}{e1:Env}
 (hlend:lend e (io f) 0 ps=some (as,m)) (hok:(zax m&&zdq e m)=true) (hbx:zar e m=some bx) (hcall:call f as bx=some (r,bx')) (hchk:zm2 m r bx' =true) (hgb:zdf e m bx' =some e1) {vs:Array Value} (hvs0:vs.size=ps.length)
 (harg:∀(k:Nat) p,ps[k]? =some p->zs9 g e tm w p (vs.getD k undef)):
 (∃fn,P.funcs[f]? =some fn/\fn.body.isSome=true/\fn.name≠ "runtime.NumGoroutine")/\Calls P f vs w (λen w' => ∃v,en=.returned v/\Holds g e tm w r v e1 w'):=by
 simp only[Bool.and_eq_true]at hok;simp only[zm2,Bool.and_eq_true,Bool.or_eq_true,Bool.not_eq_true']at hchk;obtain⟨VV,vv,UU,hfoc⟩:=h.focuses;have C:CallCtx g e tm w m bx vv VV UU:=⟨h,hok.1,hbx,hfoc⟩;obtain⟨hal,haa⟩:=CallCtx.args C hlend (λ_ h=>h) (λk=>vs.getD k undef) harg (vs':=vs) (as:=as) (n':=as.length)
 have hvs:vs.size=as.length:=by rw[hal,hvs0]
 have hstart:=zkh h hok.1 hbx hfoc hvs (λk p hp=>haa k p hp k)
 obtain⟨hfn,hcalls⟩:=hcs.fn f as bx r bx' hcall
 have hfb:zzx m∨zd8 bx' =true:=by
  rcases hchk.2 with h1|h1
  ·left;intro q hq;have:m.any Lent.isRead=true:=List.any_eq_true.2 ⟨_,hq,rfl⟩;rw[this]at h1;cases h1
  ·exact .inr h1.2
 refine⟨hfn,(hcalls _ w vs hvs hstart).mono ?_⟩;rintro en w' ⟨v,rfl,hpost0⟩;obtain⟨g',Y,hpost⟩:=hpost0.leaves hchk.1;obtain⟨g2,t1,t2,t3,t4,t5,t6,t7,t8,_⟩:=z3d C hok.2 hpost hgb hfb
 have hold:HoldV g2 e1 tm w' Y r v:=zta hchk.1 (by
  rcases hchk.2 with h1|h1
  ·left;rw[t3];intro b o v hv;show (if RdB g m b then _ else _)=_
   have hnr:¬RdB g m b:=by
    rintro⟨q,hq,_⟩;have:m.any Lent.isRead=true:=List.any_eq_true.2 ⟨_,hq,rfl⟩;rw[this]at h1;cases h1
   rw[if_neg hnr];exact hv
  ·exact .inr h1.1) hpost.hold
 exact⟨v,rfl,g2,Y,t1,hold,t6,t2,t7⟩
theorem zzy[Base]{P:Program}{g:G}{e:Env}{a:Act}{w:World}(h:Sim g e a.tmps w){args:Array Operand}{argTypes:Array TypeId}{caps:List Cap}{cv:Array Value}(hcl:cv.size=caps.length)(hcap:∀k c,caps[k]? =some c->RepCap g e c (cv.getD k undef)){Vs:List V}
 (hlen:args.toList.length=argTypes.toList.length) (hVs:za0 P e (args.toList.zip argTypes.toList)=some Vs):
 (args.map a.eval++cv).size=(Vs.zip (args.toList.map zhn)++zb6 caps).length/\ ∀(k:Nat) p,(Vs.zip (args.toList.map zhn)++zb6 caps)[k]? =some p->zs9 g e a.tmps w p ((args.map a.eval++cv).getD k undef):=by
 obtain⟨hol,hoa⟩:=zia h hVs hlen
 have hzl:(Vs.zip (args.toList.map zhn)).length=args.size:=by
  rw[List.length_zip,List.length_map,hol,Array.length_toList,Nat.min_self]
 refine⟨by rw[List.length_append,hzl];simp[zb6,hcl],?_⟩
 intro k p hp;rcases Nat.lt_or_ge k args.size with hk|hk
 ·rw[List.getElem?_append_left (by omega)]at hp
  obtain⟨x,hx,hx2⟩:=hoa k p hp;rw[Array.getElem?_toList]at hx
  have:(args.map a.eval++cv).getD k undef=a.eval x:=by
   rw[Array.getD_eq_getD_getElem?,Array.getElem?_append_left (by simpa using hk),Array.getElem?_map,hx]
   rfl
  rw[this];exact hx2
 ·rw[List.getElem?_append_right (by omega),hzl]at hp
  obtain⟨c,hc,rfl⟩:=zl7 hp
  have:(args.map a.eval++cv).getD k undef=cv.getD (k-args.size) undef:=by
   rw[Array.getD_eq_getD_getElem?,Array.getElem?_append_right (by simpa using hk),Array.size_map,Array.getD_eq_getD_getElem?]
  rw[this];have:=hcap _ c hc;cases c<;>exact this
theorem zq0{P:Program}{a:Act}{w:World}{o:Oper}{fop:Operand}{args:Array Operand}{argTypes:Array TypeId}(ho:o.op=.call {callee:=.value fop,args,argTypes}){f:FuncId}{cv:Array Value}(hf:a.eval fop=.func (.func f) #[] cv)
 (hfn:∃fn,P.funcs[f]? =some fn/\fn.body.isSome=true/\fn.name≠ "runtime.NumGoroutine"):(execOp a.eval o).run P w=.ok (.enter f (args.map a.eval++cv)) w:=by
 obtain⟨fn,hfn,hbody,hname⟩:=hfn;have hb:¬fn.body=none:=by intro e0;rw[e0]at hbody;cases hbody
 simp[execOp,ho,resolve,Deferred.ofValue,hf,invoke,callFunc,hfn,hname,hb]
theorem zib[Base]{P:Program}{io:FuncId->List Nat}{call:zai}(hcs:zff P call){g:G}{e e':Env}{a:Act}{w:World}(h:Sim g e a.tmps w){o:Oper}{fop:Operand}{args:Array Operand}{argTypes:Array TypeId}(ho:o.op=.call {callee:=.value fop,args,argTypes})
 {f:FuncId} {caps:List Cap} {cv:Array Value} (hf:a.eval fop=.func (.func f) #[] cv) (hcl:cv.size=caps.length) (hcap:∀k c,caps[k]? =some c->RepCap g e c (cv.getD k undef)) {r:V} {e1:Env} (he:zb7 P io call e f caps args.toList argTypes.toList=some (r,e1))
 (hput:zap e1 o.dst r=some e'):Runs P g e a w o e':=by
 obtain⟨Vs,as,m,bx,bx',hlen,hVs,hlend,hok,hbx,hcall,hchk,hgb⟩:=zo5 he;obtain⟨hsz,harg⟩:=zzy h hcl hcap hlen hVs;obtain⟨hfn,hcalls⟩:=zqz hcs h hlend hok hbx hcall hchk hgb hsz harg;intro next Q hnext
 unfold Oper.wp;rw[zq0 ho hf hfn,Oper.upon_enter];refine hcalls.mono ?_;rintro en w' ⟨v,rfl,hh⟩;exact hnext _ _ (by rw[zha];exact hh.put hput) (zd1 _ _ _)
theorem zq1[Base]{P:Program}{io:FuncId->List Nat}{call:zai}(hcs:zff P call){g0:G}{e0:Env}{tm:Array Value}{w1:World}{t:Nat}{vals:Array Value}(ht:tm.getD t undef=.agg vals){blk:Nat}(hb1:blk<w1.heap.size)(hb2:¬Mine g0 e0 blk){o1:Option Obj}
 {l:List (Nat×FuncId)} {d':D} {e':Env} {i:Nat} {p:Nat×FuncId} (hp:l[i]? =some p) {k:Value} {w':World}
 (hI:∃g e d,zb2 io call t (l.drop i) e d=some (d',e')/\Sim g e tm w' /\Next g0 e0 w1 g e w' /\RO g.c d k/\w'.heap[blk]? =o1):
 Calls P p.2 #[vals.getD p.1 undef,k] w' (λen w'' => ∃v,en=.returned v/\ ∃g e d,zb2 io call t (l.drop (i+1)) e d=some (d',e')/\Sim g e tm w'' /\Next g0 e0 w1 g e w'' /\RO g.c d v/\w''.heap[blk]? =o1):=by
 obtain⟨g,e,d,hgo,hs,hn,hr,ho⟩:=hI
 have hdrop:l.drop i=p::l.drop (i+1):=by
  obtain⟨hi,rfl⟩:=List.getElem?_eq_some_iff.1 hp;exact List.drop_eq_getElem_cons hi
 obtain⟨pi,pf⟩:=p;rw[hdrop]at hgo;simp only[zb2]at hgo;split at hgo
 ·rename_i as hget;split at hgo
  ·rename_i lc has;split at hgo
   ·rename_i as' m hlend;split at hgo
    ·rename_i hok;split at hgo
     ·rename_i bx hbx;split at hgo
      ·rename_i d1 bx' hcall;split at hgo
       ·rename_i hchk;split at hgo
        ·rename_i e1 hgb;have htv:=hs.tv t;rw[hget,ht]at htv;obtain⟨vs,hvs,hsz,hk⟩:=htv;cases hvs
         obtain⟨_,hcalls⟩:=zqz hcs hs (vs:=#[vals.getD pi undef,k]) hlend hok hbx hcall hchk hgb rfl (λj q hq=>by
          match j,hq with
          |0,hq=>
           simp only[List.getElem?_cons_zero,Option.some.injEq]at hq;subst hq;have h9:HoldA g e tm w' (λ_=>False) (.view lc) (vals.getD pi undef):=RepA.hold (λd e=>by cases e) (hk pi _ has).2
           exact h9
          |1,hq=>
           simp only[List.getElem?_cons_succ,List.getElem?_cons_zero,Option.some.injEq]at hq;subst hq;exact hr
          |j+2,hq=>simp at hq)
         refine hcalls.mono ?_;rintro en w'' ⟨v,rfl,g2,Y,s1,s2,s3,s4,s5⟩;refine⟨v,rfl,g2,e1,d1,hgo,s1,hn.trans s4,s2,?_⟩;rw[s4.old blk (Nat.lt_of_lt_of_le hb1 hn.size) (λhm=>(hn.mine blk hm).elim hb2 (λhle=>by omega))]
         exact ho
        ·cases hgo
       ·cases hgo
      ·cases hgo
     ·cases hgo
    ·cases hgo
   ·cases hgo
  ·cases hgo
 ·cases hgo
theorem zq2[Base]{P:Program}{io:FuncId->List Nat}{call:zai}(hcs:zff P call){g:G}{e e':Env}{a:Act}{w:World}(h:Sim g e a.tmps w){o:Oper}{fop:Operand}{args:Array Operand}{argTypes:Array TypeId}(ho:o.op=.call {callee:=.value fop,args,argTypes})
 {f:FuncId} {cv:Array Value} (hf:a.eval fop=.func (.func f) #[] cv) (hcl:cv.size=0) {l:List Nat} (he:zcz P io call e f args.toList o.dst l=some e'):Runs P g e a w o e':=by
 obtain⟨args⟩:=args;obtain rfl:cv= #[]:=Array.eq_empty_of_size_eq_zero hcl;unfold zcz at he;split at he
 ·rename_i n T r;split at he
  ·rename_i t y hargs;split at he
   ·rename_i as hget;split at he
    ·rename_i hc;obtain⟨hlen,hfn,hwalk⟩:=hc;split at he
     ·rename_i d hy;split at he
      ·rename_i d' e1 hgo;obtain rfl:args=[.tmp t,y]:=hargs;have htv:=h.tv t;rw[hget]at htv;obtain⟨vals,hvals,hsz,_⟩:=htv;have hyv:RO g.c d (a.eval y):=zhh h hy
       have hblk:¬Mine g e w.heap.size:=by
        rintro(⟨s,hs⟩|⟨b,hb,hlt,hx⟩)
        ·have:=h.slt s _ hs;omega
        ·obtain⟨cs,hcs'⟩:=Option.isSome_iff_exists.1 hb;have:=h.bx b cs hcs';unfold RepBox at this;rw[if_neg (by omega)]at this
         obtain⟨arr,el,h1,_⟩:=this;have:=(Array.getElem?_eq_some_iff.1 h1).1;omega
       have hold:∀x,x<w.heap.size->(w.alloc (.cells vals T)).heap[x]? =w.heap[x]?:=λx hx=>Go.heap_alloc_old w _ x hx
       have hnew:(w.alloc (.cells vals T)).heap[w.heap.size]? =some (.cells vals T (0,0)):=Go.heap_alloc_new w _;have hsz1:(w.alloc (.cells vals T)).heap.size=w.heap.size+1:=by show (w.heap.push _).size=_;rw[Array.size_push]
       have h1:=h.grow (w':=w.alloc (.cells vals T)) (by omega) hold
       have hcalls:=hwalk vals (a.eval y) w (λi k w' => ∃g2 e2 d2,zb2 io call t ((zk7 r).drop i) e2 d2=some (d',e1)/\Sim g2 e2 a.tmps w' /\Next g e (w.alloc (.cells vals T)) g2 e2 w' /\RO g2.c d2 k/\w'.heap[w.heap.size]? =some (.cells vals T (0,0)))
        (by rw[hsz,hlen]) ⟨g,e,d,hgo,h1,Next.refl _ _ _,hyv,hnew⟩ (λi k w' hI=>by obtain⟨_,_,_,_,_,_,_,hx⟩:=hI;exact hx)
        (λi p hp k w' hI=>zq1 hcs hvals (by omega) hblk hp hI)
       intro next Q hnext
       unfold Oper.wp;rw[zq0 ho hf hfn,Oper.upon_enter]
       have hve:(#[Operand.tmp t,y].map a.eval++ #[]:Array Value)= #[.agg vals,a.eval y]:=by
        have:a.eval (.tmp t)=.agg vals:=hvals;simp[this]
       rw[hve];refine hcalls.mono ?_;rintro en w' ⟨v,rfl,g2,e2,d2,hgo2,s1,s2,s3,_⟩;rw[List.drop_length]at hgo2;simp only[zb2,Option.some.injEq,Prod.mk.injEq]at hgo2;obtain⟨rfl,rfl⟩:=hgo2
       have hn:Next g e w g2 e2 w':=⟨s2.os,s2.tape,s2.output,by have:=s2.size;omega,λx hx hm=>by rw[s2.old x (by omega) hm,hold x hx],λx hx=>(s2.mine x hx).imp id (λhle=>by omega),s2.c,
        λb o v hv=>by rcases s2.cnew b o v hv with q|q|q;exact .inl q;exact .inr (.inl q);exact .inr (.inr (by omega)),s2.lent⟩
       have hh:Holds g e a.tmps w (.one (.ro d2)) v e2 w':=⟨g2,λ_ _=>False,s1,s3,zaw _ _ _,hn,λ_ _ hx=>hx.elim⟩
       exact hnext _ _ (by rw[zha];exact hh.put he) (zd1 _ _ _)
      ·cases he
     ·cases he
    ·cases he
   ·cases he
  ·cases he
 ·cases he
theorem zq3{P:Program}{io:FuncId->List Nat}{call:zai}{e e':Env}{f:FuncId}{caps:List Cap}{args:List Operand}{tys:List TypeId}{dst:Option Nat}(he:zeo P io call e f caps args tys dst=some e'):
 (caps=[]/\zcz P io call e f args dst ((io f).drop 2)=some e')∨(∃Vs as cs,args.length=tys.length/\za0 P e (args.zip tys)=some Vs/\lend e (io f) 0 (Vs.zip (args.map zhn)++zb6 caps)=some (as,[])/\call f as []=some (.agg cs,[])/\zop e dst cs=some e')∨zk6 dst (zb7 P io call e f caps args tys)=some e':=by
 unfold zeo at he;split at he
 ·split at he
  ·exact .inl ⟨rfl,he⟩
  ·cases he
 refine .inr ?_;split at he
 ·rename_i as hp;split at he
  ·rename_i cs hc;unfold zhp at hp;split at hp
   ·rename_i hlen;split at hp
    ·rename_i Vs hVs;split at hp
     ·rename_i as' m' hl;split at hp
      ·split at hp
       ·simp only[Option.some.injEq,Prod.mk.injEq]at hp;obtain⟨rfl,rfl,_⟩:=hp;exact .inl ⟨Vs,_,cs,hlen,hVs,hl,hc,he⟩
       ·cases hp
      ·cases hp
     ·cases hp
    ·cases hp
   ·cases hp
  ·exact .inr he
  ·cases he
 ·cases he
theorem zwl[Base]{P:Program}{io:FuncId->List Nat}{call:zai}(hcs:zff P call){g:G}{e e':Env}{a:Act}{w:World}(h:Sim g e a.tmps w){o:Oper}{fop:Operand}{args:Array Operand}{argTypes:Array TypeId}(ho:o.op=.call {callee:=.value fop,args,argTypes})
 {f:FuncId} {caps:List Cap} {cv:Array Value} (hf:a.eval fop=.func (.func f) #[] cv) (hcl:cv.size=caps.length) (hcap:∀k c,caps[k]? =some c->RepCap g e c (cv.getD k undef)) (he:zeo P io call e f caps args.toList argTypes.toList o.dst=some e'):Runs P g e a w o e':=by
 rcases zq3 he with⟨rfl,hsp⟩|⟨Vs,as,cs,hlen,hVs,hlend,hcall,hopen⟩|hcold
 ·exact zq2 hcs h ho hf hcl hsp
 rotate_left
 ·unfold zk6 at hcold;split at hcold
  ·rename_i v e1 hc;split at hcold
   ·rename_i d hd;split at hcold
    ·rename_i e2 hp;obtain rfl:=Option.some.inj hcold;rw[<-hd]at hp;intro next Q hn
     refine zib hcs h ho hf hcl hcap hc hp next Q (λa' w' hg hdef=>?_)
     obtain⟨g',s1,n1⟩:=hg;obtain⟨g'',s2,n2⟩:=zdb s1 (.tmp d);exact hn a' w' ⟨g'',s2,n1.trans n2⟩ hdef
    ·cases hcold
   ·cases hcold
  ·cases hcold
 obtain⟨m,hm⟩:∃m:List Lent,m=[]:=⟨_,rfl⟩;obtain⟨bx,hbx0⟩:∃bx:zas,bx=[]:=⟨_,rfl⟩;have hbx:zar e m=some bx:=by rw[hm,hbx0];rfl
 have hok:zax m=true/\zdq e m=true:=by rw[hm];exact⟨rfl,rfl⟩
 rw[<-hm]at hlend;rw[<-hbx0]at hcall;obtain⟨VV,vv,UU,hfoc⟩:=h.focuses;have C:CallCtx g e a.tmps w m bx vv VV UU:=⟨h,hok.1,hbx,hfoc⟩;obtain⟨hol,hoa⟩:=zia h hVs hlen
 let vs:Array Value:=args.map a.eval++cv
 have hzl:(Vs.zip (args.toList.map zhn)).length=args.size:=by
  rw[List.length_zip,List.length_map,hol,Array.length_toList,Nat.min_self]
 have harg:∀(k:Nat) p,(Vs.zip (args.toList.map zhn)++zb6 caps)[k]? =some p->zs9 g e a.tmps w p (vs.getD k undef):=by
  intro k p hp;rcases Nat.lt_or_ge k args.size with hk|hk
  ·rw[List.getElem?_append_left (by omega)]at hp
   obtain⟨x,hx,hx2⟩:=hoa k p hp;rw[Array.getElem?_toList]at hx
   have:vs.getD k undef=a.eval x:=by
    simp only[vs];rw[Array.getD_eq_getD_getElem?,Array.getElem?_append_left (by simpa using hk),Array.getElem?_map,hx]
    rfl
   rw[this];exact hx2
  ·rw[List.getElem?_append_right (by omega),hzl]at hp
   obtain⟨c,hc,rfl⟩:=zl7 hp
   have:vs.getD k undef=cv.getD (k-args.size) undef:=by
    simp only[vs];rw[Array.getD_eq_getD_getElem?,Array.getElem?_append_right (by simpa using hk),Array.size_map,Array.getD_eq_getD_getElem?]
   rw[this];have:=hcap _ c hc;cases c<;>exact this
 obtain⟨hal,haa⟩:=CallCtx.args C hlend (λ_ h=>h) (λk=>vs.getD k undef) harg (vs':=vs) (as:=as) (n':=as.length)
 have hvs:vs.size=as.length:=by
  rw[hal,List.length_append,hzl];simp[vs,zb6,hcl]
 have hstart:=zkh h hok.1 hbx hfoc hvs (λk p hp=>haa k p hp k)
 obtain⟨⟨fn,hfn,hbody,hname⟩,hcalls⟩:=hcs.fn f as bx (.agg cs) [] (by rw[hcall,hbx0])
 have hrun:(execOp a.eval o).run P w=.ok (.enter f vs) w:=by
  have hb:¬fn.body=none:=by intro e0;rw[e0]at hbody;cases hbody
  simp[execOp,ho,resolve,Deferred.ofValue,hf,invoke,callFunc,hfn,hname,hb,vs]
 unfold zop at hopen;split at hopen
 ·rename_i d hd;split at hopen
  ·rename_i hc;simp only[Bool.and_eq_true,decide_eq_true_eq]at hc;intro next Q hnext
   unfold Oper.wp;rw[hrun,Oper.upon_enter];refine(hcalls _ w vs hvs hstart).mono ?_;rintro en w' ⟨v,rfl,us,el,rfl,rfl,hsz,hcells⟩
   have hro:∀k (x:A),cs[k]? =some x-> ∃d,x=.ro d/\(us.getD k undef).oneCell' =true/\RO g.c d (us.getD k undef):=by
    intro k x hx;have:=zeh hc.2 x (List.mem_of_getElem? hx)
    cases x with
    |ro d=>
     obtain⟨q1,q2⟩:=hcells k d hx;refine⟨d,rfl,q1,RO.mono ?_ q2⟩;intro b o v hv
     have hnr:¬RdB g m b:=by
      rintro⟨q,hq,_⟩;rw[hm]at hq;cases hq
     have hv':(if RdB g m b then zbc w b o else g.c b o)=some v:=hv
     rwa [if_neg hnr]at hv'
    |_=>cases this
   have hgo:=zjp (el:=el) (us:=us) (Y:=λ_ _=>False) h (Next.refl g e w) hc.1 hsz (λx hx=>by
    obtain⟨k,hk⟩:=List.mem_iff_getElem?.1 hx;obtain⟨d,rfl,_⟩:=hro k x hk
    rfl) (λk hk=>by
    obtain⟨d,_,q,_⟩:=hro k _ (List.getElem?_eq_getElem hk)
    exact q) (λk x hx=>by
    obtain⟨d,rfl,_,q⟩:=hro k x hx
    exact .inl q) (zaw g e w) (λ_ _ hx=>hx.elim) hopen
   exact hnext _ _ (by rw[zha,hd];exact hgo) (zd1 _ _ _)
  ·cases hopen
 ·cases hopen
end Go.Qz
namespace Go.Qz
def Froze[Base](g:G)(e:Env)(tm:Array Value)(w:World)(e':Env):Prop:=∃g',Sim g' e' tm w/\Next g e w g' e' w/\g'.β=g.β/\ ∀b,(e'.box b).isSome=(e.box b).isSome
theorem Froze.refl[Base]{g:G}{e:Env}{tm:Array Value}{w:World}(h:Sim g e tm w):Froze g e tm w e:=⟨g,h,Next.refl _ _ _,rfl,λ_=>rfl⟩
theorem Froze.one[Base]{g:G}{e:Env}{tm:Array Value}{w:World}(h:Sim g e tm w)(r:Root):Froze g e tm w (e.freeze r):=by
 obtain⟨g',h1,h2,h3,h4,h5,h6⟩:=h.frozen r
 have hbox:∀b,((e.freeze r).box b).isSome=(e.box b).isSome:=by
  intro b;unfold Env.freeze;split
  ·exact zaj b
  ·rfl
 refine⟨g',h1,⟨rfl,rfl,rfl,Nat.le_refl _,λ_ _ _=>rfl,λx hx=>?_,h4,λb o v hv=>?_,λb _=>⟨by rw[h2],by rw[h3]⟩⟩,h2,hbox⟩
 ·rcases hx with⟨s,hs⟩|⟨b,hb,hlt,hx⟩
  ·exact .inl (.inl ⟨s,h5 s x hs⟩)
  ·rw[hbox]at hb;exact .inl (.inr ⟨b,hb,hlt,by rw[<-h2];exact hx⟩)
 ·rcases h6 b o v hv with h1|⟨s,hs⟩
  ·exact .inl h1
  ·exact .inr (.inl (.inl ⟨s,hs⟩))
theorem Froze.trans[Base]{g:G}{e e1 e2:Env}{tm:Array Value}{w:World}(h:Froze g e tm w e1)(k:∀g1,Sim g1 e1 tm w->Froze g1 e1 tm w e2):Froze g e tm w e2:=by
 obtain⟨g1,h1,h2,h3,h4⟩:=h;obtain⟨g2,k1,k2,k3,k4⟩:=k g1 h1;exact⟨g2,k1,h2.trans k2,k3.trans h3,λb=>(k4 b).trans (h4 b)⟩
theorem zgr[Base]{tm:Array Value}{w:World}:∀{as:List A} {g:G} {e:Env},Sim g e tm w->Froze g e tm w (zg2 e as)
 | [],_,_,h=>Froze.refl h
 |a::r,g,e,h=>by
  cases a with
  |view l=>exact(Froze.one h l.root).trans (λg1 h1=>zgr (as:=r) h1)
  |_=>exact zgr (as:=r) h
theorem zzz[Base]{g:G}{e e':Env}{tm:Array Value}{w:World}(h:Sim g e tm w){t:Nat}{as as':List A}{vs:Array Value}(hk:∀k a',as[k]? =some a' ->RepA g e tm w (.tmp t k) a' (vs.getD k undef))(htk:zga (e.set0 t .dead) as=some (as',e')):
 ∃g' Y,Sim g' e' tm w/\as'.length=as.length/\(∀k a',as'[k]? =some a' ->HoldA g' e' tm w (Y k) a' (vs.getD k undef))/\Free g' e' w Y/\Left g e g' e' /\ ∀k x,Y k x-> ∃s,g.S s x:=by
 have h0:=h.forget t
 have hS0:∀s x,(g.setS t (λ_ _=>False)).S s x->(∀k,s≠.tmp t k)/\g.S s x:=by
  intro s x hx;rcases zbk g t _ hx with⟨k,_,hf⟩|hx
  ·exact hf.elim
  ·exact hx
 have hl0:Left g e (g.setS t (λ_ _=>False)) (e.set0 t .dead):=⟨rfl,rfl,rfl,λs x hx=>(hS0 s x hx).2,rfl,λ_=>rfl⟩
 have K:=hl0.keeps (tm:=tm) (w:=w) (λl d hl=>by
  cases l with
  |mk root path=>
   cases root with
   |tmp t' =>
    by_cases e1:t' =t
    ·subst e1;simp[Env.ownAt,Env.root,Env.get,Env.set0,Qz.V.dead]at hl
    ·simpa [Env.ownAt,Env.root,Env.get,Env.set0,e1]using hl
   |cell b o=>exact hl)
 obtain⟨g',Y,h1,h2,h3,h4,h5,h6⟩:=zg9 (t:=t) (n:=0) (vs:=λk=>vs.getD k undef) (Z:=λk=>g.S (.tmp t k)) h0 (λk a' ha=>by
  cases a' with
  |own d=>exact .inl ⟨d,rfl,hk k _ ha⟩
  |_=>
   refine .inr ⟨λd e=>(by cases e),?_⟩
   have:=hk k _ ha
   exact RepA.keep (s':=.tmp t (0+k)) K (by simp[A.okRefs]) (λd e=>by cases e) (λ_=>⟨by rw[Nat.zero_add],λb o e=>by cases e⟩) this)
  ⟨λk k' x hx hx' =>by have:=h.sdis _ _ x hx hx';cases this;rfl,λk s x hx hs=>(hS0 s x hs).1 k (h.sdis _ _ x (hS0 s x hs).2 hx),λk x b hx hb hlt=>h.sbox _ b x hx hb hlt,λk x hx=>h.slt _ x hx,λk x o v hx hv=>(h.cdis x o v hv).1 _ hx⟩ htk
 exact⟨g',Y,h1,h2,λk a' ha=>(h3 k a' ha).2,h5,hl0.trans h4,λk x hx=>by
  rcases h6 k x hx with⟨s,hs⟩|hz
  ·exact⟨s,(hS0 s x hs).2⟩
  ·exact⟨_,hz⟩⟩
theorem zwm[Base]{g:G}{e:Env}{tm:Array Value}{w:World}(h:Sim g e tm w)(x:Operand):Froze g e tm w (zil e x):=by
 unfold zil;split
 ·rename_i t;split
  ·rename_i as hV;unfold zso;split
   ·rename_i as' e' htk;split
    ·rename_i ds hin;split
     ·rename_i hlt;have htv:=h.tv t;rw[hV]at htv;obtain⟨vs,e1,hs,hk⟩:=htv;obtain⟨g',Y,h1,hl,h3,h4,h5,h6⟩:=zzz h (λk a' ha=>(hk k a' ha).2) htk
      have hv:HoldV g' e' tm w Y (.agg as') (tm.getD t undef):=⟨vs,e1,by rw[hs,hl],λk a' ha=>⟨by
       have:k<as.length:=by rw[<-hl];exact(List.getElem?_eq_some_iff.1 ha).1
       exact(hk k _ (List.getElem?_eq_getElem this)).1,h3 k a' ha⟩⟩
      obtain⟨ho,hf⟩:=zl0 (V:=.agg as') (d:=.agg ds) (by simp only[V.inner,hin]) hv h4
      have hset:putT tm (some t) (tm.getD t undef)=tm:=by
       simp only[putT];apply Array.ext
       ·simp
       ·intro i hi1 hi2;rw[Array.getElem_setIfInBounds];split
        ·rename_i e2;subst e2;simp[Array.getD_eq_getD_getElem?,hi2]
        ·rfl
      have hs1:=h1.putHeld (V':=.one (.own (.agg ds))) (v':=tm.getD t undef) hlt (Y:=λk=>if k=0 then(λx=> ∃k,Y k x)else λ_=>False) (by
       show OwnC _ _ _ (if 0=0 then _ else _)
       rw[if_pos rfl]
       exact ho) hf.free
      have hs2:Sim _ (e'.set t (.one (.own (.agg ds)))) (putT tm (some t) (tm.getD t undef)) w:=hs1;rw[hset]at hs2;have hn:=h5.next w
      refine⟨_,hs2,⟨hn.os,hn.tape,hn.output,hn.size,hn.old,λx hx=>?_,hn.c,hn.cnew,hn.lent⟩,h5.β,λb=>by rw[zs0];exact h5.box b⟩
      rcases hx with⟨s,hs'⟩|⟨b,hb,hlt',hx⟩
      ·rcases zbk _ _ _ hs' with⟨k,_,hy⟩|⟨_,hs''⟩
       ·by_cases hk0:k=0
        ·rw[if_pos hk0]at hy;obtain⟨k',hy⟩:=hy;obtain⟨s',hs'⟩:=h6 k' x hy;exact .inl (.inl ⟨s',hs'⟩)
        ·rw[if_neg hk0]at hy;exact hy.elim
       ·exact hn.mine x (.inl ⟨s,hs''⟩)
      ·rw[zs0]at hb;exact hn.mine x (.inr ⟨b,hb,hlt',hx⟩)
     ·exact Froze.refl h
    ·exact Froze.refl h
   ·exact Froze.refl h
  ·exact Froze.refl h
 ·exact Froze.refl h
theorem zhv[Base]{tm:Array Value}{w:World}{io:List Nat}:∀{xs:List Operand} {n:Nat} {g:G} {e:Env},Sim g e tm w->Froze g e tm w (zdz io e n xs)
 | [],_,_,_,h=>Froze.refl h
 |x::r,n,g,e,h=>by
  have key:Froze g e tm w (if io.contains n then zil e x else match x with
   | .tmp t=>match e.get t with
     | .one (.own _)=>e.freeze (.tmp t)
     | .one (.view l)=>e.freeze l.root
     | .agg as=>zg2 e as
     |_=>e
   |_=>e):=by
   split
   ·exact zwm h x
   ·split
    ·split
     ·exact Froze.one h _
     ·exact Froze.one h _
     ·exact zgr h
     ·exact Froze.refl h
    ·exact Froze.refl h
  exact key.trans (λg1 h1=>zhv (xs:=r) (n:=n+1) h1)
theorem Runs.after[Base]{P:Program}{g g1:G}{e e1 e':Env}{a:Act}{w:World}{o:Oper}(hn:Next g e w g1 e1 w)(h:Runs P g1 e1 a w o e'):Runs P g e a w o e' :=
 λnext Q hk=>h next Q (λa' w' ⟨g2,h1,h2⟩ hd=>hk a' w' ⟨g2,h1,hn.trans h2⟩ hd)
theorem ztb{x:Option V}{f:FuncId}{caps:List Cap}(h:zhz x=some (.one (.fn f caps))):x=some (.one (.fn f caps))∨ ∃ds,x=some (.one (.ro (.clo f ds)))/\caps=ds.map .ro:=by
 unfold zhz at h;split at h
 ·rename_i f' ds;simp only[Option.some.injEq,V.one.injEq,A.fn.injEq]at h;obtain⟨rfl,rfl⟩:=h;exact .inr ⟨ds,rfl,rfl⟩
 ·exact .inl h
theorem zz0[Base]{P:Program}{g:G}{e:Env}{a:Act}{w:World}(h:Sim g e a.tmps w){fop:Operand}{f:FuncId}{caps:List Cap}(hf:zhz (za4 P e 0 fop)=some (.one (.fn f caps))):
 ∃cv:Array Value,a.eval fop=.func (.func f) #[] cv/\cv.size=caps.length/\ ∀k c,caps[k]? =some c->RepCap g e c (cv.getD k undef):=by
 rcases ztb hf with h1|⟨ds,h1,rfl⟩
 ·exact zhh h h1
 ·have h2:RO g.c (.clo f ds) (a.eval fop):=zhh h h1;generalize a.eval fop=v at h2
  cases h2 with
  |clo k1 k2=>
   refine⟨_,rfl,by simpa using k1,λk c hc=>?_⟩
   rw[List.getElem?_map]at hc
   cases hd:ds[k]? with
   |none=>rw[hd]at hc;cases hc
   |some d=>
    rw[hd]at hc;obtain rfl:=Option.some.inj hc;exact k2 k d hd
theorem z3e[Base]{P:Program}{io:FuncId->List Nat}{call:zai}(hcs:zff P call){g:G}{e e':Env}{a:Act}{w:World}(h:Sim g e a.tmps w){o:Oper}{fop:Operand}{args:Array Operand}{argTypes:Array TypeId}(ho:o.op=.call {callee:=.value fop,args,argTypes})
 (he:evOp P io call e o=some e'):Runs P g e a w o e':=by
 simp only[evOp,ho]at he;split at he
 ·rename_i f caps hfop
  obtain⟨cv,hf,hcl,hcap⟩:∃cv:Array Value,a.eval fop=.func (.func f) #[] cv/\cv.size=caps.length/\ ∀k c,caps[k]? =some c->RepCap g e c (cv.getD k undef):=by
   exact zz0 h hfop
  split at he
  ·exact zwl hcs h ho hf hcl hcap he
  split at he
  ·rename_i r e1 hc;rcases zyp hc with hc|hc
   ·exact zib hcs h ho hf hcl hcap hc he
   ·obtain⟨g1,k1,k2,k3,k4⟩:=zhv (io:=io f) (xs:=args.toList) (n:=0) h;refine Runs.after k2 (zib hcs k1 ho hf hcl (λk c hk=>?_) hc he)
    have:=hcap k c hk
    cases c with
    |ptr b=>intro hb hlt;rw[k4]at hb;rw[k3];exact this hb hlt
    |ro d=>exact RO.mono k2.c this
  ·cases he
 ·cases he
theorem zz1[Base]{P:Program}{io:FuncId->List Nat}{call:zai}(hcs:zff P call){g:G}{e e':Env}{a:Act}{w:World}(h:Sim g e a.tmps w){o:Oper}(he:evOp P io call e o=some e'):Runs P g e a w o e':=by
 cases hq:Op.callsValue o.op with
 |false=>exact z29 hcs.tab h hq he
 |true=>
  cases hop:o.op with
  |call c=>
   obtain⟨callee,args,argTypes⟩:=c
   cases callee with
   |value f=>exact z3e hcs h hop he
   |_=>rw[hop]at hq;cases hq
  |_=>rw[hop]at hq;cases hq
end Go.Qz
namespace Go.Qz
theorem zi4[Base]{g:G}{e:Env}{a:Act}{w:World}(h:Sim g e a.tmps w){ops:Array Oper}{o:Oper}{b:Bool}(hg:zji ops.toList e o=some b):Region.wanted o (yielded ops a.tmps)=b:=by
 unfold zji at hg;unfold Region.wanted;split at hg
 ·rename_i h0;rw[h0];exact Option.some.inj hg
 ·rename_i j want h0;rw[h0];dsimp only;split at hg
  ·rename_i oj hj;rw[Array.getElem?_toList]at hj;split at hg
   ·rename_i d hd;have ht:=h.tv d
    have hy:yielded ops a.tmps j=match a.tmps[d]? with|some (.bool b)=>some b|_=>none:=by
     unfold yielded;rw[hj];simp only[Option.bind_some,hd];rfl
    rw[hy];split at hg
    ·rename_i b' hb;rw[hb]at ht;have hv:a.tmps.getD d undef=.bool b':=RO.bool_inv ht;rw[Array.getD_eq_getD_getElem?]at hv
     cases hq:a.tmps[d]? with
     |none=>rw[hq]at hv;cases hv
     |some v=>
      rw[hq]at hv;have hv':v=.bool b':=hv;subst hv';have:=Option.some.inj hg;rw[<-this];rfl
    ·rename_i hb;rw[hb]at ht;have hv:a.tmps.getD d undef=undef:=ht;rw[Array.getD_eq_getD_getElem?]at hv
     cases hq:a.tmps[d]? with
     |none=>exact(Option.some.inj hg)
     |some v=>
      rw[hq]at hv;have hv':v=undef:=hv;subst hv';exact(Option.some.inj hg)
    ·cases hg
   ·cases hg
  ·cases hg
end Go.Qz
namespace Go.Qz
def Ex.exit:Ex->Exit
 | .n=>.normal
 | .x id=>.exit id
 | .r=>.ret
def zfg(lp:zio):Prop:=∀f e r,lp f e=some r-> ∃n,iter f n e=some r
def CodeSim[Base](P:Program)(c:Code)(f:Env->Res):Prop:=∀(e:Env) (ex:Ex) (e':Env),f e=some (ex,e')-> ∀(g:G) (a:Act) (w:World),Sim g e a.tmps w-> ∀(Q:Exit->Act->World->Prop),(∀a' w',Goes g e w e' a'.tmps w' ->a'.defers=a.defers->Q ex.exit a' w')->c.wp P Q a w
theorem z3f[Base]{P:Program}{c:Code}{f:Env->Res}(hc:CodeSim P c f){n:Nat}{e e':Env}{ex:Ex}(he:iter f n e=some (ex,e')){g:G}{a:Act}{w:World}(h:Sim g e a.tmps w){Q:Exit->Act->World->Prop}(hQ:∀a' w',Goes g e w e' a'.tmps w' ->a'.defers=a.defers->Q ex.exit a' w'):(Code.loop c).wp P Q a w:=by
 intro b k cs
 have key:∀n (e1:Env) (a1:Act) (w1:World),iter f n e1=some (ex,e')->Goes g e w e1 a1.tmps w1->a1.defers=a.defers->
  ∃en a' w',Q en a' w' /\Arrives P (lone (b.at a1 (.code c::.inLoop c::k)) cs w1) b k cs en a' w':=by
  intro n
  induction n with
  |zero=>intro e1 a1 w1 hit;cases hit
  |succ n ih=>
   intro e1 a1 w1 hit hgo hd;obtain⟨g1,k1,k2⟩:=hgo;rw[iter]at hit;split at hit
   ·rename_i e2 hf;obtain⟨en,a2,w2,hq,harr⟩:=hc e1 .n e2 hf g1 a1 w1 k1 (λen a2 w2=>en=.normal/\Goes g e w e2 a2.tmps w2/\a2.defers=a.defers) (λa2 w2 ⟨g2,m1,m2⟩ hd2=>⟨rfl,⟨g2,m1,k2.trans m2⟩,hd2.trans hd⟩) b (.inLoop c::k) cs
    obtain⟨rfl,hgo2,hd2⟩:=hq;obtain⟨e₂,a₂,w₂,hq₂,harr₂⟩:=ih e2 a2 w2 hit hgo2 hd2;exact⟨e₂,a₂,w₂,hq₂,.of_steps (Steps.trans harr (.one step_inLoop)) harr₂⟩
   ·rename_i r hno;obtain⟨en,a2,w2,hq,harr⟩:=hc e1 ex e' hit g1 a1 w1 k1 (λen a2 w2=>en=ex.exit/\Q en a2 w2) (λa2 w2 ⟨g2,m1,m2⟩ hd2=>⟨rfl,hQ a2 w2 ⟨g2,m1,k2.trans m2⟩ (hd2.trans hd)⟩) b (.inLoop c::k) cs
    obtain⟨rfl,hq⟩:=hq
    cases ex with
    |n=>exact absurd hit (hno e')
    |x id=>exact⟨_,a2,w2,hq,.pass (x:=.inLoop c) rfl (λ_ _=>.inl (by simp[Ex.exit])) harr⟩
    |r=>exact⟨_,a2,w2,hq,.pass (x:=.inLoop c) rfl (λ_ _=>.inl (by simp[Ex.exit])) harr⟩
 obtain⟨en,a',w',hq,harr⟩:=key n e a w he (Goes.refl h) rfl;exact⟨en,a',w',hq,.of_steps (.one step_loop) harr⟩
end Go.Qz
namespace Go.Qz
theorem Sim.pad[Base]{g:G}{e:Env}{tm tm':Array Value}{w:World}(h:Sim g e tm w){n:Nat}(hn:n<=tm'.size)(ht:∀t,tm'.getD t undef=tm.getD t undef):Sim g {e with size:=n} tm' w:=by
 have K:zcy g e tm w g {e with size:=n} tm' w (λ_=>True) (λ_=>True):=by
  refine⟨λ_ _ _ h=>h,λl _ d' hd' =>⟨d',hd',λz xs' e=>⟨xs',e,Nat.le_refl _⟩,λv hv=>?_⟩,λb _ hb _=>⟨hb,rfl⟩⟩
  obtain⟨V,hV,hp⟩:=hv;refine⟨V,?_,hp⟩
  cases hq:l.root with
  |tmp t=>rw[hq]at hV;show tm'.getD t undef=V;rw[ht];exact hV
  |cell b o=>rw[hq]at hV;exact hV
 exact{
  size:=hn
  tv:=λt=>by rw[ht];exact(h.tv t).keep K (λk x hx=>⟨hx,rfl⟩)
  bx:=λb cs hcs=>(h.bx b cs hcs).keep K (λo x hx=>⟨hx,rfl⟩) (λ_=>⟨rfl,rfl⟩) (λ_=>rfl)
  binj:=h.binj
  sdis:=h.sdis
  sbox:=h.sbox
  slt:=h.slt
  cmem:=h.cmem
  base:=h.base
  fix:=h.fix
  cdis:=h.cdis}
theorem Sim.ret[Base]{g:G}{e:Env}{tm:Array Value}{w:World}(h:Sim g e tm w){bx:zas}(hb:∀b cs,za5 b bx=some cs->e.box b=some cs):Sim g (zba bx) #[] w:=by
 have hsome:∀b,((zba bx).box b).isSome=true->(e.box b).isSome=true:=by
  intro b hbs;obtain⟨cs,hcs⟩:=Option.isSome_iff_exists.1 hbs;rw[hb b cs hcs];rfl
 have K:zcy g e tm w g (zba bx) #[] w (λ_=>False) (λ_=>True):=⟨λ_ _ _ h=>h,λl hl=>hl.elim,λb _ hbs _=>⟨hsome b hbs,rfl⟩⟩
 exact{
  size:=Nat.zero_le _
  tv:=λt=>by
   show (#[]:Array Value).getD t undef=undef;simp[Array.getD_eq_getD_getElem?]
  bx:=λb cs hcs=>(h.bx b cs (hb b cs hcs)).keep K (λo x hx=>⟨hx,rfl⟩) (λ_=>⟨rfl,rfl⟩) (λ_=>rfl)
  binj:=λb b' h1 h2=>h.binj b b' (hsome b h1) (hsome b' h2)
  sdis:=h.sdis
  sbox:=λs b x hx h1=>h.sbox s b x hx (hsome b h1)
  slt:=h.slt
  cmem:=h.cmem
  base:=h.base
  fix:=h.fix
  cdis:=λb o v hv=>⟨(h.cdis b o v hv).1,λid hid=>(h.cdis b o v hv).2 id (hsome id hid)⟩}
theorem zdx{e:Env}:∀{bx m:zas},zd9 e bx=some m-> ∀b cs,za5 b m=some cs->e.box b=some cs
 | [],m,h,b,cs,hg=>by
   simp only[zd9,Option.some.injEq]at h;subst h;cases hg
 |(n,c0)::r,m,h,b,cs,hg=>by
  simp only[zd9]at h;split at h
  ·rename_i c1 hc1;split at h
   ·split at h
    ·rename_i m' hm';obtain rfl:=Option.some.inj h;simp only[za5]at hg;split at hg
     ·rename_i e1;subst e1;cases hg;exact hc1
     ·exact zdx hm' b cs hg
    ·cases h
   ·cases h
  ·cases h
theorem zz2:∀{as:List A} {ds:List D},ros as=some ds->ds.length=as.length/\ ∀(k:Nat) (d:D),ds[k]? =some d->as[k]? =some (.ro d)
 | [],ds,h=>by
   simp only[ros,Option.some.injEq]at h;subst h;exact⟨rfl,λk d hd=>by simp at hd⟩
 |a::r,ds,h=>by
  cases a with
  |ro d0=>
   simp only[ros]at h;split at h
   ·rename_i ds' hds;obtain rfl:=Option.some.inj h;obtain⟨h1,h2⟩:=zz2 hds;refine⟨by simp[h1],λk d hk=>?_⟩
    cases k with
    |zero=>
     simp only[List.getElem?_cons_zero,Option.some.injEq]at hk;subst hk;rfl
    |succ k=>simpa using h2 k d (by simpa using hk)
   ·cases h
  |_=>cases h
theorem zny{g:G}{e:Env}{tm:Array Value}{w:World}{Y:Nat->Blk}{as:List A}{v:Value}{a:A}(hp:zyv as=some a)(hh:HoldV g e tm w Y (.agg as) v)(hf:Free g e w Y):HoldA g e tm w (λx=> ∃k,Y k x) a v:=by
 unfold zyv at hp;split at hp
 ·split at hp
  ·rename_i ds hds;obtain rfl:=Option.some.inj hp;exact zjt (V:=.agg as) (by simp only[V.inner,hds]) hh hf
  ·cases hp
 ·split at hp
  ·rename_i ds hds;obtain rfl:=Option.some.inj hp;obtain⟨vs,rfl,hs,hk⟩:=hh;obtain⟨k1,k2⟩:=zz2 hds;show RO g.c (.agg ds) (.agg vs);exact .agg (by omega) (λm hm=>(hk m _ (List.getElem?_eq_getElem (by omega))).1) (λm d hm=>(hk m _ (k2 m d hm)).2)
  ·cases hp
end Go.Qz
namespace Go.Qz
theorem HoldA.toRep{g:G}{e:Env}{tm:Array Value}{w:World}{Y:Blk}{t k:Nat}{a:A}{v:Value}(hno:∀d,a≠.own d)(h:HoldA g e tm w Y a v):RepA g e tm w (.tmp t k) a v:=by
 cases a with
 |own d=>exact absurd rfl (hno d)
 |selfp=>exact False.elim h
 |bnil t=>exact False.elim h
 |dead=>trivial
 |ro d=>exact h
 |view l=>exact h
 |ptr b o=>exact h
 |eptr l z i o=>exact h
 |pview l i k=>exact h
 |rptr ds=>exact h
 |fn f caps=>exact h
 |undef=>exact h
theorem ztc[Base]{P:Program}{g:G}{e e':Env}{a:Act}{w:World}(h:Sim g e a.tmps w){r:ResultVar}{ty:TypeId}{p:A}(hr:zlb P e r ty=some (p,e')):
 ∃g' Y v,Sim g' e' a.tmps w/\Next g e w g' e' w/\HoldA g' e' a.tmps w Y p v/\FreeB g' e' w Y/\(∀x,Y x->Mine g e x)/\
  (match r with| .tmp t=>(pure (a.tmps.getD t undef):Sem Value)| .cell t ct=>(do loadVar ct (<-asAddr (a.tmps.getD t undef)))).run P w=.ok v w:=by
 cases r with
 |tmp t=>
  simp only[zlb]at hr;split at hr
  ·rename_i p' e1 ht;simp only[Option.some.injEq,Prod.mk.injEq]at hr;obtain⟨rfl,rfl⟩:=hr;obtain⟨g',Y,h1,h2,h3,h4,h5⟩:=zb3 h ht;exact⟨g',Y 0,_,h1,h4,h2,⟨h3.S 0,h3.box 0,h3.lt 0,h3.c 0⟩,λx hx=>(h5 0 x hx).elim id (λhle=>by have:=h3.lt 0 x hx;omega),rfl⟩
  ·rename_i as e1 ht;split at hr
   ·rename_i p' hp;simp only[Option.some.injEq,Prod.mk.injEq]at hr;obtain⟨rfl,rfl⟩:=hr;obtain⟨g',Y,h1,h2,h3,h4,h5⟩:=zb3 h ht
    exact⟨g',_,_,h1,h4,zny hp h2 h3,⟨λs x ⟨k,hx⟩=>h3.S k s x hx,λx b ⟨k,hx⟩=>h3.box k x b hx,λx ⟨k,hx⟩=>h3.lt k x hx,λx o v ⟨k,hx⟩=>h3.c k x o v hx⟩,
     λx ⟨k,hx⟩=>(h5 k x hx).elim id (λhle=>by have:=h3.lt k x hx;omega),rfl⟩
   ·cases hr
  ·cases hr
 |cell t ct=>
  simp only[zlb]at hr;split at hr
  ·rename_i q hq;split at hr
   ·rename_i n hn;have ht:=h.tv t;rw[hq]at ht
    have load:∀{V:V},zf6 e (zbi P ct) n q=some V-> ∃u,HoldV g e a.tmps w (λ_ _=>False) V u/\(do loadVar ct (<-asAddr (a.tmps.getD t undef)):Sem Value).run P w=.ok u w:=by
     intro V hV;obtain⟨u,h1,h2⟩:=zu5 h hn ht hV;refine⟨u,h2,?_⟩;generalize a.tmps.getD t undef=v at h1
     cases v with
     |pointer p=>
      cases p with
      |none=>simp[Instr.loadAt,Instr.sureAddr]at h1
      |some ad=>
       rw[<-h1];simp[Instr.loadAt,Instr.sureAddr,asAddr]
     |_=>simp[Instr.loadAt,Instr.sureAddr]at h1
    split at hr
    ·rename_i b hb;obtain⟨u,h1,h2⟩:=load hb;by_cases hown:∃d,b=.own d
     ·obtain⟨d,rfl⟩:=hown;simp only[zez,Option.some.injEq,Prod.mk.injEq]at hr;obtain⟨rfl,rfl⟩:=hr;exact⟨g,λ_=>False,u,h,Next.refl _ _ _,h1,zcu _ _ _,λ_ hx=>hx.elim,h2⟩
     ·have hno:∀d,b≠.own d:=λd e=>hown ⟨d,e⟩
      obtain⟨g',Y,k1,k2,k3,k4,k5⟩:=zlo (t:=0) (k:=0) h (HoldA.toRep hno h1) hno hr;exact⟨g',Y,u,k1,k3.next w,k2,k4,λx hx=>.inl (k5 x hx),h2⟩
    ·rename_i as has;split at hr
     ·rename_i as' e1 hta;split at hr
      ·rename_i p' hp;simp only[Option.some.injEq,Prod.mk.injEq]at hr;obtain⟨rfl,rfl⟩:=hr;obtain⟨u,h1,h2⟩:=load has;obtain⟨us,rfl,hs,hk⟩:=h1
       obtain⟨g',Y,k1,k2,k3,k4,k5,k6⟩:=zg9 (t:=0) (n:=0) (vs:=λk=>us.getD k undef) (Z:=λ_ _=>False) h (λk b hb=>by
        by_cases hown:∃d,b=.own d
        ·obtain⟨d,rfl⟩:=hown;exact .inl ⟨d,rfl,(hk k _ hb).2⟩
        ·have hno:∀d,b≠.own d:=λd e=>hown ⟨d,e⟩
         exact .inr ⟨hno,HoldA.toRep hno (hk k b hb).2⟩) (zaw _ _ _) hta
       have hh:HoldV g' e1 a.tmps w Y (.agg as') (.agg us):=⟨us,rfl,by rw[hs,k2],λk b hb=>⟨by
        have:k<as.length:=by rw[<-k2];exact(List.getElem?_eq_some_iff.1 hb).1
        exact(hk k _ (List.getElem?_eq_getElem this)).1,(k3 k b hb).2⟩⟩
       exact⟨g',_,_,k1,k4.next w,zny hp hh k5,⟨λs x ⟨k,hx⟩=>k5.S k s x hx,λx b ⟨k,hx⟩=>k5.box k x b hx,λx ⟨k,hx⟩=>k5.lt k x hx,λx o v ⟨k,hx⟩=>k5.c k x o v hx⟩,
        λx ⟨k,hx⟩=>(k6 k x hx).elim .inl (λh=>h.elim),h2⟩
      ·cases hr
     ·cases hr
    ·cases hr
   ·cases hr
  ·cases hr
def znz(tm:Array Value):ResultVar->Sem Value
 | .tmp t=>pure (tm.getD t undef)
 | .cell t ct=>do loadVar ct (<-asAddr (tm.getD t undef))
theorem zgs{p:A}(h:p.leaves=true):p.portable=true:=by
 cases p with
 |fn f caps=>cases caps<;>simp_all[A.leaves,A.portable]
 |_=>first|rfl|simp[A.leaves]at h
theorem zki[Base]{P:Program}{a:Act}{w:World}:∀{rs:List (ResultVar×TypeId)} {as:List A} {g:G} {e e':Env},Sim g e a.tmps w->zfp P e rs=some (as,e')->(∀p∈as,p.leaves=true)->
 ∃g' Y,∃vs:List Value,Sim g' e' a.tmps w/\Next g e w g' e' w/\as.length=rs.length/\vs.length=as.length/\(∀k p v,as[k]? =some p->vs[k]? =some v->HoldA g' e' a.tmps w (Y k) p v)/\Free g' e' w Y/\(∀k x,Y k x->Mine g e x)/\
  ((rs.map (·.1)).mapM (znz a.tmps)).run P w=.ok vs w
 | [],as,g,e,e',h,hr,_=>by
   simp only[zfp,Option.some.injEq,Prod.mk.injEq]at hr;obtain⟨rfl,rfl⟩:=hr;exact⟨g,λ_ _=>False,[],h,Next.refl _ _ _,rfl,rfl,λk p v hp=>by simp at hp,zaw _ _ _,λ_ _ hx=>hx.elim,rfl⟩
 |(r,ty)::rs,as,g,e,e',h,hr,hl=>by
  simp only[zfp]at hr;split at hr
  ·rename_i p e1 h1;split at hr
   ·rename_i as' e2 h2;simp only[Option.some.injEq,Prod.mk.injEq]at hr;obtain⟨rfl,rfl⟩:=hr;obtain⟨g1,Y0,v,k1,k2,k3,k4,k5,k6⟩:=ztc h h1;obtain⟨g2,Y,vs,m1,m2,m3,m4,m5,m6,m7,m8⟩:=zki k1 h2 (λq hq=>hl q (List.mem_cons_of_mem _ hq))
    have hf0:=(zlz (U:=λk x=>k=0/\Y0 x) k4 (λ_ _ hx=>hx.2) (λm m' x hx hx' =>by rw[hx.1,hx'.1])).next m2
    have hnm:∀x,Y0 x-> ¬Mine g1 e1 x:=by
     rintro x hx (⟨s,hs⟩|⟨b,hb,hlt,e1⟩)
     ·exact k4.S s x hx hs
     ·exact k4.box x b hx hb hlt e1
    refine⟨g2,λk=>match k with|0=>Y0|k+1=>Y k,v::vs,m1,k2.trans m2,by simp[m3],by simp[m4],λk q u hq hu=>?_,⟨λk k' x hx hx' =>?_,λk s x hx hs=>?_,λk x b hx hb hlt=>?_,λk x hx=>?_,λk x o v hx hv=>?_⟩,λk x hx=>?_,?_⟩
    ·cases k with
     |zero=>
      simp only[List.getElem?_cons_zero,Option.some.injEq]at hq hu;subst hq hu;exact k3.port (zgs (hl _ List.mem_cons_self)) m2.c (λ_ _=>rfl)
     |succ k=>exact m5 k q u (by simpa using hq) (by simpa using hu)
    ·cases k with
     |zero=>
      cases k' with
      |zero=>rfl
      |succ k' =>exact(hnm x hx (m7 k' x hx')).elim
     |succ k=>
      cases k' with
      |zero=>exact(hnm x hx' (m7 k x hx)).elim
      |succ k' =>rw[m6.one k k' x hx hx']
    ·cases k with
     |zero=>exact hf0.S 0 s x ⟨rfl,hx⟩ hs
     |succ k=>exact m6.S k s x hx hs
    ·cases k with
     |zero=>exact hf0.box 0 x b ⟨rfl,hx⟩ hb hlt
     |succ k=>exact m6.box k x b hx hb hlt
    ·cases k with
     |zero=>exact hf0.lt 0 x ⟨rfl,hx⟩
     |succ k=>exact m6.lt k x hx
    ·cases k with
     |zero=>exact hf0.c 0 x o v ⟨rfl,hx⟩ hv
     |succ k=>exact m6.c k x o v hx hv
    ·cases k with
     |zero=>exact k5 x hx
     |succ k=>exact(k2.mine x (m7 k x hx)).elim id (λhle=>by have:=m6.lt k x hx;omega)
    ·have e0:(znz a.tmps r).run P w=.ok v w:=by cases r<;>exact k6
     simp only[List.map_cons,List.mapM_cons,Sem.run_bind,e0,Result.andThen_ok,m8,Sem.run_pure]
   ·cases hr
  ·cases hr
end Go.Qz
namespace Go.Qz
theorem ztd{P:Program}{fn:Func}{tm:Array Value}{w:World}{vs:List Value}(h:(fn.results.toList.mapM (znz tm)).run P w=.ok vs w):(results fn tm).run P w=.ok (match vs with| [v]=>v|vs=>.tuple vs.toArray) w:=by
 have e1:(fn.results.mapM (znz tm):Sem (Array Value))=(do return (<-fn.results.toList.mapM (znz tm)).toArray):=by
  rw[Array.mapM_eq_mapM_toList];rfl
 have e2:results fn tm=(do let us <-fn.results.mapM (znz tm);pure (if h:us.size=1 then us[0]else .tuple us)):=by
  unfold results;congr 1
 rw[e2,e1];simp only[Sem.run_bind,h,Result.andThen_ok,Sem.run_pure]
 match vs with
 | []=>rfl
 | [v]=>rfl
 |v::u::r=>rfl
theorem zte[Base]{P:Program}{fn:Func}{g g1:G}{e0 e1:Env}{tm:Array Value}{w w':World}{bx bx':zas}{r:V}(k1:Sim g1 e1 tm w')(k2:Next g e0 w g1 e1 w')(hf2:zni P fn e1 bx=some (r,bx')):
 ∃v,(results fn tm).run P w' =.ok v w' /\ ∃g' Y,zdt g e0 w r bx' v w' g' Y:=by
 unfold zni at hf2;split at hf2
 ·rename_i hlen;split at hf2
  ·rename_i as e2 has;split at hf2
   ·rename_i hl;split at hf2
    ·rename_i m hm;obtain⟨g2,Y,us,m1,m2,m3,m4,m5,m6,m7,m8⟩:=zki (a:=⟨tm,[]⟩) k1 has (zeh hl)
     have hmap:(fn.results.toList.zip fn.resultTypes.toList).map (·.1)=fn.results.toList:=by
      rw[List.map_fst_zip];simp[hlen]
     rw[hmap]at m8;have hret:=m1.ret (zdx hm)
     have hmine:∀x,Mine g2 (zba m) x->Mine g2 e2 x:=by
      rintro x (hx|⟨b,hb,hlt,hx⟩)
      ·exact .inl hx
      ·obtain⟨cs,hcs⟩:=Option.isSome_iff_exists.1 hb;exact .inr ⟨b,by rw[zdx hm b cs hcs];rfl,hlt,hx⟩
     have hn:=k2.trans m2
     have hfree:Free g2 (zba m) w' Y:=⟨m6.one,m6.S,λk x b hx hb=>by
      obtain⟨cs,hcs⟩:=Option.isSome_iff_exists.1 hb
      exact m6.box k x b hx (by rw[zdx hm b cs hcs];rfl),m6.lt,m6.c⟩
     have hnext:Next g e0 w g2 (zba m) w':=⟨hn.os,hn.tape,hn.output,hn.size,hn.old,λx hx=>hn.mine x (hmine x hx),hn.c,hn.cnew,hn.lent⟩
     have hY:∀k x,Y k x->Mine g e0 x∨w.heap.size<=x:=λk x hx=>k2.mine x (m7 k x hx)
     have hport:∀k p v,as[k]? =some p->us[k]? =some v->HoldA g2 (zba m) #[] w' (Y k) p v:=λk p v hp hv=>(m5 k p v hp hv).port (zgs (zeh hl p (List.mem_of_getElem? hp))) (λ_ _ _ h=>h) (λ_ _=>rfl)
     refine⟨_,ztd m8,g2,Y,?_⟩
     have tup:∀(hh:some (V.tup as,m)=some (r,bx')),zdt g e0 w r bx' (.tuple us.toArray) w' g2 Y:=by
      intro hh;simp only[Option.some.injEq,Prod.mk.injEq]at hh;obtain⟨rfl,rfl⟩:=hh;refine⟨hret,⟨us.toArray,rfl,by simp[m4],λk p hp=>?_⟩,hfree,hnext,hY⟩
      have hk:k<us.length:=by rw[m4];exact(List.getElem?_eq_some_iff.1 hp).1
      have hu:us[k]? =some (us.toArray.getD k undef):=by
       rw[List.getElem?_eq_getElem hk];simp[Array.getD_eq_getD_getElem?,hk]
      exact hport k p _ hp hu
     match as,us,m4,hf2,hport,tup with
     | [],[],_,hf2,_,tup=>exact tup hf2
     | [p],[v],_,hf2,hport,_=>
       simp only[Option.some.injEq,Prod.mk.injEq]at hf2;obtain⟨rfl,rfl⟩:=hf2;exact⟨hret,hport 0 p v rfl rfl,hfree,hnext,hY⟩
     |p::q::t,v::u::s,_,hf2,_,tup=>exact tup hf2
    ·cases hf2
   ·cases hf2
  ·cases hf2
 ·cases hf2
end Go.Qz
namespace Go.Qz
structure Alien(g:G)(e:Env)(w:World)(x:Nat):Prop where
 lt:x<w.heap.size
 mine:¬Mine g e x
 c:∀o,g.c x o=none
theorem Alien.next{g g':G}{e e':Env}{w w':World}{x:Nat}(h:Alien g e w x)(hn:Next g e w g' e' w'):Alien g' e' w' x where
 lt:=Nat.lt_of_lt_of_le h.lt hn.size
 mine:=λhm=>(hn.mine x hm).elim h.mine (λhle=>by have:=h.lt;omega)
 c:=λo=>by
  cases hq:g'.c x o with
  |none=>rfl
  |some v=>
   rcases hn.cnew x o v hq with h1|h1|h1
   ·rw[h.c o]at h1;cases h1
   ·exact(h.mine h1).elim
   ·have:=h.lt;omega
theorem Alien.same{g g':G}{e e':Env}{w w':World}{x:Nat}(h:Alien g e w x)(hn:Next g e w g' e' w'):w'.heap[x]? =w.heap[x]?:=hn.old x h.lt h.mine
structure Aside(g:G)(e:Env)(w w':World):Prop where
 os:w'.os=w.os
 tape:w'.tape=w.tape
 output:w'.output=w.output
 size:w.heap.size<=w'.heap.size
 block:∀x,x<w.heap.size-> ¬Alien g e w x->w'.heap[x]? =w.heap[x]?
theorem zz3[Base]{g:G}{e:Env}{tm:Array Value}{w:World}(h:Sim g e tm w){x:Nat}(hx:Mine g e x):x<w.heap.size:=by
 rcases hx with⟨s,hs⟩|⟨b,hb,hlt,rfl⟩
 ·exact h.slt s x hs
 ·obtain⟨cs,hcs⟩:=Option.isSome_iff_exists.1 hb;have:=h.bx b cs hcs;unfold RepBox at this;rw[if_neg (by omega)]at this
  obtain⟨arr,e,h1,_⟩:=this;exact(Array.getElem?_eq_some_iff.1 h1).1
theorem Sim.aside[Base]{g:G}{env:Env}{tm:Array Value}{w w':World}(h:Sim g env tm w)(ha:Aside g env w w'):Sim g env tm w':=by
 have hmine:∀x,Mine g env x->w'.heap[x]? =w.heap[x]?:=λx hx=>ha.block x (zz3 h hx) (λhal=>hal.mine hx)
 have hknown:∀x o v,g.c x o=some v->w'.heap[x]? =w.heap[x]?:=λx o v hv=>ha.block x (World.block_lt_of_cell? w _ (h.cmem x o v hv)) (λhal=>by rw[hal.c o]at hv;cases hv)
 have hβ:∀b,(env.box b).isSome=true->b<zab->w'.heap[g.β b]? =w.heap[g.β b]?:=λb hb hlt=>hmine _ (.inr ⟨b,hb,hlt,rfl⟩)
 have hS:∀s x,g.S s x->w'.heap[x]? =w.heap[x]?:=λs x hx=>hmine x (.inl ⟨s,hx⟩)
 have K:zcy g env tm w g env tm w' (λ_=>True) (λ_=>True):=⟨λ_ _ _ hx=>hx,λl _ d' hd' =>⟨d',hd',λz xs' e=>⟨xs',e,Nat.le_refl _⟩,λv hv=>by
  have hl:=hd';simp only[Env.ownAt]at hl;split at hl
  ·rename_i D hD;exact h.conc hd' (λV hV=>RootV.world hD hβ V hV) (λx hx=>hS _ x hx) hv
  ·cases hl⟩,λb _ hb _=>⟨hb,rfl⟩⟩
 exact{
  size:=h.size
  tv:=λt=>(h.tv t).keep K (λk x hx=>⟨hx,hS _ x hx⟩)
  bx:=λb cs hcs=>(h.bx b cs hcs).keep K (λo x hx=>⟨hx,hS _ x hx⟩) (λhlt=>⟨rfl,hβ b (by rw[hcs];rfl) hlt⟩) (λ_=>rfl)
  binj:=h.binj
  sdis:=h.sdis
  sbox:=h.sbox
  slt:=λs x hx=>Nat.lt_of_lt_of_le (h.slt s x hx) ha.size
  cmem:=λb o v hv=>by
   have hc:=h.cmem b o v hv;simp only[zbc]at hc ⊢;rw[World.cell?_of_block (w':=w') (w:=w) (hknown b o v hv)];exact hc
  base:=h.base
  fix:=λx v hv=>(hknown x 0 v (h.base _ _ _ hv)).trans (h.fix x v hv)
  cdis:=h.cdis}
structure Span(g:G)(env:Env)(w:World)(β:Nat->Nat)(γ:Nat->Value)(g':G)(env':Env)(w':World):Prop where
 os:w'.os=w.os
 tape:w'.tape=w.tape
 output:w'.output=w.output
 size:w.heap.size<=w'.heap.size
 old:∀x,x<w.heap.size-> ¬Mine g env x->w'.heap[x]? =w.heap[x]?
 mine:∀x,Mine g' env' x->Mine g env x∨w.heap.size<=x
 c:g.c.le g'.c
 cnew:∀b o v,g'.c b o=some v->g.c b o=some v∨Mine g env b∨w.heap.size<=b
 lent:∀b,zaq<=b->g'.β b=β b/\g'.γ b=γ b
section
variable{g g1 g2:G}{e e1 e2:Env}{w w1 w2:World}{β:Nat->Nat}{γ:Nat->Value}
theorem Span.next(h:Span g e w g.β g.γ g1 e1 w1):Next g e w g1 e1 w1:=⟨h.os,h.tape,h.output,h.size,h.old,h.mine,h.c,h.cnew,h.lent⟩
theorem Span.trans(h:Span g e w β γ g1 e1 w1)(k:Next g1 e1 w1 g2 e2 w2):Span g e w β γ g2 e2 w2 where
 os:=k.os.trans h.os
 tape:=k.tape.trans h.tape
 output:=k.output.trans h.output
 size:=Nat.le_trans h.size k.size
 old:=λx hx hm=>by
  rw[k.old x (Nat.lt_of_lt_of_le hx h.size) (λhm1=>(h.mine x hm1).elim hm (λhle=>by omega)),h.old x hx hm]
 mine:=λx hx=>(k.mine x hx).elim (h.mine x) (λhle=>.inr (Nat.le_trans h.size hle))
 c:=λb o v hv=>k.c _ _ _ (h.c _ _ _ hv)
 cnew:=λb o v hv=>by
  rcases k.cnew b o v hv with h1|h1|h1
  ·exact h.cnew b o v h1
  ·exact .inr (h.mine b h1)
  ·exact .inr (.inr (Nat.le_trans h.size h1))
 lent:=λb hb=>⟨(k.lent b hb).1.trans (h.lent b hb).1,(k.lent b hb).2.trans (h.lent b hb).2⟩
theorem Span.aside(h:Span g e w β γ g1 e1 w1)(os:w2.os=w1.os)(tape:w2.tape=w1.tape)(output:w2.output=w1.output)(size:w1.heap.size<=w2.heap.size)
 (hb:∀x,x<w.heap.size-> ¬Mine g e x->w2.heap[x]? =w1.heap[x]?):Span g e w β γ g1 e1 w2:=
 ⟨os.trans h.os,tape.trans h.tape,output.trans h.output,Nat.le_trans h.size size,λx hx hm=>(hb x hx hm).trans (h.old x hx hm),h.mine,h.c,h.cnew,h.lent⟩
theorem Span.ren(h:Span g e w β γ g1 e1 w1){β':Nat->Nat}{γ':Nat->Value}(hm:∀x,Mine g2 e2 x->Mine g1 e1 x)(hc:g2.c=g1.c)(hl:∀b,zaq<=b->g2.β b=β' b/\g2.γ b=γ' b):Span g e w β' γ' g2 e2 w1:=
 ⟨h.os,h.tape,h.output,h.size,h.old,λx hx=>h.mine x (hm x hx),by rw[hc];exact h.c,λb o v hv=>h.cnew b o v (by rw[<-hc];exact hv),hl⟩
end
def A.calmIn(K:Nat->Prop):A->Prop
 | .ro _| .rptr _| .undef| .dead=>True
 | .ptr b _=>K b
 | .fn _ caps=> ∀b,Cap.ptr b∈caps->K b
 |_=>False
def V.calmIn(K:Nat->Prop):V->Prop
 | .one a=>a.calmIn K
 | .tup as=> ∀a∈as,a.calmIn K
 | .agg as=> ∀a∈as,a.calmIn K
theorem RepA.calm{g g':G}{e e':Env}{tm tm':Array Value}{w w':World}{s s':Slot}{a:A}{v:Value}{K:Nat->Prop}(hc:g.c.le g'.c)(hK:∀b,K b->(e'.box b).isSome=true->b<zab->(e.box b).isSome=true/\g'.β b=g.β b)
 (ha:a.calmIn K) (h:RepA g e tm w s a v):RepA g' e' tm' w' s' a v:=by
 cases a with
 |ro d=>exact RO.mono hc h
 |rptr ds=>
  obtain⟨b,off,rfl,hd⟩:=h;refine⟨b,off,rfl,λm d hm=>?_⟩
  obtain⟨u,h1,h2,h3⟩:=hd m d hm;exact⟨u,hc _ _ _ h1,h2,h3.mono hc⟩
 |undef=>exact h
 |dead=>trivial
 |ptr b o=>
  intro hb hlt;obtain⟨h1,h2⟩:=hK b ha hb hlt;rw[h2];exact h h1 hlt
 |fn f caps=>
  obtain⟨vs,rfl,hs,hk⟩:=h;refine⟨vs,rfl,hs,λk c hcap=>?_⟩
  have:=hk k c hcap
  cases c with
  |ro d=>exact RO.mono hc this
  |ptr b=>
   intro hb hlt;obtain⟨h1,h2⟩:=hK b (ha b (List.mem_of_getElem? hcap)) hb hlt;rw[h2];exact this h1 hlt
 |_=>exact False.elim ha
theorem RepV.calm{g g':G}{e e':Env}{tm tm':Array Value}{w w':World}{t:Nat}{V:V}{v:Value}{K:Nat->Prop}(hc:g.c.le g'.c)(hK:∀b,K b->(e'.box b).isSome=true->b<zab->(e.box b).isSome=true/\g'.β b=g.β b)
 (ha:V.calmIn K) (h:RepV g e tm w t V v):RepV g' e' tm' w' t V v:=by
 cases V with
 |one a=>exact RepA.calm hc hK ha h
 |tup as=>
  obtain⟨vs,rfl,hs,hk⟩:=h;exact⟨vs,rfl,hs,λk a hka=>RepA.calm hc hK (ha a (List.mem_of_getElem? hka)) (hk k a hka)⟩
 |agg as=>
  obtain⟨vs,rfl,hs,hk⟩:=h;exact⟨vs,rfl,hs,λk a hka=>⟨(hk k a hka).1,RepA.calm hc hK (ha a (List.mem_of_getElem? hka)) (hk k a hka).2⟩⟩
theorem RepA.cellRen{g g':G}{e e':Env}{tm tm':Array Value}{w:World}{b b' o:Nat}{a:A}{v:Value}(hp:a.portable=true)(hc:g'.c=g.c)(hS:∀x,g.S (.cell b o) x->g'.S (.cell b' o) x)(hβ:g'.β b' =g.β b)(hgh:b' <zab->b<zab)
 (h:RepA g e tm w (.cell b o) a v):RepA g' e' tm' w (.cell b' o) a v:=by
 cases a with
 |ro d=>show RO g'.c d v;rw[hc];exact h
 |own d=>exact OwnC.mono hS h
 |selfp=>
  obtain⟨b0,o0,e0,hv⟩:=h;cases e0;exact⟨b',o,rfl,λhlt=>by rw[hβ];exact hv (hgh hlt)⟩
 |bnil t=>
  obtain⟨rfl,b0,o0,e0,hv⟩:=h;cases e0;exact⟨rfl,b',o,rfl,λhlt=>by rw[hβ];exact hv (hgh hlt)⟩
 |undef=>exact h
 |dead=>trivial
 |fn f caps=>
  cases caps with
  |nil=>
   obtain⟨vs,rfl,hs,hk⟩:=h;exact⟨vs,rfl,hs,λk c hk' =>by simp at hk'⟩
  |cons c r=>simp[A.portable]at hp
 |_=>simp[A.portable]at hp
theorem Sim.ren[Base]{g g':G}{e e':Env}{tm tm':Array Value}{w:World}(h:Sim g e tm w)(ρ:Nat->Option Nat)(hinj:∀a b c,ρ a=some c->ρ b=some c->a=b)(hgh:∀a b,ρ a=some b->(a<zab↔b<zab))
 (hc:g'.c=g.c) (hS:∀s x,g'.S s x-> ∃b' o b,s=.cell b' o/\ρ b' =some b/\g.S (.cell b o) x) (hSr:∀b' o b x,ρ b' =some b->g.S (.cell b o) x->g'.S (.cell b' o) x)
 (hbx:∀b' cs,e'.box b' =some cs-> ∃b,ρ b' =some b/\e.box b=some cs/\g'.β b' =g.β b/\g'.γ b' =g.γ b) (hsz:e'.size<=tm'.size) (htv:∀t,RepV g' e' tm' w t (e'.get t) (tm'.getD t undef)):Sim g' e' tm' w:=by
 have hsome:∀b',(e'.box b').isSome=true-> ∃b,ρ b' =some b/\(e.box b).isSome=true/\g'.β b' =g.β b:=by
  intro b' hb';obtain⟨cs,hcs⟩:=Option.isSome_iff_exists.1 hb';obtain⟨b,h1,h2,h3,_⟩:=hbx b' cs hcs;exact⟨b,h1,by rw[h2];rfl,h3⟩
 exact{
  size:=hsz
  tv:=htv
  bx:=λb' cs hcs=>by
   obtain⟨b,h1,h2,h3,h4⟩:=hbx b' cs hcs;have hb:=h.bx b cs h2;unfold RepBox at hb ⊢;by_cases hg:zab<=b
   ·have hg':zab<=b':=by have:=hgh b' b h1;omega
    rw[if_pos hg]at hb;rw[if_pos hg'];obtain⟨a,e0,hp,ha⟩:=hb;rw[h4];exact⟨a,e0,hp,RepA.cellRen hp hc (λx hx=>hSr b' 0 b x h1 hx) h3 (λhh=>by omega) ha⟩
   ·have hg':¬zab<=b':=by have:=hgh b' b h1;omega
    rw[if_neg hg]at hb;rw[if_neg hg'];obtain⟨arr,el,k1,k2,k3⟩:=hb;refine⟨arr,el,by rw[h3];exact k1,k2,λo a ho=>?_⟩
    obtain⟨m1,m2,m3⟩:=k3 o a ho;exact⟨m1,m2,RepA.cellRen m1 hc (λx hx=>hSr b' o b x h1 hx) h3 (λhh=>by have:=hgh b' b h1;omega) m3⟩
  binj:=λb1 b2 hb1 hb2 l1 l2 he=>by
   obtain⟨c1,p1,p2,p3⟩:=hsome b1 hb1;obtain⟨c2,q1,q2,q3⟩:=hsome b2 hb2;rw[p3,q3]at he;have:=h.binj c1 c2 p2 q2 ((hgh _ _ p1).1 l1) ((hgh _ _ q1).1 l2) he;subst this;exact hinj _ _ _ p1 q1
  sdis:=λs s' x hx hx' =>by
   obtain⟨b1,o1,c1,rfl,p1,p2⟩:=hS s x hx;obtain⟨b2,o2,c2,rfl,q1,q2⟩:=hS s' x hx';have:=h.sdis _ _ x p2 q2;simp only[Slot.cell.injEq]at this;obtain⟨rfl,rfl⟩:=this;rw[hinj _ _ _ p1 q1]
  sbox:=λs b' x hx hb' hlt=>by
   obtain⟨b1,o1,c1,rfl,p1,p2⟩:=hS s x hx;obtain⟨c,q1,q2,q3⟩:=hsome b' hb';rw[q3];exact h.sbox _ c x p2 q2 ((hgh _ _ q1).1 hlt)
  slt:=λs x hx=>by
   obtain⟨b1,o1,c1,rfl,p1,p2⟩:=hS s x hx;exact h.slt _ x p2
  cmem:=by rw[hc];exact h.cmem
  base:=by rw[hc];exact h.base
  fix:=h.fix
  cdis:=λb o v hv=>by
   rw[hc]at hv;refine⟨λs hs=>?_,λid hid hlt=>?_⟩
   ·obtain⟨b1,o1,c1,rfl,p1,p2⟩:=hS s b hs;exact(h.cdis b o v hv).1 _ p2
   ·obtain⟨c,q1,q2,q3⟩:=hsome id hid;rw[q3]
    exact(h.cdis b o v hv).2 c q2 ((hgh _ _ q1).1 hlt)}
end Go.Qz
