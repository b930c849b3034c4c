import Derived.Test.YtddfkpkieamlpaaGreatDoorQl0
import Derived.Test.YtddfkpkieamlpaaGreatDoorQk0
namespace Go.Qz
theorem zjw{ops:Array Oper}:∀{f k n:Nat},zlg ops f k=some n->zp1 ops n=true
 |0,k,n,h=>by
  simp only[zlg]at h;split at h
  ·rename_i hk;obtain rfl:=Option.some.inj h;exact hk
  ·cases h
 |f+1,k,n,h=>by
  simp only[zlg]at h;split at h
  ·rename_i hk;obtain rfl:=Option.some.inj h;exact hk
  ·exact zjw h
theorem zo7[Base]{P:Program}{io:FuncId->List Nat}{call:zai}(hcs:zff P call){ops:Array Oper}{Q:Exit->Act->World->Prop}:∀{l:List Nat} {os:List Oper} {qs:List QOp} {g:G} {e e':Env} {a:Act} {w:World},(∀k:Nat,l[k]?.bind (λi=>ops[i]?)=os[k]?)->l.length=os.length->qOfs ops.toList os=some qs->Sim g e a.tmps w->evL P io call qs e=some e' ->
 (∀a' w',Goes g e w e' a'.tmps w' ->a'.defers=a.defers->Q .normal a' w')->wpOps P ops Q l a w
 | [],os,qs,g,e,e',a,w,_,hl,hqs,h,he,hk=>by
   obtain rfl:os=[]:=List.eq_nil_of_length_eq_zero hl.symm;obtain rfl:=Option.some.inj hqs;obtain rfl:=Option.some.inj he;exact hk a w (Goes.refl h) rfl
 |i::l,[],_,_,_,_,_,_,_,hl,_,_,_,_=>by simp at hl
 |i::l,o::os,qs,g,e,e',a,w,hix,hl,hqs,h,he,hk=>by
  have ho:ops[i]? =some o:=by have:=hix 0;simpa using this
  have hix':∀k:Nat,l[k]?.bind (λi=>ops[i]?)=os[k]?:=λk=>by have:=hix (k+1);simpa using this
  simp only[qOfs]at hqs;split at hqs
  ·rename_i q hq;split at hqs
   ·rename_i qs' hqs';obtain rfl:=Option.some.inj hqs;simp only[evL,Option.then_]at he;split at he
    ·rename_i e1 h1;rw[wpOps_cons];exact ztg (io:=io) hcs ho hq h h1 (λa1 w1 ⟨g1,k1,k2⟩ hd=>zo7 hcs hix' (by simpa using hl) hqs' k1 he (λa'' w'' ⟨g2,m1,m2⟩ hd' =>hk a'' w'' ⟨g2,m1,k2.trans m2⟩ (hd'.trans hd)))
    ·cases he
   ·cases hqs
  ·cases hqs
theorem zth[Base]{P:Program}{io:FuncId->List Nat}{call:zai}(hcs:zff P call){id:Nat}{ops:Array Oper}{qs:List QOp}{Q:Exit->Act->World->Prop}{g:G}{e e':Env}{a:Act}{w:World}(hqs:qOfs ops.toList ops.toList=some qs)(h:Sim g e a.tmps w)(he:evL P io call qs e=some e')
 (hk:∀a' w',Goes g e w e' a'.tmps w' ->a'.defers=a.defers->Q .normal a' w'):(Code.region id ops false).wp P Q a w:=by
 refine wp_region (zo7 hcs (os:=ops.toList) (λk=>?_) (by simp) hqs h he hk)
 rw[show ops.toList[k]? =ops[k]? from Array.getElem?_toList]
 rcases Nat.lt_or_ge k ops.size with hlt|hge
 ·rw[List.getElem?_range hlt];rfl
 ·rw[List.getElem?_eq_none (by simpa using hge),Array.getElem?_eq_none hge];rfl
theorem zz5{P:Program}{io:FuncId->List Nat}{call:zai}{lp:zio}(l w:List Nat)(h t:List QOp)(e:Env):evQ P io call lp (iced l (.draw w h t)) e=evQ P io call lp (.draw w h t) (iceE e l):=by
 cases l with
 |nil=>rfl
 |cons y r=>rfl
theorem zz6[Base]{g:G}{e:Env}{tm:Array Value}{w:World}(h:Sim g e tm w)(y:Nat)(v:V):Goes g e w (iceV e y v) tm w:=by
 unfold iceV;split
 ·exact zdb h _
 ·exact zdb h _
 ·exact Goes.refl h
theorem zo8[Base]{tm:Array Value}{w:World}:∀{l:List Nat} {g:G} {e:Env},Sim g e tm w->Goes g e w (iceE e l) tm w
 | [],_,_,h=>Goes.refl h
 |y::r,_,_,h=>(zz6 h y _).trans (λ_ h1=>zo8 (l:=r) h1)
theorem zz7[Base]{g:G}{e e':Env}{tm:Array Value}{w:World}(h:Sim g e tm w)(hsz:e'.size=e.size)(hb:e'.boxes=e.boxes)(ht:∀t,e'.get t=e.get t∨e'.get t=.dead):Goes g e w e' tm w:=by
 have hbox:∀b,e'.box b=e.box b:=λb=>congrFun hb b
 have hroot:∀r d,e'.root r=.own d->e.root r=.own d:=by
  intro r d hr
  cases r with
  |cell b o=>simp only[Env.root,hbox]at hr ⊢;exact hr
  |tmp t=>
   simp only[Env.root]at hr ⊢;rcases ht t with h1|h1
   ·rw[h1]at hr;exact hr
   ·rw[h1]at hr;cases hr
 have hown:∀l d,e'.ownAt l=some d->e.ownAt l=some d:=by
  intro l d hd;simp only[Env.ownAt]at hd ⊢;split at hd
  ·rename_i D hD;rw[hroot _ _ hD];exact hd
  ·cases hd
 have K:zcy g e tm w g e' tm w (λ_=>True) (λ_=>True):=
  ⟨λ_ _ _ hx=>hx,λl _ d' hd' =>⟨d',hown l d' hd',λz xs' e=>⟨xs',e,Nat.le_refl _⟩,λv hv=>hv⟩,λb _ h2 _=>⟨by rw[hbox]at h2;exact h2,rfl⟩⟩
 have hS:Sim g e' tm w:={
  size:=by rw[hsz];exact h.size
  tv:=λt=>by
   rcases ht t with h1|h1
   ·rw[h1];exact RepV.keep K (λk x hx=>⟨hx,rfl⟩) (h.tv t)
   ·rw[h1];exact trivial
  bx:=λb cs hcs=>(h.bx b cs (by rw[<-hbox];exact hcs)).keep K (λo x hx=>⟨hx,rfl⟩) (λ_=>⟨rfl,rfl⟩) (λ_=>rfl)
  binj:=λb b' h1 h2=>by rw[hbox]at h1 h2;exact h.binj b b' h1 h2
  sdis:=h.sdis
  sbox:=λs b x hx h2=>by rw[hbox]at h2;exact h.sbox s b x hx h2
  slt:=h.slt
  cmem:=h.cmem
  base:=h.base
  fix:=h.fix
  cdis:=λb o v hv=>⟨(h.cdis b o v hv).1,λid hid=>by rw[hbox]at hid;exact(h.cdis b o v hv).2 id hid⟩}
 exact⟨g,hS,rfl,rfl,rfl,Nat.le_refl _,λ_ _ _=>rfl,λx hx=>.inl (hx.imp id (λ⟨b,h1,h2⟩=>⟨b,by rw[hbox]at h1;exact h1,h2⟩)),λ_ _ _ h=>h,λ_ _ _ h=>.inl h,λ_ _=>⟨rfl,rfl⟩⟩
theorem z3g[Base]{P:Program}{io:FuncId->List Nat}{call:zai}(hcs:zff P call){ops:Array Oper}{Q:Exit->Act->World->Prop}{qs:List QOp}(hqs:qOfs ops.toList ops.toList=some qs)(hback:zoq ops=true)
 {g:G} {e:Env} {w:World} {a0:Act} (Φ:(Env->Prop)->Prop) {F0:Env->Prop} (hQ:∀e1 a' w',(∀F,Φ F->F e1)->Goes g e w e1 a'.tmps w' ->a'.defers=a0.defers->Q .normal a' w'):
 ∀(k:Nat) (listed:Array Bool) (done:List Nat) (a1:Act) (w1:World) (e1:Env),listed.size=ops.size->(∀i,i<ops.size->listed.getD i false=done.contains i)->
  zb8 P io call qs (ze7 ops) F0 k done e1->(∀F,Φ F->zb8 P io call qs (ze7 ops) F k done e1)->Goes g e w e1 a1.tmps w1->a1.defers=a0.defers->wpAny P .any ops Q k listed a1 w1:=by
 have hback':∀(j:Nat) (o:Oper),ops[j]? =some o-> ∀ed∈o.after,Region.binds .any ed=true->ed.on<j:=by
  intro j o ho ed hed hb;unfold zoq at hback;have h1:=List.all_eq_true.1 hback j (List.mem_range.2 (Array.getElem?_eq_some_iff.1 ho).1);simp only[ho]at h1;have h2:=Array.all_eq_true_iff_forall_mem.1 h1 ed hed;simpa [hb]using h2
 have hws:(ze7 ops).length=ops.size:=by simp[ze7]
 have hwg:∀(i:Nat) (o:Oper),ops[i]? =some o->(ze7 ops).getD i []=(o.after.toList.filter λe=>Region.binds .any e).map (·.on):=by
  intro i o ho
  have:(ze7 ops)[i]? =some ((o.after.toList.filter λe=>Region.binds .any e).map (·.on)):=by
   unfold ze7;rw[List.getElem?_map,Array.getElem?_toList,ho];rfl
  rw[List.getD_eq_getElem?_getD,this];rfl
 have hmem:∀(listed:Array Bool) (done:List Nat),listed.size=ops.size->(∀i,i<ops.size->listed.getD i false=done.contains i)-> ∀i,i∈Region.ready .any ops listed↔i∈znl (ze7 ops) done:=by
  intro listed done hsz hl i;unfold znl;rw[mem_ready,List.mem_filter,List.mem_range,hws]
  have hgd:∀j,j<ops.size->listed.getD j true=listed.getD j false:=λj hj=>by
   have:j<listed.size:=by omega
   simp[this]
  constructor
  ·rintro⟨h1,o,ho,hall⟩;have hlt:=(Array.getElem?_eq_some_iff.1 ho).1;refine⟨hlt,?_⟩;rw[hgd i hlt,hl i hlt]at h1;rw[h1,hwg i o ho];simp only[Bool.not_false,Bool.true_and,List.all_eq_true,List.mem_map,List.mem_filter];rintro x ⟨ed,⟨he1,he2⟩,rfl⟩;have:=hall ed (by simpa using he1) he2
   rw[<-hl _ (by have:=hback' i o ho ed (by simpa using he1) he2;omega)]
   exact this
  ·rintro⟨hlt,h2⟩;have ho:ops[i]? =some ops[i]:=Array.getElem?_eq_getElem hlt;rw[hwg i _ ho]at h2;simp only[Bool.and_eq_true,Bool.not_eq_true',List.all_eq_true,List.mem_map,List.mem_filter]at h2;refine⟨by rw[hgd i hlt,hl i hlt];exact h2.1,_,ho,λed hed hb=>?_⟩
   rw[hl _ (by have:=hback' i _ ho ed hed hb;omega)]
   exact h2.2 _ ⟨ed,⟨by simpa using hed,hb⟩,rfl⟩
 intro k
 induction k with
 |zero=>
  intro listed done a1 w1 e1 hsz hl hx hφ hgo hd;refine⟨?_,?_⟩
  ·rw[List.eq_nil_iff_forall_not_mem];intro i hi;rw[hmem listed done hsz hl,hx.1]at hi;cases hi
  ·exact hQ e1 a1 w1 (λF hF=>(hφ F hF).2) hgo hd
 |succ k ih=>
  intro listed done a1 w1 e1 hsz hl hx hφ hgo hd;refine⟨λh0=>?_,λi hi=>?_⟩
  ·have:znl (ze7 ops) done=[]:=by
    rw[List.eq_nil_iff_forall_not_mem];intro i hi;rw[<-hmem listed done hsz hl,h0]at hi;cases hi
   exact hQ e1 a1 w1 (λF hF=>(hφ F hF).1 this) hgo hd
  ·obtain⟨h1,o,ho,_⟩:=mem_ready.1 hi;have hlt:=(Array.getElem?_eq_some_iff.1 ho).1;obtain⟨q,e2,k1,k2,k3⟩:=hx.2 i ((hmem listed done hsz hl i).1 hi);obtain⟨q',hq',hqo⟩:=(zep hqs).2 i o (by rw[Array.getElem?_toList];exact ho)
   obtain rfl:=Option.some.inj (k1.symm.trans hq');obtain⟨g1,m1,m2⟩:=hgo;refine ztg (io:=io) hcs ho hqo m1 k2 (λa' w' hgo' hd' =>?_)
   refine ih _ (i::done) a' w' e2 (by simp[hsz]) (λj hj=>?_) k3 (λF hF=>?_) ?_ (hd'.trans hd)
   ·by_cases hji:j=i
    ·subst hji;simp[hsz,hlt]
    ·rw[getD_set_ne false (Ne.symm hji),hl j hj];simp[hji]
   ·obtain⟨q2,e3,n1,n2,n3⟩:=(hφ F hF).2 i ((hmem listed done hsz hl i).1 hi);obtain rfl:=Option.some.inj (k1.symm.trans n1);obtain rfl:=Option.some.inj (k2.symm.trans n2);exact n3
   ·obtain⟨g2,n1,n2⟩:=hgo';exact⟨g2,n1,m2.trans n2⟩
theorem zn1[Base]{P:Program}{io:FuncId->List Nat}{call:zai}(hcs:zff P call){ops:Array Oper}{Q:Exit->Act->World->Prop}{qs:List QOp}(hqs:qOfs ops.toList ops.toList=some qs)(hback:zoq ops=true)
 {g:G} {e e':Env} {a:Act} {w:World} (h:Sim g e a.tmps w) (h1:zle P io call qs (ze7 ops) e=some e') (hQ:∀a' w',Goes g e w e' a'.tmps w' ->a'.defers=a.defers->Q .normal a' w'):
 wpAny P .any ops Q ops.size (Array.replicate ops.size false) a {w with drawn:=w.drawn+1}:=by
 unfold zle zuy at h1;split at h1
 ·rename_i hx;have hsp:=Classical.choose_spec hx;have hlen:qs.length=ops.size:=by rw[(zep hqs).1];simp
  have hgo:Goes g e w e a.tmps {w with drawn:=w.drawn+1}:=by
   obtain⟨g1,k1,k2⟩:=Goes.refl h;exact⟨g1,k1.grow (Nat.le_refl _) (λ_ _=>rfl),k2.os,k2.tape,k2.output,k2.size,k2.old,k2.mine,k2.c,k2.cnew,k2.lent⟩
  refine z3g hcs hqs hback (λF=>zb8 P io call qs (ze7 ops) F ops.size [] e) (w:=w) (g:=g) (e:=e) (a0:=a) (λe1 a' w' hF hg hd=>?_) ops.size _ [] a _ e (by simp) (λi hi=>by simp[hi]) (by rw[<-hlen];exact hsp) (λF hF=>hF) hgo rfl
  obtain⟨hs1,hs2⟩:=hF _ (by rw[<-hlen];exact hsp)
  obtain rfl:=Option.some.inj h1;refine hQ a' w' (hg.trans (λg1 k1=>zz7 k1 hs1.symm hs2.symm (λt=>?_))) hd
  by_cases h2:∃v,zb8 P io call qs (ze7 ops) (λe1=>e1.get t=v) qs.length [] e
  ·have hs:=hF _ (by rw[<-hlen];exact Classical.choose_spec h2)
   exact .inl ((dif_pos h2).trans hs.symm)
  ·exact .inr (dif_neg h2)
 ·cases h1
theorem zbg[Base]{P:Program}{io:FuncId->List Nat}{call:zai}{lp:zio}(hm:P.follows .mixedOrders=true)(hcs:zff P call)(hlp:zfg lp):∀(c:Code) (q:zaa),zeb c=some q->CodeSim P c (evQ P io call lp q)
 | .skip,q,hq=> λe ex e' he g a w h Q hQ=>by
   obtain rfl:=Option.some.inj hq;simp only[evQ,Option.some.injEq,Prod.mk.injEq]at he;obtain⟨rfl,rfl⟩:=he;exact wp_skip (hQ a w (Goes.refl h) rfl)
 | .label l,q,hq=> λe ex e' he g a w h Q hQ=>by
   obtain rfl:=Option.some.inj hq;simp only[evQ,Option.some.injEq,Prod.mk.injEq]at he;obtain⟨rfl,rfl⟩:=he;exact wp_label (hQ a w (Goes.refl h) rfl)
 | .region id ops d,q,hq=> λe ex e' he g a w h Q hQ=>by
   simp only[zeb]at hq;split at hq
   ·rename_i hd;subst hd;split at hq
    ·split at hq
     ·rename_i hback;split at hq
      ·rename_i qs hqs;obtain rfl:=Option.some.inj hq;simp only[evQ,Option.then_,zjj]at he;split at he
       ·rename_i e1 h1;simp only[Option.some.injEq,Prod.mk.injEq]at he;obtain⟨rfl,rfl⟩:=he;exact wp_region_any hm (zn1 hcs hqs hback h h1 hQ)
       ·cases he
      ·cases hq
     ·cases hq
    split at hq
    ·rename_i hback;split at hq
     ·rename_i n qs hn hqs;obtain rfl:=Option.some.inj hq;have he:evQ P io call lp (.draw (z2t (qs.take n)) (qs.take n) (qs.drop n)) (iceE e (iceL (qs.take n)))=some (ex,e'):=by rw[<-zz5];exact he
      simp only[evQ,Option.then_,zjj]at he;split at he
      ·rename_i e1 h1;simp only[Option.some.injEq,Prod.mk.injEq]at he;obtain⟨rfl,rfl⟩:=he;obtain⟨g1,k1,k2⟩:=zo8 (l:=iceL (qs.take n)) h
       exact zwd hm (zvb hcs hqs hback (zjw hn) k1 h1 (λa' w' hgo hd=>by
        obtain⟨g2,m1,m2⟩:=hgo
        exact hQ a' w' ⟨g2,m1,k2.trans m2⟩ hd))
      ·cases he
     ·cases hq
    ·cases hq
   ·rename_i hd;have hd':d=false:=by simpa using hd
    subst hd';split at hq
    ·rename_i qs hqs;obtain rfl:=Option.some.inj hq;simp only[evQ,Option.then_,zjj]at he;split at he
     ·rename_i e1 h1;simp only[Option.some.injEq,Prod.mk.injEq]at he;obtain⟨rfl,rfl⟩:=he;exact zth hcs hqs h h1 hQ
     ·cases he
    ·cases hq
 | .seq x y,q,hq=> λe ex e' he g a w h Q hQ=>by
   simp only[zeb]at hq;split at hq
   ·rename_i qx qy hx hy;obtain rfl:=Option.some.inj hq;simp only[evQ,Option.then_]at he;split at he
    ·rename_i r hr;obtain⟨ex1,e1⟩:=r;refine wp_seq (zbg hm hcs hlp x qx hx e ex1 e1 hr g a w h _ (λa1 w1 ⟨g1,k1,k2⟩ hd1=>?_))
     cases ex1 with
     |n=>exact zbg hm hcs hlp y qy hy e1 ex e' he g1 a1 w1 k1 Q (λa2 w2 ⟨g2,m1,m2⟩ hd2=>hQ a2 w2 ⟨g2,m1,k2.trans m2⟩ (hd2.trans hd1))
     |x id=>
      simp only[zj7,Option.some.injEq,Prod.mk.injEq]at he;obtain⟨rfl,rfl⟩:=he;exact hQ a1 w1 ⟨g1,k1,k2⟩ hd1
     |r=>
      simp only[zj7,Option.some.injEq,Prod.mk.injEq]at he;obtain⟨rfl,rfl⟩:=he;exact hQ a1 w1 ⟨g1,k1,k2⟩ hd1
    ·cases he
   ·cases hq
 | .cond c x y,q,hq=> λe ex e' he g a w h Q hQ=>by
   simp only[zeb]at hq;split at hq
   ·rename_i qx qy hx hy;obtain rfl:=Option.some.inj hq;simp only[evQ]at he;split at he
    ·rename_i t ht;have hc:=(h.rd ht).bool_inv;refine wp_cond hc ?_
     cases t with
     |true=>exact zbg hm hcs hlp x qx hx e ex e' he g a w h Q hQ
     |false=>exact zbg hm hcs hlp y qy hy e ex e' he g a w h Q hQ
    ·cases he
   ·cases hq
 | .block id x,q,hq=> λe ex e' he g a w h Q hQ=>by
   simp only[zeb]at hq;split at hq
   ·rename_i qx hx;obtain rfl:=Option.some.inj hq;simp only[evQ,Option.then_]at he;split at he
    ·rename_i r hr;obtain⟨ex1,e1⟩:=r;refine wp_block (zbg hm hcs hlp x qx hx e ex1 e1 hr g a w h _ (λa1 w1 hgo hd1=>?_))
     cases ex1 with
     |n=>
      simp only[zgd,Option.some.injEq,Prod.mk.injEq]at he;obtain⟨rfl,rfl⟩:=he;exact hQ a1 w1 hgo hd1
     |r=>
      simp only[zgd,Option.some.injEq,Prod.mk.injEq]at he;obtain⟨rfl,rfl⟩:=he;exact hQ a1 w1 hgo hd1
     |x i=>
      simp only[zgd]at he;show (if i=id then Q .normal a1 w1 else Q (.exit i) a1 w1)
      split at he
      ·rename_i hi;rw[if_pos hi];simp only[Option.some.injEq,Prod.mk.injEq]at he;obtain⟨rfl,rfl⟩:=he;exact hQ a1 w1 hgo hd1
      ·rename_i hi;rw[if_neg hi];simp only[Option.some.injEq,Prod.mk.injEq]at he;obtain⟨rfl,rfl⟩:=he;exact hQ a1 w1 hgo hd1
    ·cases he
   ·cases hq
 | .loop x,q,hq=> λe ex e' he g a w h Q hQ=>by
   simp only[zeb]at hq;split at hq
   ·rename_i qx hx;obtain rfl:=Option.some.inj hq;simp only[evQ]at he;obtain⟨n,hn⟩:=hlp _ _ _ he;exact z3f (zbg hm hcs hlp x qx hx) hn h hQ
   ·cases hq
 | .exit id,q,hq=> λe ex e' he g a w h Q hQ=>by
   obtain rfl:=Option.some.inj hq;simp only[evQ,Option.some.injEq,Prod.mk.injEq]at he;obtain⟨rfl,rfl⟩:=he;exact wp_exit (hQ a w (Goes.refl h) rfl)
 | .ret,q,hq=> λe ex e' he g a w h Q hQ=>by
   obtain rfl:=Option.some.inj hq;simp only[evQ,Option.some.injEq,Prod.mk.injEq]at he;obtain⟨rfl,rfl⟩:=he;exact wp_ret (hQ a w (Goes.refl h) rfl)
 | .goto _,q,hq=>by cases hq
 | .scope _,q,hq=>by cases hq
 | .refuse _,q,hq=>by cases hq
 | .rangeFunc _ _ _ _,q,hq=>by cases hq
end Go.Qz
