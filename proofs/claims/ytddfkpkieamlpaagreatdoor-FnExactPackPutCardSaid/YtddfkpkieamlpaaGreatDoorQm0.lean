import Derived.Test.YtddfkpkieamlpaaGreatDoorQl1
import Derived.RangeFuncRecord
import Derived.RangeFuncCalls
import Derived.TacticsIn
import Derived.OrdersIn
import Derived.Test.YtddfkpkieamlpaaGreatDoorQk0
namespace Go.Qz
abbrev rF(l:Nat):Fence:=Fence.wide.inRound l
theorem zwq{o:Oper}(h:Oper.noDefer o=true):∀c,o.op≠.defer c:=by
 intro c e;unfold Oper.noDefer at h;rw[e]at h;cases h
section
variable{P:Program}{l n:Nat}{ops:Array Oper}{Q:Exit->Act->World->Prop}
theorem z3h{o:Oper}{a:Act}{w:World}{K:Act->World->Prop}(hd:∀c,o.op≠.defer c)(h:o.wp P a w K Q):o.wpIn (rF l) n P a w K Q:=by
 refine⟨λ_ _=>trivial,?_⟩
 show o.uponIn (rF l) n P a K Q ((Oper.semAt (some l) a.eval o).run P w);rw[Oper.semAt_some l a.eval o hd];unfold Oper.wp at h;generalize (execOp a.eval o).run P w=r at h ⊢;have hdep:(rF l).depth.isSome=true->1<=n:=λhh=>by cases hh
 cases r with
 |ok x w' =>
  cases x with
  |value v=>exact h
  |skip=>exact h
  |defer d=>exact h
  |enter f args=>exact⟨hdep,CallsIn.inRound (F:=Fence.wide) l (callsIn_wide.2 h)⟩
  |row r args=>exact⟨hdep,λc cs _=>let ⟨v,w'',q,s⟩:=h c cs;⟨v,w'',q,stepsIn_wide.2 s⟩⟩
  |_=>exact False.elim h
 |halt x w' =>
  cases x with
  |panic v=>exact h
  |_=>exact False.elim h
theorem zq6{i:Nat}(hd:ops.all Oper.noDefer=true)(hQ:¬LetsOut Q){K K':Act->World->Prop}(hK:∀a w,K a w->K' a w){a:Act}{w:World}(h:wpOp P ops Q i K a w):wpOpIn (rF l) n P ops Q i K' a w:=by
 unfold wpOp at h;unfold wpOpIn;split
 ·rename_i ho;rw[ho]at h;exact hK _ _ h
 ·rename_i o ho;simp only[ho]at h;have hdo:=zwq (Array.all_eq_true_iff_forall_mem.1 hd o (Array.mem_of_getElem? ho));split
  ·rename_i hw;rw[if_pos hw]at h;exact z3h hdo (Oper.wp_mono hK (h.resolve_right (λhh=>hQ hh.2)))
  ·rename_i hw;rw[if_neg hw]at h;exact⟨λ_ _=>trivial,hK _ _ h⟩
theorem zq7(hd:ops.all Oper.noDefer=true)(hQ:¬LetsOut Q):∀(ls:List Nat) (a:Act) (w:World),wpOps P ops Q ls a w->wpOpsIn (rF l) n P ops Q ls a w
 | [],a,w,h=>h
 |i::r,a,w,h=>by
  rw[wpOps_cons]at h;rw[wpOpsIn_cons];exact zq6 hd hQ (λa w hh=>zq7 hd hQ r a w hh) h
theorem zma{md:Region.Mode}(hd:ops.all Oper.noDefer=true)(hQ:¬LetsOut Q):∀(fuel:Nat) (listed:Array Bool) (a:Act) (w:World),wpAny P md ops Q fuel listed a w->wpAnyIn (rF l) n P md ops Q fuel listed a w
 |0,_,_,_,h=>h
 |fuel+1,_,_,_,h=>⟨h.1,λi hi=>zq6 hd hQ (λa w hh=>zma hd hQ fuel _ a w hh) (h.2 i hi)⟩
end
def zvc[Base](P:Program)(l n:Nat)(c:Code)(f:Env->Res):Prop:=∀(e:Env) (ex:Ex) (e':Env),f e=some (ex,e')-> ∀(g:G) (a:Act) (w:World),Sim g e a.tmps w-> ∀(Q:Exit->Act->World->Prop),¬LetsOut Q->(∀a' w',Goes g e w e' a'.tmps w' ->a'.defers=a.defers->Q ex.exit a' w')->c.wpIn (rF l) n P Q a w
theorem zz8[Base]{P:Program}{l n:Nat}{c:Code}{f:Env->Res}(hc:zvc P l n c f){m:Nat}{e e':Env}{ex:Ex}(he:iter f m e=some (ex,e')){g:G}{a:Act}{w:World}(h:Sim g e a.tmps w){Q:Exit->Act->World->Prop}(_:¬LetsOut Q)(hQ:∀a' w',Goes g e w e' a'.tmps w' ->a'.defers=a.defers->Q ex.exit a' w'):(Code.loop c).wpIn (rF l) n P Q a w:=by
 intro b k cs hro hb hr
 have key:∀m (e1:Env) (a1:Act) (w1:World),iter f m e1=some (ex,e')->Goes g e w e1 a1.tmps w1->a1.defers=a.defers->
  ∃en a' w',Q en a' w' /\ArrivesIn (Machine.fenced P (rF l)) P (lone (b.atR a1 (.code c::.inLoop c::k)) cs w1) b k cs en a' w':=by
  intro m
  induction m with
  |zero=>intro e1 a1 w1 hit;cases hit
  |succ m ih=>
   intro e1 a1 w1 hit hgo hd;obtain⟨g1,k1,k2⟩:=hgo;rw[iter]at hit;split at hit
   ·rename_i e2 hf;obtain⟨en,a2,w2,hq,harr⟩:=hc e1 .n e2 hf g1 a1 w1 k1 (λen a2 w2=>en=.normal/\Goes g e w e2 a2.tmps w2/\a2.defers=a.defers) (λ⟨_,_,hh,_⟩=>by cases hh) (λa2 w2 ⟨g2,m1,m2⟩ hd2=>⟨rfl,⟨g2,m1,k2.trans m2⟩,hd2.trans hd⟩) b (.inLoop c::k) cs hro hb hr
    obtain⟨rfl,hgo2,hd2⟩:=hq;obtain⟨e₂,a₂,w₂,hq₂,harr₂⟩:=ih e2 a2 w2 hit hgo2 hd2;exact⟨e₂,a₂,w₂,hq₂,.of_steps (StepsIn.trans harr (.one (fenced_calm hb hr rfl) stepR_inLoop)) harr₂⟩
   ·rename_i r hno;obtain⟨en,a2,w2,hq,harr⟩:=hc e1 ex e' hit g1 a1 w1 k1 (λen a2 w2=>en=ex.exit/\Q en a2 w2) (λ⟨_,_,hh,_⟩=>by cases ex<;>cases hh) (λa2 w2 ⟨g2,m1,m2⟩ hd2=>⟨rfl,hQ a2 w2 ⟨g2,m1,k2.trans m2⟩ (hd2.trans hd)⟩) b (.inLoop c::k) cs hro hb hr
    obtain⟨rfl,hq⟩:=hq
    cases ex with
    |n=>exact absurd hit (hno e')
    |x id=>exact⟨_,a2,w2,hq,.pass (x:=.inLoop c) rfl (λ_ _=>.inl (by simp[Ex.exit])) harr⟩
    |r=>exact⟨_,a2,w2,hq,.pass (x:=.inLoop c) rfl (λ_ _=>.inl (by simp[Ex.exit])) harr⟩
 obtain⟨en,a',w',hq,harr⟩:=key m e a w he (Goes.refl h) rfl;exact⟨en,a',w',hq,.of_steps (.one (fenced_calm hb hr rfl) stepR_loop) harr⟩
theorem zdi[Base]{P:Program}{io:FuncId->List Nat}{call:zai}{lp:zio}{l n:Nat}(hm:P.follows .mixedOrders=true)(hcs:zff P call)(hlp:zfg lp):∀(c:Code) (q:zaa),zeb c=some q->noDefer c=true->zvc P l n c (evQ P io call lp q)
 | .skip,q,hq,_=> λe ex e' he g a w h Q _ hQ=>by
   obtain rfl:=Option.some.inj hq;simp only[evQ,Option.some.injEq,Prod.mk.injEq]at he;obtain⟨rfl,rfl⟩:=he;exact wpIn_skip (hQ a w (Goes.refl h) rfl)
 | .label k,q,hq,_=> λe ex e' he g a w h Q _ hQ=>by
   obtain rfl:=Option.some.inj hq;simp only[evQ,Option.some.injEq,Prod.mk.injEq]at he;obtain⟨rfl,rfl⟩:=he;exact wpIn_label (hQ a w (Goes.refl h) rfl)
 | .region id ops d,q,hq,hnd=> λe ex e' he g a w h Q hlo hQ=>by
   simp only[zeb]at hq;split at hq
   ·rename_i hd;subst hd;split at hq
    ·split at hq
     ·rename_i hback;split at hq
      ·rename_i qs hqs;obtain rfl:=Option.some.inj hq;simp only[evQ,Option.then_,zjj]at he;split at he
       ·rename_i e1 h1;simp only[Option.some.injEq,Prod.mk.injEq]at he;obtain⟨rfl,rfl⟩:=he;exact wpIn_region_any hm (zma hnd hlo _ _ _ _ (zn1 hcs hqs hback h h1 hQ))
       ·cases he
      ·cases hq
     ·cases hq
    split at hq
    ·rename_i hback;split at hq
     ·rename_i n qs hn hqs;obtain rfl:=Option.some.inj hq;have he:evQ P io call lp (.draw (z2t (qs.take n)) (qs.take n) (qs.drop n)) (iceE e (iceL (qs.take n)))=some (ex,e'):=by rw[<-zz5];exact he
      simp only[evQ,Option.then_,zjj]at he;split at he
      ·rename_i e1 h1;simp only[Option.some.injEq,Prod.mk.injEq]at he;obtain⟨rfl,rfl⟩:=he;obtain⟨g1,k1,k2⟩:=zo8 (l:=iceL (qs.take n)) h
       exact wpIn_region_any hm (zma hnd hlo _ _ _ _ (zlm (zvb hcs hqs hback (zjw hn) k1 h1 (λa' w' hgo hd=>by
        obtain⟨g2,m1,m2⟩:=hgo
        exact hQ a' w' ⟨g2,m1,k2.trans m2⟩ hd))))
      ·cases he
     ·cases hq
    ·cases hq
   ·rename_i hd;have hd':d=false:=by simpa using hd
    subst hd';split at hq
    ·rename_i qs hqs;obtain rfl:=Option.some.inj hq;simp only[evQ,Option.then_,zjj]at he;split at he
     ·rename_i e1 h1;simp only[Option.some.injEq,Prod.mk.injEq]at he;obtain⟨rfl,rfl⟩:=he;refine wpIn_region (zq7 hnd hlo _ _ _ (zo7 hcs (os:=ops.toList) (λk=>?_) (by simp) hqs h h1 hQ))
      rw[show ops.toList[k]? =ops[k]? from Array.getElem?_toList]
      rcases Nat.lt_or_ge k ops.size with hlt|hge
      ·rw[List.getElem?_range hlt];rfl
      ·rw[List.getElem?_eq_none (by simpa using hge),Array.getElem?_eq_none hge];rfl
     ·cases he
    ·cases hq
 | .seq x y,q,hq,hnd=> λe ex e' he g a w h Q hlo hQ=>by
   simp only[noDefer,Bool.and_eq_true]at hnd;simp only[zeb]at hq;split at hq
   ·rename_i qx qy hx hy;obtain rfl:=Option.some.inj hq;simp only[evQ,Option.then_]at he;split at he
    ·rename_i r hr;obtain⟨ex1,e1⟩:=r;refine wpIn_seq (zdi hm hcs hlp x qx hx hnd.1 e ex1 e1 hr g a w h _ (λ⟨a',w',hh⟩=>hlo ⟨a',w',hh⟩) (λa1 w1 ⟨g1,k1,k2⟩ hd1=>?_))
     cases ex1 with
     |n=>exact zdi hm hcs hlp y qy hy hnd.2 e1 ex e' he g1 a1 w1 k1 Q hlo (λa2 w2 ⟨g2,m1,m2⟩ hd2=>hQ a2 w2 ⟨g2,m1,k2.trans m2⟩ (hd2.trans hd1))
     |x id=>
      simp only[zj7,Option.some.injEq,Prod.mk.injEq]at he;obtain⟨rfl,rfl⟩:=he;exact hQ a1 w1 ⟨g1,k1,k2⟩ hd1
     |r=>
      simp only[zj7,Option.some.injEq,Prod.mk.injEq]at he;obtain⟨rfl,rfl⟩:=he;exact hQ a1 w1 ⟨g1,k1,k2⟩ hd1
    ·cases he
   ·cases hq
 | .cond c x y,q,hq,hnd=> λe ex e' he g a w h Q hlo hQ=>by
   simp only[noDefer,Bool.and_eq_true]at hnd;simp only[zeb]at hq;split at hq
   ·rename_i qx qy hx hy;obtain rfl:=Option.some.inj hq;simp only[evQ]at he;split at he
    ·rename_i t ht;have hc:=(h.rd ht).bool_inv;refine wpIn_cond hc ?_
     cases t with
     |true=>exact zdi hm hcs hlp x qx hx hnd.1 e ex e' he g a w h Q hlo hQ
     |false=>exact zdi hm hcs hlp y qy hy hnd.2 e ex e' he g a w h Q hlo hQ
    ·cases he
   ·cases hq
 | .block id x,q,hq,hnd=> λe ex e' he g a w h Q hlo hQ=>by
   simp only[zeb]at hq;split at hq
   ·rename_i qx hx;obtain rfl:=Option.some.inj hq;simp only[evQ,Option.then_]at he;split at he
    ·rename_i r hr;obtain⟨ex1,e1⟩:=r;refine wpIn_block (zdi hm hcs hlp x qx hx hnd e ex1 e1 hr g a w h _ (λ⟨a',w',hh⟩=>hlo ⟨a',w',hh⟩) (λa1 w1 hgo hd1=>?_))
     cases ex1 with
     |n=>
      simp only[zgd,Option.some.injEq,Prod.mk.injEq]at he;obtain⟨rfl,rfl⟩:=he;exact hQ a1 w1 hgo hd1
     |r=>
      simp only[zgd,Option.some.injEq,Prod.mk.injEq]at he;obtain⟨rfl,rfl⟩:=he;exact hQ a1 w1 hgo hd1
     |x i=>
      simp only[zgd]at he;show (if i=id then Q .normal a1 w1 else Q (.exit i) a1 w1)
      split at he
      ·rename_i hi;rw[if_pos hi];simp only[Option.some.injEq,Prod.mk.injEq]at he;obtain⟨rfl,rfl⟩:=he;exact hQ a1 w1 hgo hd1
      ·rename_i hi;rw[if_neg hi];simp only[Option.some.injEq,Prod.mk.injEq]at he;obtain⟨rfl,rfl⟩:=he;exact hQ a1 w1 hgo hd1
    ·cases he
   ·cases hq
 | .loop x,q,hq,hnd=> λe ex e' he g a w h Q hlo hQ=>by
   simp only[zeb]at hq;split at hq
   ·rename_i qx hx;obtain rfl:=Option.some.inj hq;simp only[evQ]at he;obtain⟨n,hn⟩:=hlp _ _ _ he;exact zz8 (zdi hm hcs hlp x qx hx hnd) hn h hlo hQ
   ·cases hq
 | .exit id,q,hq,_=> λe ex e' he g a w h Q _ hQ=>by
   obtain rfl:=Option.some.inj hq;simp only[evQ,Option.some.injEq,Prod.mk.injEq]at he;obtain⟨rfl,rfl⟩:=he;exact wpIn_exit (hQ a w (Goes.refl h) rfl)
 | .ret,q,hq,_=> λe ex e' he g a w h Q _ hQ=>by
   obtain rfl:=Option.some.inj hq;simp only[evQ,Option.some.injEq,Prod.mk.injEq]at he;obtain⟨rfl,rfl⟩:=he;exact wpIn_ret (hQ a w (Goes.refl h) rfl)
 | .goto _,q,hq,_=>by cases hq
 | .scope _,q,hq,_=>by cases hq
 | .refuse _,q,hq,_=>by cases hq
 | .rangeFunc _ _ _ _,q,hq,_=>by cases hq
end Go.Qz
namespace Go.Qz
theorem zhi{f:Nat->Option Nat}:∀{caps cs:List Cap},zj9 f caps=some cs->cs.length=caps.length/\(∀(k:Nat) c,cs[k]? =some c->(∃d,c=.ro d/\caps[k]? =some (.ro d))∨ ∃b b',c=.ptr b' /\caps[k]? =some (.ptr b)/\f b=some b')
 | [],cs,h=>by
   simp only[zj9,Option.some.injEq]at h;subst h;exact⟨rfl,λk c hk=>by simp at hk⟩
 | .ro d::r,cs,h=>by
   simp only[zj9]at h;split at h
   ·rename_i cs' hcs;obtain rfl:=Option.some.inj h;obtain⟨h1,h2⟩:=zhi hcs;refine⟨by simp[h1],λk c hk=>?_⟩
    cases k with
    |zero=>
     simp only[List.getElem?_cons_zero,Option.some.injEq]at hk;exact .inl ⟨d,hk.symm,rfl⟩
    |succ k=>simpa using h2 k c (by simpa using hk)
   ·cases h
 | .ptr b::r,cs,h=>by
   simp only[zj9]at h;split at h
   ·rename_i b' cs' hb hcs;obtain rfl:=Option.some.inj h;obtain⟨h1,h2⟩:=zhi hcs;refine⟨by simp[h1],λk c hk=>?_⟩
    cases k with
    |zero=>
     simp only[List.getElem?_cons_zero,Option.some.injEq]at hk;exact .inr ⟨b,b',hk.symm,rfl,hb⟩
    |succ k=>simpa using h2 k c (by simpa using hk)
   ·cases h
theorem RepA.named{g g':G}{e e':Env}{tm tm':Array Value}{w w':World}{s s':Slot}{a:A}{v:Value}{f:Nat->Option Nat}(hc:g.c.le g'.c)
 (hf:∀b b',f b=some b' ->(e'.box b').isSome=true->b' <zab->(e.box b).isSome=true/\b<zab/\g'.β b' =g.β b) (h:RepA g e tm w s a v):RepA g' e' tm' w' s' (a.named f) v:=by
 cases a with
 |ro d=>exact RO.mono hc h
 |rptr ds=>
  obtain⟨b,off,rfl,hd⟩:=h;refine⟨b,off,rfl,λm d hm=>?_⟩
  obtain⟨u,h1,h2,h3⟩:=hd m d hm;exact⟨u,hc _ _ _ h1,h2,h3.mono hc⟩
 |undef=>exact h
 |ptr b o=>
  simp only[A.named];split
  ·rename_i b' hb;intro hbs hlt;obtain⟨h1,h2,h3⟩:=hf b b' hb hbs hlt;rw[h3];exact h h1 h2
  ·trivial
 |fn k caps=>
  simp only[A.named];split
  ·rename_i cs hcs;obtain⟨vs,rfl,hs,hk⟩:=h;obtain⟨h1,h2⟩:=zhi hcs;refine⟨vs,rfl,by rw[hs,h1],λj c hj=>?_⟩
   rcases h2 j c hj with⟨d,rfl,hd⟩|⟨b,b',rfl,hb,hfb⟩
   ·exact RO.mono hc (hk j _ hd)
   ·intro hbs hlt;obtain⟨m1,m2,m3⟩:=hf b b' hfb hbs hlt;rw[m3];exact hk j _ hb m1 m2
  ·trivial
 |_=>trivial
theorem RepV.named{g g':G}{e e':Env}{tm tm':Array Value}{w w':World}{t:Nat}{V:V}{v:Value}{f:Nat->Option Nat}(hc:g.c.le g'.c)
 (hf:∀b b',f b=some b' ->(e'.box b').isSome=true->b' <zab->(e.box b).isSome=true/\b<zab/\g'.β b' =g.β b) (h:RepV g e tm w t V v):RepV g' e' tm' w' t (V.mapA (A.named f)) v:=by
 cases V with
 |one a=>exact RepA.named hc hf h
 |tup as=>
  obtain⟨vs,rfl,hs,hk⟩:=h;refine⟨vs,rfl,by simp[hs],λk a ha=>?_⟩
  rw[List.getElem?_map]at ha
  cases hq:as[k]? with
  |none=>rw[hq]at ha;cases ha
  |some a0=>
   rw[hq]at ha;obtain rfl:=Option.some.inj ha;exact RepA.named hc hf (hk k a0 hq)
 |agg as=>
  obtain⟨vs,rfl,hs,hk⟩:=h;refine⟨vs,rfl,by simp[hs],λk a ha=>?_⟩
  rw[List.getElem?_map]at ha
  cases hq:as[k]? with
  |none=>rw[hq]at ha;cases ha
  |some a0=>
   rw[hq]at ha;obtain rfl:=Option.some.inj ha;exact⟨(hk k a0 hq).1,RepA.named hc hf (hk k a0 hq).2⟩
theorem zem{b:Nat}(h:zc3 b=true):zaq<=b/\ ¬(9000<=b/\b<9999):=by
 unfold zc3 at h;simp only[Bool.and_eq_true,decide_eq_true_eq,Bool.not_eq_true',Bool.and_eq_false_iff,decide_eq_false_iff_not]at h;refine⟨h.1,λhh=>?_⟩
 rcases h.2 with h2|h2
 ·exact h2 hh.1
 ·exact h2 hh.2
theorem zhw{b:Nat}(h:zc3 b=true):¬b<999:=by have:=(zem h).1;unfold zaq at this;omega
theorem zgt{b b':Nat}(h:idIn b=some b'):(b<999/\b' =9000+b)∨(zc3 b=true/\b' =b):=by
 unfold idIn at h;split at h
 ·rename_i hb;cases h;exact .inl ⟨hb,rfl⟩
 ·split at h
  ·rename_i hb;cases h;exact .inr ⟨hb,rfl⟩
  ·cases h
theorem zti{b b':Nat}(h:zp0 b=some b'):b' =b/\(b<999∨zc3 b=true):=by
 unfold zp0 at h;split at h
 ·rename_i hb;cases h;exact⟨rfl,.inl hb⟩
 ·split at h
  ·rename_i hb;cases h;exact⟨rfl,.inr hb⟩
  ·cases h
theorem zq8{b b':Nat}(h:idIn b=some b'):zaq<=b':=by
 rcases zgt h with⟨h1,rfl⟩|⟨h1,rfl⟩
 ·unfold zaq;omega
 ·exact(zem h1).1
def zbv(b':Nat):Option Nat:=if 9000<=b' /\b' <9999 then some (b' -9000)else if zc3 b' then some b' else none
def zdh(b':Nat):Option Nat:=if b' <999 then some (9000+b')else if zc3 b' then some b' else none
theorem zdj{b' b:Nat}(h:zbv b' =some b):(b<999/\b' =9000+b)∨(zc3 b' =true/\b=b'):=by
 unfold zbv at h;split at h
 ·rename_i hb;have e1:=Option.some.inj h;exact .inl ⟨by omega,by omega⟩
 ·split at h
  ·rename_i hb;cases h;exact .inr ⟨hb,rfl⟩
  ·cases h
theorem ztj{a b c:Nat}(h1:zbv a=some c)(h2:zbv b=some c):a=b:=by
 rcases zdj h1 with⟨p1,p2⟩|⟨p1,p2⟩<;>rcases zdj h2 with⟨q1,q2⟩|⟨q1,q2⟩
 ·omega
 ·subst q2;exact absurd p1 (zhw q1)
 ·subst p2;exact absurd q1 (zhw p1)
 ·omega
theorem zq9{a b c:Nat}(h1:zdh a=some c)(h2:zdh b=some c):a=b:=by
 have key:∀{a c:Nat},zdh a=some c->(a<999/\c=9000+a)∨(zc3 a=true/\c=a):=λh=>zgt h
 rcases key h1 with⟨p1,p2⟩|⟨p1,p2⟩<;>rcases key h2 with⟨q1,q2⟩|⟨q1,q2⟩
 ·omega
 ·have:=(zem q1).2;omega
 ·have:=(zem p1).2;omega
 ·omega
def gIn(g:G):G where
 c:=g.c
 S:=λs=>match s with
  | .cell b' o=>match zbv b' with
    |some b=>g.S (.cell b o)
    |none=> λ_=>False
  | .tmp _ _=> λ_=>False
 β:=λb' =>match zbv b' with
  |some b=>g.β b
  |none=>g.β b'
 γ:=λb' =>match zbv b' with
  |some b=>g.γ b
  |none=>g.γ b'
theorem zi5{e:Env}{b':Nat}{cs:List A}(h:e.enter.box b' =some cs):∃b,zbv b' =some b/\e.box b=some cs:=by
 have h':(if 9000<=b' /\b' <9999 then e.boxes (b' -9000)else if zc3 b' then e.boxes b' else none)=some cs:=h
 unfold zbv;split at h'
 ·rename_i hb;rw[if_pos hb];exact⟨_,rfl,h'⟩
 ·rename_i hb;rw[if_neg hb];split at h'
  ·rename_i hk;rw[if_pos hk];exact⟨_,rfl,h'⟩
  ·cases h'
theorem zz9[Base]{g:G}{e:Env}{tm:Array Value}{w:World}(h:Sim g e tm w):Sim (gIn g) e.enter tm w:=by
 refine h.ren zbv (λa b c h1 h2=>ztj h1 h2) (λa b hab=>?_) rfl (λs x hx=>?_) (λb' o b x hb hx=>?_) (λb' cs hcs=>?_) h.size (λt=>?_)
 ·rcases zdj hab with⟨p1,p2⟩|⟨p1,rfl⟩
  ·unfold zab;omega
  ·exact Iff.rfl
 ·cases s with
  |tmp t k=>exact False.elim hx
  |cell b' o=>
   simp only[gIn]at hx
   cases hb:zbv b' with
   |none=>rw[hb]at hx;exact False.elim hx
   |some b=>rw[hb]at hx;exact⟨b',o,b,rfl,hb,hx⟩
 ·simp only[gIn,hb];exact hx
 ·obtain⟨b,h1,h2⟩:=zi5 hcs;exact⟨b,h1,h2,by simp only[gIn,h1],by simp only[gIn,h1]⟩
 ·refine RepV.named (g:=g) (e:=e) (tm:=tm) (w:=w) (g':=gIn g) (λ_ _ _ hx=>hx) (λb b' hb hbs hlt=>?_) (h.tv t)
  have ho:zbv b' =some b:=by
   rcases zgt hb with⟨p1,p2⟩|⟨p1,rfl⟩
   ·unfold zbv;rw[if_pos (by omega),p2,Nat.add_sub_cancel_left]
   ·unfold zbv;rw[if_neg (zem p1).2,if_pos p1]
  obtain⟨cs,hcs⟩:=Option.isSome_iff_exists.1 hbs;obtain⟨b2,h1,h2⟩:=zi5 hcs;rw[ho]at h1;cases h1;refine⟨by rw[h2];rfl,?_,by simp only[gIn,ho]⟩
  rcases zgt hb with⟨p1,rfl⟩|⟨p1,rfl⟩
  ·unfold zab;omega
  ·exact hlt
theorem zn2{g:G}{e:Env}{x:Nat}(h:Mine (gIn g) e.enter x):Mine g e x:=by
 rcases h with⟨s,hs⟩|⟨b',hb',hlt,hx⟩
 ·cases s with
  |tmp t k=>exact False.elim hs
  |cell b' o=>
   simp only[gIn]at hs
   cases hb:zbv b' with
   |none=>rw[hb]at hs;exact False.elim hs
   |some b=>rw[hb]at hs;exact .inl ⟨_,hs⟩
 ·obtain⟨cs,hcs⟩:=Option.isSome_iff_exists.1 hb';obtain⟨b,h1,h2⟩:=zi5 hcs;simp only[gIn,h1]at hx;refine .inr ⟨b,by rw[h2];rfl,?_,hx⟩
  rcases zdj h1 with⟨p1,p2⟩|⟨p1,rfl⟩
  ·unfold zab;omega
  ·exact hlt
theorem enter_span{g:G}{e:Env}{w:World}:Span g e w (gIn g).β (gIn g).γ (gIn g) e.enter w:=
 ⟨rfl,rfl,rfl,Nat.le_refl _,λ_ _ _=>rfl,λ_ hx=>.inl (zn2 hx),λ_ _ _ h=>h,λ_ _ _ h=>.inl h,λ_ _=>⟨rfl,rfl⟩⟩
def zi6(g:G):G where
 c:=g.c
 S:=λs=>match s with
  | .cell b o=> λx=>zaq<=b/\g.S (.cell b o) x
  | .tmp _ _=> λ_=>False
 β:=g.β
 γ:=g.γ
theorem zmb{i e:Env}{b:Nat}{cs:List A}(h:(i.again e).box b=some cs):zaq<=b/\(i.box b).isSome=true/\e.box b=some cs:=by
 have h':(if zaq<=b/\(i.boxes b).isSome then e.boxes b else none)=some cs:=h
 split at h'
 ·rename_i hb;exact⟨hb.1,hb.2,h'⟩
 ·cases h'
theorem zd4{g:G}{i e:Env}{x:Nat}(h:Mine (zi6 g) (i.again e) x):Mine g e x:=by
 rcases h with⟨s,hs⟩|⟨b,hb,hlt,hx⟩
 ·cases s with
  |tmp t k=>exact False.elim hs
  |cell b o=>exact .inl ⟨_,hs.2⟩
 ·obtain⟨cs,hcs⟩:=Option.isSome_iff_exists.1 hb;exact .inr ⟨b,by rw[(zmb hcs).2.2];rfl,hlt,hx⟩
def Calm(i:Env):Prop:=∀t,V.calmIn (λb=>zaq<=b) (i.get t)
theorem zjx(a:A):(a.named idIn).calmIn (λb=>zaq<=b):=by
 cases a with
 |ptr b o=>
  simp only[A.named];split
  ·rename_i b' hb;exact zq8 hb
  ·trivial
 |fn f caps=>
  simp only[A.named];split
  ·rename_i cs hcs;intro b hb;obtain⟨k,hk⟩:=List.mem_iff_getElem?.1 hb;rcases(zhi hcs).2 k _ hk with⟨d,h1,_⟩|⟨b0,b',h1,_,h3⟩
   ·cases h1
   ·cases h1;exact zq8 h3
  ·trivial
 |_=>trivial
theorem zwr(e:Env):Calm e.enter:=by
 intro t;show V.calmIn _ ((e.tmps t).mapA (A.named idIn))
 cases e.tmps t with
 |one a=>exact zjx a
 |tup as=>
  intro a ha;obtain⟨a0,_,rfl⟩:=List.mem_map.1 ha;exact zjx a0
 |agg as=>
  intro a ha;obtain⟨a0,_,rfl⟩:=List.mem_map.1 ha;exact zjx a0
theorem z0a[Base]{gi g:G}{i e:Env}{tm tm':Array Value}{wi w:World}(hi:Sim gi i tm wi)(hc:Calm i)(h:Sim g e tm' w)(hcc:gi.c.le g.c)(hl:∀b,zaq<=b->g.β b=gi.β b):Sim (zi6 g) (i.again e) tm w:=by
 refine h.ren (λb=>if zaq<=b then some b else none) (λa b c h1 h2=>?_) (λa b hab=>?_) rfl (λs x hx=>?_) (λb' o b x hb hx=>?_) (λb' cs hcs=>?_) hi.size (λt=>?_)
 ·split at h1
  ·split at h2
   ·cases h1;cases h2;rfl
   ·cases h2
  ·cases h1
 ·split at hab
  ·cases hab;exact Iff.rfl
  ·cases hab
 ·cases s with
  |tmp t k=>exact False.elim hx
  |cell b o=>exact⟨b,o,b,rfl,if_pos hx.1,hx.2⟩
 ·split at hb
  ·rename_i hb';cases hb;exact⟨hb',hx⟩
  ·cases hb
 ·obtain⟨h1,_,h2⟩:=zmb hcs;exact⟨b',if_pos h1,h2,rfl,rfl⟩
 ·exact RepV.calm hcc (λb hb hbs hlt=>by
   obtain⟨cs,hcs⟩:=Option.isSome_iff_exists.1 hbs
   exact⟨(zmb hcs).2.1,hl b hb⟩) (hc t) (hi.tv t)
def gOut(o g:G):G where
 c:=g.c
 S:=λs=>match s with
  | .cell b' k=>match zdh b' with
    |some b=>g.S (.cell b k)
    |none=> λ_=>False
  | .tmp _ _=> λ_=>False
 β:=o.β
 γ:=o.γ
theorem zmc{o e:Env}{b':Nat}{cs:List A}(h:(o.leave e).box b' =some cs):∃b,zdh b' =some b/\e.box b=some cs/\(o.box b').isSome=true:=by
 have h':(if b' <999 then(if (o.boxes b').isSome then e.boxes (9000+b')else none)else if zc3 b' /\(o.boxes b').isSome then e.boxes b' else none)=some cs:=h
 unfold zdh;split at h'
 ·rename_i hb;rw[if_pos hb];split at h'
  ·rename_i hs;exact⟨_,rfl,h',hs⟩
  ·cases h'
 ·rename_i hb;rw[if_neg hb];split at h'
  ·rename_i hk;rw[if_pos hk.1];exact⟨_,rfl,h',hk.2⟩
  ·cases h'
theorem zfy{b' b:Nat}(h:zdh b' =some b):zaq<=b/\zbv b=some b' /\(b' <zab↔b<zab):=by
 rcases zgt (show idIn b' =some b from h)with⟨p1,p2⟩|⟨p1,rfl⟩
 ·refine⟨by unfold zaq;omega,?_,by unfold zab;omega⟩
  unfold zbv;rw[if_pos (by omega),p2,Nat.add_sub_cancel_left]
 ·refine⟨(zem p1).1,?_,Iff.rfl⟩;unfold zbv;rw[if_neg (zem p1).2,if_pos p1]
theorem z0b[Base]{go g:G}{o e:Env}{tm tm':Array Value}{wo w:World}(ho:Sim go o tm wo)(h:Sim g e tm' w)(hcc:go.c.le g.c)(hl:∀b,zaq<=b->g.β b=(gIn go).β b/\g.γ b=(gIn go).γ b):Sim (gOut go g) (o.leave e) tm w:=by
 refine h.ren zdh (λa b c h1 h2=>zq9 h1 h2) (λa b hab=>(zfy hab).2.2) rfl (λs x hx=>?_) (λb' k b x hb hx=>?_) (λb' cs hcs=>?_) ho.size (λt=>?_)
 ·cases s with
  |tmp t k=>exact False.elim hx
  |cell b' k=>
   simp only[gOut]at hx
   cases hb:zdh b' with
   |none=>rw[hb]at hx;exact False.elim hx
   |some b=>rw[hb]at hx;exact⟨b',k,b,rfl,hb,hx⟩
 ·simp only[gOut,hb];exact hx
 ·obtain⟨b,h1,h2,h3⟩:=zmc hcs;obtain⟨k1,k2,_⟩:=zfy h1;obtain⟨m1,m2⟩:=hl b k1;refine⟨b,h1,h2,?_,?_⟩
  ·rw[m1];simp only[gIn,gOut,k2]
  ·rw[m2];simp only[gIn,gOut,k2]
 ·refine RepV.named (g':=gOut go g) hcc (λb b' hb hbs hlt=>?_) (ho.tv t)
  obtain⟨rfl,_⟩:=zti hb;obtain⟨cs,hcs⟩:=Option.isSome_iff_exists.1 hbs;obtain⟨b2,h1,h2,h3⟩:=zmc hcs;exact⟨h3,hlt,rfl⟩
theorem zn3{go g:G}{o e:Env}(hl:∀b,zaq<=b->g.β b=(gIn go).β b/\g.γ b=(gIn go).γ b){x:Nat}(h:Mine (gOut go g) (o.leave e) x):Mine g e x:=by
 rcases h with⟨s,hs⟩|⟨b',hb',hlt,hx⟩
 ·cases s with
  |tmp t k=>exact False.elim hs
  |cell b' k=>
   simp only[gOut]at hs
   cases hb:zdh b' with
   |none=>rw[hb]at hs;exact False.elim hs
   |some b=>rw[hb]at hs;exact .inl ⟨_,hs⟩
 ·obtain⟨cs,hcs⟩:=Option.isSome_iff_exists.1 hb';obtain⟨b,h1,h2,h3⟩:=zmc hcs;obtain⟨k1,k2,k3⟩:=zfy h1;refine .inr ⟨b,by rw[h2];rfl,k3.1 hlt,?_⟩
  rw[(hl b k1).1];simp only[gIn,k2];exact hx
structure z0c(b:Nat)(W W':World):Prop where
 os:W'.os=W.os
 tape:W'.tape=W.tape
 output:W'.output=W.output
 size:W.heap.size<=W'.heap.size
 block:∀x,x<W.heap.size->x≠b->W'.heap[x]? =W.heap[x]?
def zo9(P:Program)(f:FuncId):Prop:=∀(l bp bs bn:Nat) (s p:ByteArray) (J:List ByteArray->World->Prop) (Jx:World->Prop) (W:World),p.size=1->s.size<=9223372036854775807->
 SeqCells W s p bp bs bn->
 (∀r W1 W2,J r W1->z0c bs W1 W2->J r W2)->
 (∀x r W1,J (x::r) W1->YieldAt Fence.wide 0 P l #[.string x] W1 (λen W2=>(en=.returned (.bool true)/\J r W2/\W2.heap[bp]? =W1.heap[bp]? /\W2.heap[bs]? =W1.heap[bs]? /\W2.heap[bn]? =W1.heap[bn]?)∨(en=.returned (.bool false)/\Jx W2)))->
 J (zgh s p) W->
 CallsIn Fence.wide 0 P f #[.func (.yield l) #[] #[],.pointer (some ⟨bp,0,none⟩),.pointer (some ⟨bs,0,none⟩),.pointer (some ⟨bn,0,none⟩)] W (λen W2=>(∃v,en=.returned v)/\(J [] W2∨Jx W2))
theorem z0d[Base]{g:G}{e:Env}{tm:Array Value}{w:World}(h:Sim g e tm w){t:Nat}{f:FuncId}{s p:ByteArray}(hs:zsr e t=some (f,s,p)):
 ∃bp bs bn,tm.getD t undef=seqV f bp bs bn/\SeqCells w s p bp bs bn/\ ∃u,g.S (.tmp u 0) bp/\g.S (.tmp u 0) bs/\g.S (.tmp u 0) bn:=by
 have own:∀{u:Nat},e.get u=.one (.own (.seq f s p))-> ∃bp bs bn,tm.getD u undef=seqV f bp bs bn/\SeqCells w s p bp bs bn/\ ∃u,g.S (.tmp u 0) bp/\g.S (.tmp u 0) bs/\g.S (.tmp u 0) bn:=by
  intro u hu;have ht:=h.tv u;rw[hu]at ht;have ho:OwnC w (.seq f s p) (tm.getD u undef) (g.S (.tmp u 0)):=ht;generalize tm.getD u undef=v at ho ⊢
  cases ho with
  |flat hf _=>simp[D.flat]at hf
  |seq h1 h2=>exact⟨_,_,_,rfl,h1,u,h2⟩
 unfold zsr at hs;split at hs
 ·rename_i hg;simp only[Option.some.injEq,Prod.mk.injEq]at hs;obtain⟨rfl,rfl,rfl⟩:=hs;exact own hg
 ·rename_i u hg;split at hs
  ·rename_i f' s' p' hu;simp only[Option.some.injEq,Prod.mk.injEq]at hs;obtain⟨e1,e2,e3⟩:=hs;rw[e1,e2,e3]at hu;obtain⟨bp,bs,bn,h1,h2,h3⟩:=own hu;refine⟨bp,bs,bn,?_,h2,h3⟩;have ht:=h.tv t;rw[hg]at ht
   have hr:e.root (.tmp u)=.own (.seq f s p):=by
    show (match e.get u with| .one a=>a|_=>.dead)=_
    rw[hu]
   have hown:e.ownAt ⟨.tmp u,[]⟩=some (.seq f s p):=by
    simp only[Env.ownAt,hr,D.sub]
   obtain⟨V,hV,hp⟩:=ht _ hown;have hV':tm.getD u undef=V:=hV;have hp':V=tm.getD t undef:=hp;rw[<-hp',<-hV',h1]
  ·cases hs
 ·cases hs
end Go.Qz
