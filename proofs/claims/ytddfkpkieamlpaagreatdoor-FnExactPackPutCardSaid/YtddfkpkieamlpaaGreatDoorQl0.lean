import Derived.Test.YtddfkpkieamlpaaGreatDoorQe0
import Derived.Test.YtddfkpkieamlpaaGreatDoorQk0
namespace Go.Qz
theorem zo6{e:Env}{f:A->A}{F:Loc->Prop}{B:Nat->Prop}(hf:zgm f F B){r:Root}{d:D}(h:(e.mapA f).root r=.own d):e.root r=.own d:=by
 cases r with
 |cell b o=>exact h
 |tmp t=>
  simp only[Env.root,Env.get,Env.mapA]at h ⊢
  cases hV:e.tmps t with
  |one a=>
   rw[hV]at h;exact zef hf a d h
  |tup as=>rw[hV]at h;simp[V.mapA]at h
  |agg as=>rw[hV]at h;simp[V.mapA]at h
theorem Sim.killed[Base]{g:G}{e:Env}{tm:Array Value}{w:World}(h:Sim g e tm w){f:A->A}(hf:zgm f (λ_=>True) (λ_=>True)):Sim g (e.mapA f) tm w:=by
 have hown:∀l d,(e.mapA f).ownAt l=some d->e.ownAt l=some d:=by
  intro l d hd;simp only[Env.ownAt]at hd ⊢;split at hd
  ·rename_i D hD;rw[zo6 hf hD];exact hd
  ·cases hd
 have K:zcy g e tm w g (e.mapA f) tm w (λ_=>True) (λ_=>True):=
  ⟨λ_ _ _ hx=>hx,λl _ d' hd' =>⟨d',hown l d' hd',λz xs' e=>⟨xs',e,Nat.le_refl _⟩,λv hv=>hv⟩,λb _ hb _=>⟨hb,rfl⟩⟩
 exact{
  size:=h.size
  tv:=λt=>RepV.kill K hf (λk x hx=>⟨hx,rfl⟩) (h.tv t)
  bx:=λb cs hcs=>(h.bx b cs hcs).keep K (λo x hx=>⟨hx,rfl⟩) (λ_=>⟨rfl,rfl⟩) (λ_=>rfl)
  binj:=h.binj
  sdis:=h.sdis
  sbox:=h.sbox
  slt:=h.slt
  cmem:=h.cmem
  base:=h.base
  fix:=h.fix
  cdis:=h.cdis}
theorem zic[Base]{g:G}{e:Env}{tm:Array Value}{w:World}(h:Sim g e tm w){f:A->A}(hf:zgm f (λ_=>True) (λ_=>True)):Goes g e w (e.mapA f) tm w:=
 ⟨g,h.killed hf,rfl,rfl,rfl,Nat.le_refl _,λ_ _ _=>rfl,λ_ hx=>.inl hx,λ_ _ _ h=>h,λ_ _ _ h=>.inl h,λ_ _=>⟨rfl,rfl⟩⟩
theorem ztf[Base]{g:G}{e:Env}{tm:Array Value}{w:World}(h:Sim g e tm w)(t:Nat):Goes g e w (e.set0 t .dead) tm w:=by
 refine⟨_,h.forget t,rfl,rfl,rfl,Nat.le_refl _,λ_ _ _=>rfl,λx hx=>.inl ?_,λ_ _ _ h=>h,λ_ _ _ h=>.inl h,λ_ _=>⟨rfl,rfl⟩⟩
 rcases hx with⟨s,hs⟩|hx
 ·rcases zbk _ _ _ hs with⟨k,_,hy⟩|⟨_,hs'⟩
  ·exact hy.elim
  ·exact .inl ⟨s,hs'⟩
 ·exact .inr hx
theorem Goes.trans[Base]{g:G}{e e1 e2:Env}{w w1 w2:World}{tm1 tm2:Array Value}(h:Goes g e w e1 tm1 w1)(k:∀g1,Sim g1 e1 tm1 w1->Goes g1 e1 w1 e2 tm2 w2):Goes g e w e2 tm2 w2:=by
 obtain⟨g1,h1,h2⟩:=h;obtain⟨g2,k1,k2⟩:=k g1 h1;exact⟨g2,k1,h2.trans k2⟩
theorem zn0[Base]{tm:Array Value}{w:World}:∀{l:List Nat} {g:G} {e:Env},Sim g e tm w->Goes g e w (e.clear l) tm w
 | [],_,_,h=>Goes.refl h
 |d::r,_,_,h=>
  (zic h (ze9 (zd0 (.tmp d)) (λ_ _=>trivial) (λ_ h=>h))).trans (λ_ h1=>(ztf h1 d).trans (λ_ h2=>zn0 (l:=r) h2))
theorem zd3{p:List Nat}{d:Nat}{r:Root}(h:r.cleanR p=true)(hd:r≠.tmp d)(hc:∀b o,r=.cell b o->d≠za8 b):r.cleanR (p++[d])=true:=by
 cases r with
 |cell b o=>
  have:=hc b o rfl;simp only[Root.cleanR,Bool.not_eq_true',List.contains_eq_mem,List.mem_append,List.mem_singleton,decide_eq_false_iff_not]at h ⊢;rintro(h1|h1)
  ·exact h h1
  ·exact this h1.symm
 |tmp t=>
  have:t≠d:=λe=>hd (by rw[e])
  simp only[Root.cleanR,Bool.not_eq_true',List.contains_eq_mem,List.mem_append,List.mem_singleton,decide_eq_false_iff_not]at h ⊢;rintro(h1|h1)
  ·exact h h1
  ·exact this h1
theorem V.clean_map{p q:List Nat}{f:A->A}(hf:∀a:A,a.clean p=true->(f a).clean q=true){v:V}(h:v.clean p=true):(v.mapA f).clean q=true:=by
 cases v with
 |one a=>exact hf a h
 |tup as=>
  simp only[V.clean,V.mapA,List.all_map,List.all_eq_true]at h ⊢;exact λa ha=>hf a (h a ha)
 |agg as=>
  simp only[V.clean,V.mapA,List.all_map,List.all_eq_true]at h ⊢;exact λa ha=>hf a (h a ha)
theorem zwn{p:List Nat}{d:Nat}(hs:d<1000000000){a:A}(h:a.clean p=true):(A.drop (.tmp d) a).clean (p++[d])=true:=by
 have hc:∀(r:Root) (b o:Nat),r=.cell b o->d≠za8 b:=λ_ b _ _=>by unfold za8;omega
 cases a with
 |view l=>
  simp only[A.drop];split
  ·rfl
  ·rename_i hd;exact zd3 h hd (hc _)
 |eptr l z i o=>
  simp only[A.drop];split
  ·rfl
  ·rename_i hd;exact zd3 h hd (hc _)
 |pview l i k=>
  simp only[A.drop];split
  ·rfl
  ·rename_i hd;exact zd3 h hd (hc _)
 |_=>rfl
theorem zwo{p:List Nat}{b:Nat}{a:A}(h:a.clean p=true):(A.drop (.tmp (za8 b)) (A.killIn b a)).clean (p++[za8 b])=true:=by
 have hc:∀(r:Root),¬r.inBox b=true-> ∀(b' o:Nat),r=.cell b' o->za8 b≠za8 b':=λr hr b' o e=>by
  subst e;unfold za8;simp only[Root.inBox]at hr;intro h;have:b=b':=by omega
  subst this;simp at hr
 cases a with
 |view l=>
  simp only[A.killIn];split
  ·rfl
  ·rename_i hb;simp only[A.drop];split
   ·rfl
   ·rename_i hd;exact zd3 h hd (hc _ hb)
 |eptr l z i o=>
  simp only[A.killIn];split
  ·rfl
  ·rename_i hb;simp only[A.drop];split
   ·rfl
   ·rename_i hd;exact zd3 h hd (hc _ hb)
 |pview l i k=>
  simp only[A.killIn];split
  ·rfl
  ·rename_i hb;simp only[A.drop];split
   ·rfl
   ·rename_i hd;exact zd3 h hd (hc _ hb)
 |_=>rfl
theorem zl8:∀{l p:List Nat} {e:Env},(∀d∈l,d<1000000000)->zec p e->zec (p++l) (e.clear l)
 | [],p,e,_,h=>by rw[List.append_nil];exact h
 |d::r,p,e,hs,h=>by
  rw[show p++d::r=(p++[d])++r by simp]
  refine zl8 (l:=r) (λx hx=>hs x (List.mem_cons_of_mem _ hx)) (λt=>?_)
  by_cases ht:t=d
  ·subst ht;have:(Env.set0 (e.mapA (A.drop (.tmp t))) t .dead).get t=.dead:=by simp[Env.get,Env.set0]
   rw[this];rfl
  ·have:(Env.set0 (e.mapA (A.drop (.tmp d))) d .dead).get t=(e.get t).mapA (A.drop (.tmp d)):=by simp[Env.get,Env.set0,Env.mapA,ht]
   rw[this];exact V.clean_map (λa ha=>zwn (hs d List.mem_cons_self) ha) (h t)
theorem zkj:∀{l p:List Nat} {e:Env},zec p e->zec (p++l.map za8) (znm e l)
 | [],p,e,h=>by rw[List.map_nil,List.append_nil];exact h
 |b::r,p,e,h=>by
  rw[show p++(b::r).map za8=(p++[za8 b])++r.map za8 by simp]
  refine zkj (l:=r) (λt=>?_)
  show (((e.get t).mapA (A.killIn b)).mapA (A.drop (.tmp (za8 b)))).clean _=true
  have hm:((e.get t).mapA (A.killIn b)).mapA (A.drop (.tmp (za8 b)))=(e.get t).mapA (λa=>A.drop (.tmp (za8 b)) (A.killIn b a)):=by
   cases e.get t<;>simp[V.mapA]
  rw[hm];exact V.clean_map (λa ha=>zwo ha) (h t)
theorem zq4[Base]{tm:Array Value}{w:World}:∀{l:List Nat} {g:G} {e:Env},Sim g e tm w->Goes g e w (znm e l) tm w
 | [],_,_,h=>Goes.refl h
 |b::r,_,_,h=>((zic h (ze9 (zgq b) (λ_ _=>trivial) (λ_ _=>trivial))).trans (λ_ h1=>zic h1 (ze9 (zd0 (.tmp (za8 b))) (λ_ _=>trivial) (λ_ h=>h)))).trans
   (λ_ h2=>zq4 (l:=r) h2)
theorem zz4(e:Env):zec [] e:=λt=>by
 have hr:∀r:Root,r.cleanR []=true:=λr=>by cases r<;>rfl
 have ha:∀a:A,a.clean []=true:=λa=>by cases a<;>first|rfl|exact hr _
 cases e.get t with
 |one a=>exact ha a
 |tup as=>exact List.all_eq_true.2 (λa _=>ha a)
 |agg as=>exact List.all_eq_true.2 (λa _=>ha a)
theorem zl9{ds:List Nat}{d:Nat}(hd:d∈ds){a:A}(h:a.clean ds=true):A.drop (.tmp d) a=a:=by
 have hr:∀r:Root,r.cleanR ds=true->r≠.tmp d:=by
  rintro r hr rfl;simp[Root.cleanR,hd]at hr
 cases a with
 |view l=>simp only[A.drop,if_neg (hr _ h)]
 |eptr l z i o=>simp only[A.drop,if_neg (hr _ h)]
 |pview l i k=>simp only[A.drop,if_neg (hr _ h)]
 |_=>rfl
theorem zq5{ds:List Nat}{e:Env}(h:zec ds e){d:Nat}(hd:d∈ds)(v:V):e.set d v=e.set0 d v:=by
 have hm:e.mapA (A.drop (.tmp d))=e:=by
  refine zov rfl (λt=>?_) (λ_=>rfl)
  show (e.get t).mapA _=e.get t;have ht:=h t
  cases hV:e.get t with
  |one a=>
   rw[hV]at ht;simp only[V.mapA,zl9 hd (a:=a) ht]
  |tup as=>
   rw[hV]at ht;have:=List.all_eq_true.1 (show as.all (A.clean ds)=true from ht)
   simp only[V.mapA,V.tup.injEq];exact(List.map_congr_left (λa ha=>zl9 hd (this a ha))).trans (List.map_id _)
  |agg as=>
   rw[hV]at ht;have:=List.all_eq_true.1 (show as.all (A.clean ds)=true from ht)
   simp only[V.mapA,V.agg.injEq];exact(List.map_congr_left (λa ha=>zl9 hd (this a ha))).trans (List.map_id _)
 cases v with
 |one a=>
  cases a with
  |own x=>show (e.mapA (A.drop (.tmp d))).set0 d _=_;rw[hm]
  |_=>rfl
 |_=>rfl
theorem z5p{P:Program}{io:FuncId->List Nat}{call:zai}{e:Env}{o o':Oper}(h1:o.dst=o'.dst)(h2:o.op=o'.op)(h3:o.type=o'.type):evOp P io call e o=evOp P io call e o':=by
 obtain⟨d,op,ty,p,af,gd⟩:=o;obtain⟨d',op',ty',p',af',gd'⟩:=o';dsimp only at h1 h2 h3;subst h1 h2 h3;unfold evOp;rfl
theorem z5q[Base]{P:Program}{g:G}{e e':Env}{a:Act}{w:World}{o:Oper}(h:Runs P g e a w {o with op:=mvOp o.op} e'):Runs P g e a w o e':=by
 obtain⟨d,op,ty,p,af,gd⟩:=o
 cases op with
 |assign x=>
  intro next Q hk
  exact h next Q hk
 |_=>exact h
theorem ztg[Base]{P:Program}{io:FuncId->List Nat}{call:zai}(hcs:zff P call){ops:Array Oper}{Q:Exit->Act->World->Prop}{i:Nat}{o:Oper}{q:QOp}(ho:ops[i]? =some o)(hq:qOf ops.toList o=some q)
 {g:G} {e e':Env} {a:Act} {w:World} (h:Sim g e a.tmps w) (he:zh2 P io call q e=some e') {K:Act->World->Prop} (hk:∀a' w',Goes g e w e' a'.tmps w' ->a'.defers=a.defers->K a' w'):wpOp P ops Q i K a w:=by
 obtain⟨k1,k2,k3⟩:=zli hq;unfold wpOp;simp only[ho];unfold zh2 at he;split at he
 ·rename_i hg;rw[zi4 h ((zir hq e).trans hg),if_pos rfl];refine .inl (zz1 (io:=io) hcs h (o:=o) ?_ _ Q hk);rw[z5p (o':=q.oper) k1.symm k2.symm k3.symm];exact he
 ·rename_i hg;rw[zi4 h ((zir hq e).trans hg),if_neg (by simp)]
  have hh:HoldV g e a.tmps w (λ_ _=>False) (.one .undef) undef:=rfl
  rw[k1]at he;have hgo:=(Holds.plain h hh).put he;exact hk _ _ (by rw[zha];exact hgo) (zd1 _ _ _)
 ·cases he
theorem z5r[Base]{P:Program}{io:FuncId->List Nat}{call:zai}(hcs:zff P call){ops:Array Oper}{Q:Exit->Act->World->Prop}{i:Nat}{o:Oper}{q:QOp}(ho:ops[i]? =some o)(hq:qOf ops.toList o=some q)
 {g:G} {e:Env} {a:Act} {w:World} (h:Sim g e a.tmps w) {ds:List Nat} (hcl:zec ds e) (hds:∀d,q.dst=some d->d∈ds) {s:Stp} (he:stpQ P io call ds q e=some s) {K:Act->World->Prop}
 (hk:∀a' w',Goes g e w (s.app e) a'.tmps w' ->a'.defers=a.defers->K a' w'):wpOp P ops Q i K a w:=by
 obtain⟨k1,k2,k3⟩:=zli hq
 have hput:∀(t:Option Nat) (v:V),zgg e q.dst=true->zap (e.eat t) o.dst v=some (Stp.app ⟨q.dst,v,t,none⟩ e):=by
  intro t v hok;rw[<-k1];unfold Stp.app
  cases hd:q.dst with
  |none=>rfl
  |some d=>
   rw[hd]at hok;simp only[zgg,decide_eq_true_eq]at hok;have hsz:(e.eat t).size=e.size:=by cases t<;>rfl
   have hce:zec ds (e.eat t):=by
    intro x;rw[zjm];split
    ·rfl
    ·exact hcl x
   simp only[zap,hsz,hok,if_true,zq5 hce (hds d hd)];rfl
 unfold wpOp;simp only[ho];obtain⟨_,hok,_,hca|⟨hg,hca⟩⟩:=zc7 he
 ·obtain⟨hg,rfl⟩:=hca;rw[zi4 h ((zir hq e).trans hg),if_neg (by simp)]
  have hh:HoldV g e a.tmps w (λ_ _=>False) (.one .undef) undef:=rfl
  have hgo:=(Holds.plain h hh).put (hput none (.one .undef) hok);exact hk _ _ (by rw[zha];exact hgo) (zd1 _ _ _)
 ·rw[zi4 h ((zir hq e).trans hg),if_pos rfl];rcases hca with⟨v,t,hv,_,rfl⟩|⟨v,b,cs,_,hw,rfl,hfd⟩
  ·rw[k2,k3]at hv;have hev:=z5f hv;rw[hput t v hok]at hev;refine .inl (z5q (zz1 hcs h hev) _ Q (λa' w' hgo hd=>hk a' w' ?_ hd))
   by_cases hi:iceR (ze6 ds) q.op v=v
   ·rw[hi];exact hgo
   ·obtain⟨d,rfl,hv2⟩:∃d,v=.one (.own d)/\iceR (ze6 ds) q.op v=.one (.ro d):=by
     unfold iceR at hi ⊢;split at hi
     ·exact⟨_,rfl,rfl⟩
     ·exact absurd rfl hi
    rw[hv2]
    cases hqd:q.dst with
    |none=>rw[hqd]at hgo;exact hgo
    |some k=>
     rw[hqd]at hgo;refine hgo.trans (λg1 h1=>?_)
     have hfz:(Stp.app ⟨some k,.one (.own d),t,none⟩ e).freeze (.tmp k)=Stp.app ⟨some k,.one (.ro d),t,none⟩ e:=by
      have hg1:(Stp.app ⟨some k,.one (.own d),t,none⟩ e).get k=.one (.own d):=by rw[zfr];simp
      have hr:(Stp.app ⟨some k,.one (.own d),t,none⟩ e).root (.tmp k)=.own d:=by simp only[Env.root,hg1]
      unfold Env.freeze;rw[hr];refine zov (by simp[zot,Env.setRoot,Env.mapA,Env.set0]) (λx=>?_) (λb=>?_)
      ·have hA:∀a:A,a.clean ds=true->A.thaw (Stp.app ⟨some k,.one (.own d),t,none⟩ e) (.tmp k) a=a:=λa ha=>by
        have hrr:∀r:Root,r.cleanR ds=true-> ¬r=.tmp k:=λr hr hi=>by
         subst hi;have:=hds k hqd;simp only[Root.cleanR,Bool.not_eq_true',List.contains_eq_mem,decide_eq_false_iff_not]at hr;exact hr this
        cases a with
        |view l=>simp only[A.thaw,if_neg (hrr _ ha)]
        |eptr l z i o=>simp only[A.thaw,if_neg (hrr _ ha)]
        |pview l i k=>simp only[A.thaw,if_neg (hrr _ ha)]
        |_=>rfl
       by_cases hx:x=k
       ·subst hx;rw[zfr];simp[Env.setRoot,Env.get,Env.set0]
       ·have e1:((Env.mapA (Stp.app ⟨some k,.one (.own d),t,none⟩ e) (A.thaw (Stp.app ⟨some k,.one (.own d),t,none⟩ e) (.tmp k))).setRoot (.tmp k) (.ro d)).get x=((Stp.app ⟨some k,.one (.own d),t,none⟩ e).get x).mapA (A.thaw (Stp.app ⟨some k,.one (.own d),t,none⟩ e) (.tmp k)):=by
         simp[Env.setRoot,Env.get,Env.set0,Env.mapA,hx]
        rw[e1]
        have e2:(Stp.app ⟨some k,.one (.own d),t,none⟩ e).get x=(e.eat t).get x:=by
         rw[zfr,zjm];simp[Ne.symm hx]
        have e3:(Stp.app ⟨some k,.one (.ro d),t,none⟩ e).get x=(e.eat t).get x:=by
         rw[zfr,zjm];simp[Ne.symm hx]
        rw[e2,e3]
        have hcx:((e.eat t).get x).clean ds=true:=by
         rw[zjm];split
         ·rfl
         ·exact hcl x
        cases hV:(e.eat t).get x with
        |one a=>rw[hV]at hcx;simp only[V.mapA,hA a hcx]
        |tup as=>
         rw[hV]at hcx;have:=List.all_eq_true.1 (show as.all (A.clean ds)=true from hcx)
         simp only[V.mapA,V.tup.injEq];exact(List.map_congr_left (λa ha=>hA a (this a ha))).trans (List.map_id _)
        |agg as=>
         rw[hV]at hcx;have:=List.all_eq_true.1 (show as.all (A.clean ds)=true from hcx)
         simp only[V.mapA,V.agg.injEq];exact(List.map_congr_left (λa ha=>hA a (this a ha))).trans (List.map_id _)
      ·rfl
     rw[<-hfz];exact zdb h1 _
  ·rw[k2]at hw;obtain⟨hev,hb⟩:=z65 (o:=o) hw
   have hmm:(e.mapA (A.killIn b)).mapA (A.killIn b)=e:=by
    have h1:∀e:Env,zec ds e->e.mapA (A.killIn b)=e:=λe hce=>by
     refine zov rfl (λt=>?_) (λ_=>rfl)
     show (e.get t).mapA _=e.get t;have ht:=hce t
     have hA:∀a:A,a.clean ds=true->A.killIn b a=a:=λa ha=>by
      have hr:∀r:Root,r.cleanR ds=true-> ¬r.inBox b=true:=λr hr hi=>by
       cases r with
       |tmp t=>cases hi
       |cell b' o' =>
        have:b' =b:=by simpa [Root.inBox]using hi
        subst this;simp only[Root.cleanR,hb]at hr;cases hr
      cases a with
      |view l=>simp only[A.killIn,if_neg (hr _ ha)]
      |eptr l z i o=>simp only[A.killIn,if_neg (hr _ ha)]
      |pview l i k=>simp only[A.killIn,if_neg (hr _ ha)]
      |_=>rfl
     cases hV:e.get t with
     |one a=>rw[hV]at ht;simp only[V.mapA,hA a ht]
     |tup as=>
      rw[hV]at ht;have:=List.all_eq_true.1 (show as.all (A.clean ds)=true from ht)
      simp only[V.mapA,V.tup.injEq];exact(List.map_congr_left (λa ha=>hA a (this a ha))).trans (List.map_id _)
     |agg as=>
      rw[hV]at ht;have:=List.all_eq_true.1 (show as.all (A.clean ds)=true from ht)
      simp only[V.mapA,V.agg.injEq];exact(List.map_congr_left (λa ha=>hA a (this a ha))).trans (List.map_id _)
    rw[h1 e hcl,h1 e hcl]
   rw[hmm]at hev;have hev:evOp P io call e o=zap (e.setBox b cs) o.dst v:=hev.elim id (λh=>h (by rw[k1,k2]at hfd;exact hfd))
   have hpp:zap (e.setBox b cs) o.dst v=some (Stp.app ⟨q.dst,v,none,some (b,cs)⟩ e):=by
    rw[<-k1];unfold Stp.app
    cases hd:q.dst with
    |none=>rfl
    |some d=>
     rw[hd]at hok;simp only[zgg,decide_eq_true_eq]at hok;have hce:zec ds (e.setBox b cs):=λx=>hcl x
     have hsz:(e.setBox b cs).size=e.size:=rfl;simp only[zap,hsz,hok,if_true,zq5 hce (hds d hd)];rfl
   rw[hpp]at hev;exact .inl (zz1 (io:=io) hcs h hev _ Q hk)
theorem z5s[Base]{P:Program}{io:FuncId->List Nat}{call:zai}(hcs:zff P call){ops:Array Oper}{Q:Exit->Act->World->Prop}{n:Nat}{qs:List QOp}(hqs:qOfs ops.toList ops.toList=some qs)(hback:zoq ops=true)(hchain:Region.chainB .any ops n=true)
 {g:G} {e e':Env} {w:World} {a0:Act} (hQ:∀a' w',Goes g e w e' a'.tmps w' ->a'.defers=a0.defers->Q .normal a' w'):
 ∀(k t:Nat) (listed:Array Bool) (a1:Act) (w1:World) (e1:Env),k=ops.size-t->n<=t->t<=ops.size->listed.size=ops.size->(∀i,i<t->listed.getD i false=true)->(∀i,t<=i->i<ops.size->listed.getD i true=false)->
  evL P io call (qs.drop t) e1=some e' ->Goes g e w e1 a1.tmps w1->a1.defers=a0.defers->wpAny P .any ops Q k listed a1 w1:=by
 have hlen:qs.length=ops.size:=by rw[(zep hqs).1];simp
 have hback':∀(j:Nat) (o:Oper),ops[j]? =some o-> ∀ed∈o.after,Region.binds .any ed=true->ed.on<j:=by
  intro j o ho ed hed hb;unfold zoq at hback;have h1:=List.all_eq_true.1 hback j (List.mem_range.2 (Array.getElem?_eq_some_iff.1 ho).1);simp only[ho]at h1;have h2:=Array.all_eq_true_iff_forall_mem.1 h1 ed hed;simpa [hb]using h2
 intro k
 induction k with
 |zero=>
  intro t listed a1 w1 e1 hk hnt hts hsz hin hout hev hgo hd;have ht:t=ops.size:=by omega
  refine⟨?_,?_⟩
  ·rw[List.eq_nil_iff_forall_not_mem];intro i hi;obtain⟨h1,o,ho,_⟩:=mem_ready.1 hi;have hlt:=(Array.getElem?_eq_some_iff.1 ho).1;have h2:=hin i (by omega)
   have hi':i<listed.size:=by omega
   simp[hi']at h1 h2;rw[h1]at h2;cases h2
  ·rw[List.drop_eq_nil_of_le (by omega)]at hev
   obtain rfl:=Option.some.inj hev;exact hQ a1 w1 hgo hd
 |succ k ih=>
  intro t listed a1 w1 e1 hk hnt hts hsz hin hout hev hgo hd;have hlt:t<ops.size:=by omega
  have ho:ops[t]? =some ops[t]:=Array.getElem?_eq_getElem hlt;obtain⟨q,hq,hqo⟩:=(zep hqs).2 t ops[t] (by rw[Array.getElem?_toList];exact ho)
  have hdrop:qs.drop t=q::qs.drop (t+1):=by
   have hlq:t<qs.length:=by omega
   rw[List.drop_eq_getElem_cons hlq];congr 1;exact Option.some.inj ((List.getElem?_eq_getElem hlq).symm.trans hq)
  rw[hdrop]at hev;simp only[evL,Option.then_]at hev;have hready:t∈Region.ready .any ops listed:=mem_ready.2 ⟨hout t (Nat.le_refl _) hlt,_,ho,λed hed hb=>hin _ (hback' t _ ho ed hed hb)⟩
  split at hev
  ·rename_i e2 he2;refine⟨λh0=>(by rw[h0]at hready;cases hready),λi hi=>?_⟩
   obtain⟨h1,oi,hoi,hall⟩:=mem_ready.1 hi;have hilt:=(Array.getElem?_eq_some_iff.1 hoi).1
   have hit:i=t:=by
    rcases Nat.lt_trichotomy i t with h|h|h
    ·exfalso;have h2:=hin i h;have hi':i<listed.size:=by omega
     simp[hi']at h1 h2;rw[h1]at h2;cases h2
    ·exact h
    ·exfalso;have hc:=List.all_eq_true.1 hchain i (List.mem_range.2 hilt);simp only[Bool.or_eq_true,decide_eq_true_eq]at hc;rcases hc with hc|hc
     ·omega
     ·obtain⟨o',ho',ed,hed,hb,hon⟩:=Region.waitsFor_spec hc;obtain rfl:=Option.some.inj (hoi.symm.trans ho');have h2:=hall ed hed hb;rw[hon,getD_both (hout (i-1) (by omega) (by omega))]at h2
      cases h2
   subst hit;obtain⟨g1,k1,k2⟩:=hgo;refine ztg (io:=io) hcs ho hqo k1 he2 (λa' w' hgo' hd' =>?_)
   refine ih (i+1) _ a' w' e2 (by omega) (by omega) (by omega) (by simp[hsz]) (λm hm=>?_) (λm hm hm2=>?_) hev ?_ (hd'.trans hd)
   ·by_cases hmi:m=i
    ·subst hmi;simp[hsz,hlt]
    ·rw[getD_set_ne false (Ne.symm hmi)];exact hin m (by omega)
   ·rw[getD_set_ne true (by omega)];exact hout m (by omega) hm2
   ·obtain⟨g2,m1,m2⟩:=hgo';exact⟨g2,m1,k2.trans m2⟩
  ·cases hev
theorem zwp{listed:Array Bool}{n j:Nat}(hj:j<n)(hn:n<=listed.size)(hl:listed.getD j false=false):
 ((List.range n).filter (λi=> !listed.getD i false)).length=((List.range n).filter (λi=> !(listed.setIfInBounds j true).getD i false)).length+1:=by
 have e1:∀m,m<=j->(List.range m).filter (λi=> !listed.getD i false)=(List.range m).filter (λi=> !(listed.setIfInBounds j true).getD i false):=by
  intro m hm;refine List.filter_congr (λi hi=>?_)
  rw[getD_set_ne false (by have:=List.mem_range.1 hi;omega)]
 induction n with
 |zero=>omega
 |succ n ih=>
  rw[List.range_succ,List.filter_append,List.filter_append,List.length_append,List.length_append];by_cases hnj:j=n
  ·subst hnj;rw[e1 j (Nat.le_refl _)];have h1:(!listed.getD j false)=true:=by rw[hl];rfl
   have h2:(!(listed.setIfInBounds j true).getD j false)=false:=by
    have:j<listed.size:=by omega
    simp[this]
   simp only[List.filter_cons,h1,h2,if_true,List.filter_nil];simp
  ·rw[ih (by omega) (by omega)]
   have:(listed.setIfInBounds j true).getD n false=listed.getD n false:=getD_set_ne false (by omega)
   simp only[List.filter_cons,this,List.filter_nil];omega
theorem zvb[Base]{P:Program}{io:FuncId->List Nat}{call:zai}(hcs:zff P call){ops:Array Oper}{Q:Exit->Act->World->Prop}{n:Nat}{qs:List QOp}(hqs:qOfs ops.toList ops.toList=some qs)
 (hback:zoq ops=true) (hok:zp1 ops n=true) {g:G} {e e':Env} {a:Act} {w:World} (h:Sim g e a.tmps w) {ws:List Nat} (he:zyx P io call ws (qs.take n) (qs.drop n) e=some e')
 (hQ:∀a' w',Goes g e w e' a'.tmps w' ->a'.defers=a.defers->Q .normal a' w'):wpAny P .any ops Q ops.size (Array.replicate ops.size false) a {w with drawn:=w.drawn+1}:=by
 simp only[zp1,Bool.and_eq_true,decide_eq_true_eq]at hok;obtain⟨⟨⟨⟨⟨⟨hle,hpairs⟩,hsink⟩,hchain⟩,hsole⟩,hcalls⟩,hsmall⟩:=hok;have hlen:qs.length=ops.size:=by rw[(zep hqs).1];simp
 have hback':∀(j:Nat) (o:Oper),ops[j]? =some o-> ∀ed∈o.after,Region.binds .any ed=true->ed.on<j:=by
  intro j o ho ed hed hb;unfold zoq at hback;have h1:=List.all_eq_true.1 hback j (List.mem_range.2 (Array.getElem?_eq_some_iff.1 ho).1);simp only[ho]at h1;have h2:=Array.all_eq_true_iff_forall_mem.1 h1 ed hed;simpa [hb]using h2
 unfold zyx at he;generalize wrBs e ws=bs at he
 have hdsm:∀d∈zc4 (qs.take n),d<1000000000:=λd hd=>by
  unfold zc4 at hd;obtain⟨q,hq,hqd⟩:=List.mem_filterMap.1 hd;obtain⟨k,hk⟩:=List.mem_iff_getElem?.1 hq;rw[List.getElem?_take]at hk;split at hk
  ·rename_i hkn;have hlt:k<ops.size:=by omega
   obtain⟨q',hq',hqo⟩:=(zep hqs).2 k ops[k] (by rw[Array.getElem?_toList];exact Array.getElem?_eq_getElem hlt)
   obtain rfl:=Option.some.inj (hk.symm.trans hq');have h1:=List.all_eq_true.1 hsmall k (List.mem_range.2 hkn);rw[Array.getElem?_eq_getElem hlt]at h1;dsimp only at h1;rw[<-(zli hqo).1,hqd]at h1;simp only[Bool.and_eq_true,decide_eq_true_eq]at h1;exact h1.1
  ·cases hk
 obtain⟨ds,hds⟩:∃ds,bs.map za8++zc4 (qs.take n)=ds:=⟨_,rfl⟩;obtain⟨e0,he0⟩:∃e0,(znm e bs).clear (zc4 (qs.take n))=e0:=⟨_,rfl⟩;rw[hds,he0]at he;simp only[Option.then_]at he;split at he
 ·rename_i e1 hH;obtain⟨ss,s1,s2,s3⟩:=zuz hH
  have H:Head P io call ops n qs ds ss e0:={
   conv:=hqs,le:=hle,pairs:=hpairs,sole:=hsole,calls:=hcalls,small:=hsmall
   dsEq:=⟨bs.map za8,hds.symm,λk hk=>by obtain⟨b,_,rfl⟩:=List.mem_map.1 hk;unfold za8;omega,hdsm⟩
   len:=by rw[s1,List.length_take];omega
   step:=λj q hj hq=>by
    obtain⟨s,hs,hk⟩:=s2 j q (by rw[List.getElem?_take,if_pos hj];exact hq)
    refine⟨s,hs,?_⟩;have:=hk 0;simpa using this
   clean:=by
    have:=zl8 (l:=zc4 (qs.take n)) hdsm (zkj (l:=bs) (zz4 e));rw[List.nil_append,hds,he0]at this
    exact this}
  refine znq _ _ _ _ ?_;replace hQ:∀a' w',Goes g e w e' a'.tmps w' ->a'.defers=a.defers->Norm Q .normal a' w':=λa' w' h1 h2=>⟨rfl,hQ a' w' h1 h2⟩
  have key:∀(u fuel:Nat) (listed:Array Bool) (a1:Act) (w1:World),HeadInv .any ops n listed->((List.range n).filter (λi=> !listed.getD i false)).length=u->fuel=u+(ops.size-n)->
   Goes g e w (eS (λi=>listed.getD i false) 0 ss e0) a1.tmps w1->a1.defers=a.defers->wpAny P .any ops (Norm Q) fuel listed a1 w1:=by
   intro u
   induction u with
   |zero=>
    intro fuel listed a1 w1 inv hu hf hgo hd
    have hall:∀i,i<n->listed.getD i false=true:=by
     intro i hi
     cases hl:listed.getD i false with
     |true=>rfl
     |false=>
      have hmem:i∈(List.range n).filter (λi=> !listed.getD i false):=List.mem_filter.2 ⟨List.mem_range.2 hi,by rw[hl];rfl⟩
      rw[List.eq_nil_of_length_eq_zero hu]at hmem;cases hmem
    have heS:eS (λi=>listed.getD i false) 0 ss e0=e1:=by
     rw[<-s3 0];refine zou ss 0 _ (λi hi=>?_)
     rw[Nat.zero_add];exact hall i (by rw[H.len]at hi;exact hi)
    rw[heS]at hgo;subst hf;rw[Nat.zero_add];exact z5s hcs hqs hback hchain hQ _ n listed a1 w1 e1 rfl (Nat.le_refl _) hle inv.size hall inv.tail he hgo hd
   |succ u ih=>
    intro fuel listed a1 w1 inv hu hf hgo hd
    have hex:∃i,i<n/\listed.getD i false=false:=by
     match hq:(List.range n).filter (λi=> !listed.getD i false)with
     | []=>rw[hq]at hu;simp at hu
     |i::r=>
      have:i∈(List.range n).filter (λi=> !listed.getD i false):=by rw[hq];simp
      obtain⟨h1,h2⟩:=List.mem_filter.1 this;exact⟨i,List.mem_range.1 h1,by simpa using h2⟩
    obtain⟨fuel,rfl⟩:∃f,fuel=f+1:=⟨fuel-1,by omega⟩
    have one:∀j,j<n->j∈Region.ready .any ops listed->wpOp P ops (Norm Q) j (wpAny P .any ops (Norm Q) fuel (listed.setIfInBounds j true)) a1 w1:=by
     intro j hjn hj;obtain⟨hjun,oj,hoj,hall⟩:=mem_ready.1 hj;have hjf:listed.getD j false=false:=getD_both hjun
     have hcl:∀k,k<n->listed.getD k false=true-> ∀i,zcx ops k i=true->listed.getD i false=true:=by
      intro k _ hk i hw;obtain⟨ok,hok,ed,hed,hb,hon⟩:=Region.waitsFor_spec hw;rw[<-hon];exact inv.closed k ok hok hk ed hed hb
     have hrd:∀i,zcx ops j i=true->listed.getD i false=true:=by
      intro i hw;obtain⟨ok,hok,ed,hed,hb,hon⟩:=Region.waitsFor_spec hw;obtain rfl:=Option.some.inj (hoj.symm.trans hok);rw[<-hon];exact hall ed hed hb
     have hjs:j<listed.size:=by rw[inv.size];omega
     obtain⟨o,q,s,ho,hqo,hst,hS',hcle,hds⟩:=H.stp (λa k hw=>by
      obtain⟨oa,hoa,ed,hed,hb,hon⟩:=Region.waitsFor_spec hw;rw[<-hon]
      exact hback' a oa hoa ed hed hb) (S:=λi=>listed.getD i false) hcl hjf hjn hrd (S':=λi=>(listed.setIfInBounds j true).getD i false) (by simp[hjs]) (λm hm=>getD_set_ne false (Ne.symm hm))
     obtain⟨g1,k1,k2⟩:=hgo;refine z5r hcs ho hqo k1 hcle hds hst (λa' w' hgo' hd' =>?_)
     refine ih fuel _ a' w' (inv.set hj hjn) ?_ (by omega) ?_ (hd'.trans hd)
     ·have:=zwp hjn (by rw[inv.size];exact hle) hjf
      omega
     ·obtain⟨g2,m1,m2⟩:=hgo';rw[hS'];exact⟨g2,m1,k2.trans m2⟩
    by_cases hflo:∀i,i<n->zds ops i=true->listed.getD i false=true
    ·refine⟨λh0=>?_,λj hj=>?_⟩
     ·-- the first that has not run is ready
      exfalso
      have hmin:∀m i,i<=m->i<n->listed.getD i false=false-> ∃k,k<n/\listed.getD k false=false/\ ∀k',k' <k->listed.getD k' false=true:=by
       intro m
       induction m with
       |zero=>intro i hi hin hl;exact⟨i,hin,hl,λk' hk' =>by omega⟩
       |succ m ihm=>
        intro i hi hin hl;by_cases hk:∀k',k' <i->listed.getD k' false=true
        ·exact⟨i,hin,hl,hk⟩
        ·obtain⟨k',hk'⟩:=Classical.not_forall.1 hk;obtain⟨hlt,hne⟩:=Classical.not_imp.1 hk';exact ihm k' (by omega) (by omega) (by simpa using hne)
      obtain⟨i,hin,hl⟩:=hex;obtain⟨k,hkn,hkl,hka⟩:=hmin i i (Nat.le_refl _) hin hl;have hks:k<ops.size:=by omega
      have ho:ops[k]? =some ops[k]:=Array.getElem?_eq_getElem hks;have hr:k∈Region.ready .any ops listed:=mem_ready.2 ⟨getD_in (by rw[inv.size];exact hks) hkl,_,ho,λed hed hb=>hka _ (hback' k _ ho ed hed hb)⟩
      rw[h0]at hr;cases hr
     ·have hjn:j<n:=by
       rcases Nat.lt_or_ge j n with hlt|hge
       ·exact hlt
       ·exfalso;obtain⟨_,oj,hoj,_⟩:=mem_ready.1 hj;have hjs:=(Array.getElem?_eq_some_iff.1 hoj).1;simp only[z7c,Bool.or_eq_true,decide_eq_true_eq]at hsink;rcases hsink with hs|hs
        ·omega
        ·obtain⟨i,hin,hl⟩:=hex
         have hs':∀i,i<n->zds ops i=true∨ ∃j,j<n+1/\i<j/\zcx ops j i=true:=λi hi=>by
          have:=List.all_eq_true.1 hs i (List.mem_range.2 hi);simp only[Bool.or_eq_true]at this;refine this.imp (λh=>h) (λhj=>?_)
          obtain⟨j,h1,h2⟩:=List.any_eq_true.1 hj;simp only[Bool.and_eq_true,decide_eq_true_eq]at h2;exact⟨j,List.mem_range.1 h1,h2.1,h2.2⟩
         exact zsw hs' hchain (by omega) inv hflo _ i rfl hin (getD_in (by rw[inv.size];omega) hl) j hge hj
      exact one j hjn hj
    ·obtain⟨i,hi⟩:=Classical.not_forall.1 hflo;obtain⟨hin,hi⟩:=Classical.not_imp.1 hi;obtain⟨hfl,hli⟩:=Classical.not_imp.1 hi
     have go:∀i,i<n->zds ops i=true->i∈Region.ready .any ops listed->wpAny P .any ops (Norm Q) (fuel+1) listed a1 w1:=by
      intro i hin hfl hready;obtain⟨oi,hoi,hop,hgd,haf,hsel,hfree⟩:=zll hfl;exact zsv hoi hop hgd (Region.noSelect_spec hsel) hfree hready (one i hin hready)
     by_cases hcp:∀j,j<i->zor ops j=true->listed.getD j false=true
     ·obtain⟨oi,hoi,hop,hgd,haf,hsel,hfree⟩:=zll hfl
      exact go i hin hfl (mem_ready.2 ⟨getD_in (by rw[inv.size];omega) (by simpa using hli),oi,hoi,λe he hb=>by
       obtain⟨h1,h2⟩:=haf e he hb
       exact hcp _ h2 h1⟩)
     ·obtain⟨j,hj⟩:=Classical.not_forall.1 hcp;obtain⟨hji,hj⟩:=Classical.not_imp.1 hj;obtain⟨hjc,hjl⟩:=Classical.not_imp.1 hj;obtain⟨oj,hoj,hno⟩:=zy9 hjc;exact go j (by omega) (zv9 hjc) (mem_ready.2 ⟨getD_in (by rw[inv.size];omega) (by simpa using hjl),oj,hoj,λe he hb=>(hno e he hb).elim⟩)
  have hinv:HeadInv .any ops n (Array.replicate ops.size false):=⟨by simp,λj oj hj hl=>(by rw[getD_replicate_false]at hl;cases hl),λt _ ht=>(by simp[ht])⟩
  have hcount:((List.range n).filter (λi=> !(Array.replicate ops.size false).getD i false)).length=n:=by
   rw[List.filter_eq_self.2 (λi _=>by rw[getD_replicate_false];rfl),List.length_range]
  refine key n ops.size _ a _ hinv hcount (by omega) ?_ rfl
  have heS:eS (λi=>(Array.replicate ops.size false).getD i false) 0 ss e0=e0:=by
   have gen:∀(l:List Stp) (m:Nat) (e:Env),eS (λi=>(Array.replicate ops.size false).getD i false) m l e=e:=by
    intro l
    induction l with
    |nil=>intros;rfl
    |cons s l ih=>
     intro m e;rw[eS,getD_replicate_false];simp only[Bool.false_eq_true,if_false];exact ih (m+1) e
   exact gen ss 0 _
  rw[heS]
  obtain⟨g1,k1,k2⟩:Goes g e w e0 a.tmps w:=by
   rw[<-he0];exact(zq4 (l:=bs) h).trans (λ_ h1=>zn0 (l:=zc4 (qs.take n)) h1)
  exact⟨g1,k1.grow (Nat.le_refl _) (λ_ _=>rfl),k2.os,k2.tape,k2.output,k2.size,k2.old,k2.mine,k2.c,k2.cnew,k2.lent⟩
 ·cases he
end Go.Qz
