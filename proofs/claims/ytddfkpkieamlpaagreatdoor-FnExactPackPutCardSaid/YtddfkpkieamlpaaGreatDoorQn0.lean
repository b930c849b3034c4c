import Derived.Test.YtddfkpkieamlpaaGreatDoorQm0
import Derived.RangeFuncLeaves
namespace Go.Qz
structure Marks(g:G)(e:Env)(w0 w:World)(rs:List Nat)(ds0 ds:List Deferred):Prop where
 eq:ds=(rs.map λr=>({target:=.collected r,args:=#[]}:Deferred))++ds0
 nodup:rs.Nodup
 fresh:∀r∈rs,w0.heap.size<=r
 lie:∀r∈rs,w.heap[r]? =some (.deferred (some []))/\Alien g e w r
def zky[Base](P:Program)(c:Code)(f:Env->Res):Prop:=∀(e:Env) (ex:Ex) (e':Env),f e=some (ex,e')-> ∀(g:G) (a:Act) (w:World),Sim g e a.tmps w-> ∀(Q:Exit->Act->World->Prop),(∀a' w' g' rs,Sim g' e' a'.tmps w' ->Next g e w g' e' w' ->Marks g' e' w w' rs a.defers a'.defers->Q ex.exit a' w')->c.wp P Q a w
theorem CodeSim.m[Base]{P:Program}{c:Code}{f:Env->Res}(h:CodeSim P c f):zky P c f:=λe ex e' he g a w hs Q hQ=>h e ex e' he g a w hs Q (λa' w' ⟨g',k1,k2⟩ hd=>hQ a' w' g' [] k1 k2 ⟨by simp[hd],List.nodup_nil,λr hr=>(by cases hr),λr hr=>(by cases hr)⟩)
theorem Marks.then{g1 g2:G}{e1 e2:Env}{w w1 w2:World}{r1 r2:List Nat}{d0 d1 d2:List Deferred}(hsz:w.heap.size<=w1.heap.size)(h1:Marks g1 e1 w w1 r1 d0 d1)(hn:Next g1 e1 w1 g2 e2 w2)(h2:Marks g2 e2 w1 w2 r2 d1 d2):Marks g2 e2 w w2 (r2++r1) d0 d2 where
 eq:=by rw[h2.eq,h1.eq];simp
 nodup:=List.nodup_append.2 ⟨h2.nodup,h1.nodup,λa ha b hb e=>by
  subst e;have h3:=h2.fresh a ha;have h4:=(h1.lie a hb).2.lt
  omega⟩
 fresh:=λr hr=>(List.mem_append.1 hr).elim (λh=>Nat.le_trans hsz (h2.fresh r h)) (h1.fresh r)
 lie:=λr hr=>(List.mem_append.1 hr).elim (h2.lie r) (λh=>⟨((h1.lie r h).2.same hn).trans (h1.lie r h).1,(h1.lie r h).2.next hn⟩)
theorem Aside.put{g:G}{e:Env}{w:World}{x:Nat}(h:Alien g e w x)(o:Obj):Aside g e w (w.putObj x o):=⟨rfl,rfl,rfl,by simp,λy _ hna=>World.putObj_heap_other (λe=>hna (e▸h))⟩
theorem Alien.put{g:G}{e:Env}{w:World}{x y:Nat}(h:Alien g e w y)(o:Obj):Alien g e (w.putObj x o) y:=⟨by simpa using h.lt,h.mine,h.c⟩
theorem Alien.mono{g g':G}{e e':Env}{w w':World}{x:Nat}(h:Alien g e w x)(hs:w.heap.size<=w'.heap.size)(hm:Mine g' e' x->Mine g e x)(hc:g'.c=g.c):Alien g' e' w' x:=⟨Nat.lt_of_lt_of_le h.lt hs,λhh=>h.mine (hm hh),λo=>by rw[hc];exact h.c o⟩
theorem Span.put{g g1:G}{e e1:Env}{w w1:World}{β:Nat->Nat}{γ:Nat->Value}(h:Span g e w β γ g1 e1 w1){x:Nat}(o:Obj)(hx:w.heap.size<=x):Span g e w β γ g1 e1 (w1.putObj x o):=
 h.aside rfl rfl rfl (by simp) (λy hy _=>World.putObj_heap_other (by omega))
set_option maxHeartbeats 1000000 in
theorem z0e[Base]{P:Program}{io:FuncId->List Nat}{call:zai}{lp:zio}(hm:P.follows .mixedOrders=true)(hcs:zff P call)(hlp:zfg lp)
 (hseq:∀f,zlf io f=true->(∃fn,P.funcs[f]? =some fn/\fn.body.isSome=true/\fn.name≠ "runtime.NumGoroutine")/\zo9 P f) {t:Nat} {ps:Array Tmp} {assign body:Code} {qa qb:zaa} (ha:zeb assign=some qa) (hb:zeb body=some qb) (hna:noDefer assign=true) (hnb:noDefer body=true):
 zky P (.rangeFunc (.tmp t) ps assign body) (evQ P io call lp (.range t ps.toList qa qb)):=by
 intro e ex e' he g a w h Q hQ;have he:zgi io (evQ P io call lp qa) (evQ P io call lp qb) ps.toList e (zsr e t)=some (ex,e'):=he
 cases hsq:zsr e t with
 |none=>rw[hsq]at he;cases he
 |some x=>
  obtain⟨f,s,p⟩:=x;rw[hsq]at he;simp only[zgi]at he;split at he
  ·rename_i hc;simp only[Bool.and_eq_true,decide_eq_true_eq]at hc;obtain⟨⟨hio,hp1⟩,hs1⟩:=hc;obtain⟨⟨fn0,hfn0,hbody0,hname0⟩,hruns⟩:=hseq f hio;obtain⟨bp,bs,bn,hval,hcel,u,hSp,hSs,hSn⟩:=z0d h hsq;obtain⟨fa,hfa⟩:∃fa,evQ P io call lp qa=fa:=⟨_,rfl⟩;obtain⟨fb,hfb⟩:∃fb,evQ P io call lp qb=fb:=⟨_,rfl⟩;rw[hfa,hfb]at he;refine(wpIn_wide (n:=0)).1 (wpIn_rangeFunc (F:=Fence.wide) (n:=0) ?_);intro fn _;show ∃(l:Nat) (mark:List Deferred) (w₁:World) (d:Deferred) (w₁':World) (f:FuncId) (args:Array Value) (w₂:World),(Instr.enterLoop fn a.tmps ps assign body none).run P w=.ok (l,mark) w₁/\_
   obtain⟨rec,hrec⟩:∃rec:LoopState->Option Code->Loop,rec= λst pe=>{state:=st,pending:=pe,fn,tmps:=a.tmps,params:=ps,assign,body,defers:=w.heap.size}:=⟨_,rfl⟩
   obtain⟨W1,hW1⟩:∃W1,(w.alloc (.deferred (some []))).alloc (.loop (rec .ready none))=W1:=⟨_,rfl⟩
   have hL1:W1.heap[w.heap.size+1]? =some (.loop (rec .ready none)):=by
    rw[<-hW1];have:=World.alloc_heap_new (w.alloc (.deferred (some []))) (.loop (rec .ready none));rwa [World.size_alloc]at this
   have hK1:W1.heap[w.heap.size]? =some (.deferred (some [])):=by
    rw[<-hW1];exact(Go.RowKit.Below.heap_alloc _ _ _ (by simp)).trans (World.alloc_heap_new w _)
   have hsz1:W1.heap.size=w.heap.size+2:=by rw[<-hW1];simp
   have hold1:∀x,x<w.heap.size->W1.heap[x]? =w.heap[x]?:=λx hx=>by
    rw[<-hW1];exact(Go.RowKit.Below.heap_alloc _ _ _ (by simp;omega)).trans (Go.RowKit.Below.heap_alloc _ _ _ hx)
   have hosW:W1.os=w.os:=by rw[<-hW1];rfl
   have htapeW:W1.tape=w.tape:=by rw[<-hW1];rfl
   have houtW:W1.output=w.output:=by rw[<-hW1];rfl
   have hin:Sim (gIn g) e.enter a.tmps W1:=(zz9 h).grow (by omega) hold1
   have hmine0:∀x,Mine (gIn g) e.enter x->x<w.heap.size:=λx hx=>zz3 h (zn2 hx)
   have hcnone:∀x o,w.heap.size<=x->(gIn g).c x o=none:=λx o hx=>by
    cases hq:g.c x o with
    |none=>exact hq
    |some v=>have:=World.block_lt_of_cell? w _ (h.cmem x o v hq);simp only at this;omega
   have alD:Alien (gIn g) e.enter W1 w.heap.size:=⟨by omega,λhh=>Nat.lt_irrefl _ (hmine0 _ hh),λo=>hcnone _ o (Nat.le_refl _)⟩
   have alL:Alien (gIn g) e.enter W1 (w.heap.size+1):=⟨by omega,λhh=>by have:=hmine0 _ hh;omega,λo=>hcnone _ o (by omega)⟩
   have hmb:Mine g e bs:=.inl ⟨_,hSs⟩
   have alB:∀b,g.S (.tmp u 0) b->Alien (gIn g) e.enter W1 b:=by
    intro b hSb;have hbl:b<w.heap.size:=h.slt _ b hSb;refine⟨by omega,?_,λo=>?_⟩
    ·rintro(⟨s',hs'⟩|⟨b',hb',hlt,hx⟩)
     ·cases s' with
      |tmp t k=>exact hs'
      |cell b' o=>
       simp only[gIn]at hs'
       cases hq:zbv b' with
       |none=>rw[hq]at hs';exact hs'
       |some b0=>
        rw[hq]at hs';have:=h.sdis _ _ _ hSb hs';cases this
     ·obtain⟨cs,hcs⟩:=Option.isSome_iff_exists.1 hb';obtain⟨b0,h1,h2⟩:=zi5 hcs;simp only[gIn,h1]at hx;refine h.sbox _ b0 b hSb (by rw[h2];rfl) ?_ hx
      rcases zdj h1 with⟨p1,p2⟩|⟨p1,rfl⟩
      ·unfold zab;omega
      ·exact hlt
    ·cases hq:g.c b o with
     |none=>exact hq
     |some v=>exact((h.cdis b o v hq).1 _ hSb).elim
   have hsp1:Span g e w (gIn g).β (gIn g).γ (gIn g) e.enter W1:=enter_span.aside hosW htapeW houtW (by omega) (λx hx _=>hold1 x hx)
   have hcel1:SeqCells W1 s p bp bs bn:=hcel.frame (hold1 _ (h.slt _ _ hSp)) (hold1 _ (h.slt _ _ hSs)) (hold1 _ (h.slt _ _ hSn));have hbl:bp<w.heap.size/\bs<w.heap.size/\bn<w.heap.size:=⟨h.slt _ _ hSp,h.slt _ _ hSs,h.slt _ _ hSn⟩
   obtain⟨J,hJ⟩:∃J:List ByteArray->World->Prop,J= λr W=> ∃gk ek,Sim gk ek a.tmps W/\Span g e w (gIn g).β (gIn g).γ gk ek W/\Alien gk ek W w.heap.size/\Alien gk ek W (w.heap.size+1)/\(Alien gk ek W bp/\Alien gk ek W bs/\Alien gk ek W bn)/\
    W.heap[w.heap.size+1]? =some (.loop (rec .ready none))/\W.heap[w.heap.size]? =some (.deferred (some []))/\zb9 fa fb ps.toList e e.enter r ek=some (ex,e'):=⟨_,rfl⟩
   obtain⟨Jx,hJx⟩:∃Jx:World->Prop,Jx= λW=> ∃gk ek c,Sim gk ek a.tmps W/\Span g e w (gIn g).β (gIn g).γ gk ek W/\Alien gk ek W w.heap.size/\Alien gk ek W (w.heap.size+1)/\
    W.heap[w.heap.size+1]? =some (.loop (rec .done (some c)))/\W.heap[w.heap.size]? =some (.deferred (some []))/\e' =e.leave ek/\((∃id,ex=.x id/\c=.exit id)∨(ex=.r/\c=.ret)):=⟨_,rfl⟩
   have out:∀{gk ek W} (o:Obj),Sim gk ek a.tmps W->Span g e w (gIn g).β (gIn g).γ gk ek W->Alien gk ek W w.heap.size->Alien gk ek W (w.heap.size+1)->W.heap[w.heap.size]? =some (.deferred (some []))->e' =e.leave ek->
    Q ex.exit {a with defers:=[{target:=.collected w.heap.size,args:=#[]}]++a.defers} (W.putObj (w.heap.size+1) o):=by
    intro gk ek W o k1 k2 k3 k4 k5 k6;subst k6;have s2:Sim gk ek a.tmps (W.putObj (w.heap.size+1) o):=k1.aside (Aside.put k4 o);have p2:=k2.put (x:=w.heap.size+1) o (by omega)
    refine hQ _ _ (gOut g gk) [w.heap.size] (z0b h s2 p2.c p2.lent) ?_ ⟨rfl,by simp,λr hr=>?_,λr hr=>?_⟩
    ·exact(p2.ren (β':=g.β) (γ':=g.γ) (λx hx=>zn3 p2.lent hx) rfl (λ_ _=>⟨rfl,rfl⟩)).next
    ·rw[List.mem_singleton.1 hr];exact Nat.le_refl _
    ·rw[List.mem_singleton.1 hr];exact⟨(World.putObj_heap_other (by omega)).trans k5,Alien.mono (k3.put o) (Nat.le_refl _) (λhx=>zn3 p2.lent hx) rfl⟩
   refine⟨w.heap.size+1,[{target:=.collected w.heap.size,args:=#[]}],W1,{target:=.fn (.func f) #[.pointer (some ⟨bp,0,none⟩),.pointer (some ⟨bs,0,none⟩),.pointer (some ⟨bn,0,none⟩)],args:=#[.func (.yield (w.heap.size+1)) #[] #[]]},W1,f,
    #[.func (.yield (w.heap.size+1)) #[] #[],.pointer (some ⟨bp,0,none⟩),.pointer (some ⟨bs,0,none⟩),.pointer (some ⟨bn,0,none⟩)],W1,?_,?_,λ_ _=>trivial,?_,(λhh=>by cases hh),?_⟩
   ·rw[<-hW1,hrec];exact run_enterLoop_outer _ _ _ _ _
   ·have hev:a.eval (.tmp t)=seqV f bp bs bn:=hval;simp only[resolve,hev,seqV];simp[go_sem]
   ·have hbn:¬fn0.body=none:=by intro e0;rw[e0]at hbody0;cases hbody0
    simp[invoke,callFunc,hfn0,hname0,hbn]
   ·refine(hruns (w.heap.size+1) bp bs bn s p J Jx W1 hp1 hs1 hcel1 ?_ ?_ ?_).mono ?_
    ·-- the iterator's own steps
     intro r Wa Wb hj st;rw[hJ]at hj ⊢;obtain⟨gk,ek,k1,k2,k3,k4,k5,k6,k7,k8⟩:=hj
     refine⟨gk,ek,k1.aside ⟨st.os,st.tape,st.output,st.size,λx hx hna=>st.block x hx (λe0=>hna (e0▸k5.2.1))⟩,
      k2.aside st.os st.tape st.output st.size (λx hx hnm=>st.block x (Nat.lt_of_lt_of_le hx k2.size) (λe0=>hnm (e0▸hmb))),
      k3.mono st.size (λhh=>hh) rfl,k4.mono st.size (λhh=>hh) rfl,⟨k5.1.mono st.size (λhh=>hh) rfl,k5.2.1.mono st.size (λhh=>hh) rfl,k5.2.2.mono st.size (λhh=>hh) rfl⟩,(st.block _ k4.lt (by omega)).trans k6,(st.block _ k3.lt (by omega)).trans k7,k8⟩
    ·-- one round
     intro x r Wa hj;rw[hJ]at hj;obtain⟨gk,ek,k1,k2,k3,k4,k5,k6,k7,k8⟩:=hj;simp only[zb9]at k8;split at k8
     ·rename_i e1 hset;unfold zyw at hset;split at hset
      ·rename_i p0 hps
       have hps':ps= #[p0]:=by
        have:=congrArg List.toArray hps;simpa using this
       have hy:=run_yield (P:=P) (args:=#[.string x]) k6 (by rw[hrec,hps'];rfl)
       rw[hrec]at hy;have htm:((ps.zip #[Value.string x]).foldl (λtmps (t,a)=>tmps.setIfInBounds t a) a.tmps)=a.tmps.setIfInBounds p0 (.string x):=by rw[hps'];simp
       have hy':(Instr.yield (w.heap.size+1) #[.string x]).run P Wa=.ok (.round (w.heap.size+1) fn (a.tmps.setIfInBounds p0 (.string x)) assign body) Wa:=by rw[<-htm];exact hy
       refine⟨fn,_,assign,body,hy',roundIn_of_wpIn trivial ?_⟩;have hold:HoldV gk ek a.tmps Wa (λ_ _=>False) (.one (.ro (.str x))) (.string x):=RO.str x
       obtain⟨g1,m1,m2⟩:=(Holds.plain k1 hold).put hset
       cases hfa1:fa e1 with
       |none=>rw[hfa1]at k8;cases k8
       |some res1=>
        obtain⟨ex1,e2⟩:=res1;rw[hfa1]at k8
        cases ex1 with
        |x id=>cases k8
        |r=>cases k8
        |n=>
         simp only at k8;refine zdi (io:=io) (lp:=lp) hm hcs hlp assign qa ha hna e1 .n e2 (by rw[hfa];exact hfa1) g1 _ Wa m1 _ (λ⟨_,_,hh⟩=>hh) (λa2 w2 hgo hd2=>?_)
         obtain⟨g2,n1,n2⟩:=hgo;have t2:=m2.trans n2;have L2:=(k4.same t2).trans k6;have al2L:=k4.next t2
         refine⟨_,run_beginRound L2 (by rw[hrec]),?_⟩
         have s3:=n1.aside (Aside.put al2L (.loop {rec .ready none with state:=.busy}))
         cases hfb1:fb e2 with
         |none=>rw[hfb1]at k8;cases k8
         |some res2=>
          obtain⟨ex2,e3⟩:=res2;rw[hfb1]at k8;refine zdi (io:=io) (lp:=lp) hm hcs hlp body qb hb hnb e2 ex2 e3 (by rw[hfb];exact hfb1) g2 a2 _ s3 _ (λ⟨_,_,hh⟩=>hh) (λa3 w3 hgo3 _=>?_)
          obtain⟨g3,q1,q2⟩:=hgo3;have L3:w3.heap[w.heap.size+1]? =some (.loop {rec .ready none with state:=.busy}):=((al2L.put _).same q2).trans (World.putObj_heap_same al2L.lt)
          have al3L:=(al2L.put (.loop {rec .ready none with state:=.busy})).next (x:=w.heap.size+1) q2
          have al3D:=((k3.next t2).put (x:=w.heap.size+1) (.loop {rec .ready none with state:=.busy})).next q2
          have al3B:∀b,Alien gk ek Wa b->Alien g3 e3 w3 b:=λb hb0=>((hb0.next t2).put (x:=w.heap.size+1) (.loop {rec .ready none with state:=.busy})).next q2
          have D3:w3.heap[w.heap.size]? =some (.deferred (some [])):=(((k3.next t2).put _).same q2).trans ((World.putObj_heap_other (by omega)).trans ((k3.same t2).trans k7))
          have B3:∀b,b<w.heap.size->Alien gk ek Wa b->w3.heap[b]? =Wa.heap[b]?:=λb hlt0 hb0=>(((hb0.next t2).put _).same q2).trans ((World.putObj_heap_other (by omega)).trans (hb0.same t2))
          have sp3:=((k2.trans t2).put (x:=w.heap.size+1) (.loop {rec .ready none with state:=.busy}) (by omega)).trans q2
          have fin:∀(jump:Option Code),∃W4,(Instr.endRound (w.heap.size+1) jump).run P w3=.ok (.bool jump.isNone) W4/\Sim (zi6 g3) (e.enter.again e3) a.tmps W4/\Span g e w (gIn g).β (gIn g).γ (zi6 g3) (e.enter.again e3) W4/\
           Alien (zi6 g3) (e.enter.again e3) W4 w.heap.size/\Alien (zi6 g3) (e.enter.again e3) W4 (w.heap.size+1)/\(Alien (zi6 g3) (e.enter.again e3) W4 bp/\Alien (zi6 g3) (e.enter.again e3) W4 bs/\Alien (zi6 g3) (e.enter.again e3) W4 bn)/\
           W4.heap[w.heap.size+1]? =some (.loop (rec (if jump.isNone then .ready else .done) jump))/\W4.heap[w.heap.size]? =some (.deferred (some []))/\W4.heap[bp]? =Wa.heap[bp]? /\W4.heap[bs]? =Wa.heap[bs]? /\W4.heap[bn]? =Wa.heap[bn]?:=by
           intro jump;have hr:=run_endRound (P:=P) jump L3;refine⟨_,hr,?_⟩;have s4:Sim g3 e3 a3.tmps (w3.putObj (w.heap.size+1) (.loop {rec .ready none with state:=if jump.isNone then .ready else .done,pending:=jump})):=q1.aside (Aside.put al3L _)
           have sp4:=sp3.put (x:=w.heap.size+1) (.loop {rec .ready none with state:=if jump.isNone then .ready else .done,pending:=jump}) (by omega)
           refine⟨z0a hin (zwr e) s4 sp4.c (λb hb=>(sp4.lent b hb).1),?_,?_,?_,?_,?_,?_,?_⟩
           ·exact sp4.ren (λx hx=>zd4 hx) rfl sp4.lent
           ·exact Alien.mono (al3D.put _) (Nat.le_refl _) (λhx=>zd4 hx) rfl
           ·exact Alien.mono (al3L.put _) (Nat.le_refl _) (λhx=>zd4 hx) rfl
           ·exact⟨Alien.mono ((al3B _ k5.1).put _) (Nat.le_refl _) (λhx=>zd4 hx) rfl,Alien.mono ((al3B _ k5.2.1).put _) (Nat.le_refl _) (λhx=>zd4 hx) rfl,Alien.mono ((al3B _ k5.2.2).put _) (Nat.le_refl _) (λhx=>zd4 hx) rfl⟩
           ·rw[World.putObj_heap_same al3L.lt,hrec]
           ·exact(World.putObj_heap_other (by omega)).trans D3
           ·exact⟨(World.putObj_heap_other (by omega)).trans (B3 _ hbl.1 k5.1),(World.putObj_heap_other (by omega)).trans (B3 _ hbl.2.1 k5.2.1),(World.putObj_heap_other (by omega)).trans (B3 _ hbl.2.2 k5.2.2)⟩
          cases ex2 with
          |n=>
           simp only at k8;obtain⟨W4,f1,f2,f3,f4,f5,f6,f7,f8,f9⟩:=fin none;exact⟨_,W4,f1,.inl ⟨rfl,by rw[hJ];exact⟨_,_,f2,f3,f4,f5,f6,f7,f8,k8⟩,f9⟩⟩
          |x id=>
           simp only[Option.some.injEq,Prod.mk.injEq]at k8;obtain⟨W4,f1,f2,f3,f4,f5,f6,f7,f8,f9⟩:=fin (some (.exit id));exact⟨_,W4,f1,.inr ⟨rfl,by rw[hJx];exact⟨_,_,_,f2,f3,f4,f5,f7,f8,k8.2.symm,.inl ⟨id,k8.1.symm,rfl⟩⟩⟩⟩
          |r=>
           simp only[Option.some.injEq,Prod.mk.injEq]at k8;obtain⟨W4,f1,f2,f3,f4,f5,f6,f7,f8,f9⟩:=fin (some .ret);exact⟨_,W4,f1,.inr ⟨rfl,by rw[hJx];exact⟨_,_,_,f2,f3,f4,f5,f7,f8,k8.2.symm,.inr ⟨k8.1.symm,rfl⟩⟩⟩⟩
      ·cases hset
     ·cases k8
    ·rw[hJ];exact⟨gIn g,e.enter,hin,hsp1,alD,alL,⟨alB _ hSp,alB _ hSs,alB _ hSn⟩,hL1,hK1,he⟩
    ·-- behind the iterator
     rintro en W2 ⟨⟨v,rfl⟩,hj|hj⟩
     ·rw[hJ]at hj;obtain⟨gk,ek,k1,k2,k3,k4,k5,k6,k7,k8⟩:=hj;simp only[zb9,Option.some.injEq,Prod.mk.injEq]at k8;obtain⟨hex,hee⟩:=k8;have hend:=run_endLoop (P:=P) k6 (by rw[hrec];simp)
      rw[hrec]at hend;refine⟨none,_,hend,?_⟩;have:=out (.loop {(rec .ready none)with state:=.exhausted}) k1 k2 k3 k4 k7 hee.symm;rw[<-hex,hrec]at this;exact this
     ·rw[hJx]at hj;obtain⟨gk,ek,c,k1,k2,k3,k4,k6,k7,k8,k9⟩:=hj;have hend:=run_endLoop (P:=P) k6 (by rw[hrec];simp)
      rw[hrec]at hend;refine⟨some c,_,hend,?_⟩;have:=out (.loop {(rec .done (some c))with state:=.exhausted}) k1 k2 k3 k4 k7 k8;rw[hrec]at this;rcases k9 with⟨id,e1,rfl⟩|⟨e1,rfl⟩
      ·rw[e1]at this;exact wpIn_exit this
      ·rw[e1]at this;exact wpIn_ret this
  ·cases he
theorem zfh[Base]{P:Program}{io:FuncId->List Nat}{call:zai}{lp:zio}(hm:P.follows .mixedOrders=true)(hcs:zff P call)(hlp:zfg lp)
 (hseq:∀f,zlf io f=true->(∃fn,P.funcs[f]? =some fn/\fn.body.isSome=true/\fn.name≠ "runtime.NumGoroutine")/\zo9 P f):∀(c:Code) (q:zaa),zlh c=some q->zky P c (evQ P io call lp q)
 | .skip,q,hq=>(zbg hm hcs hlp _ q hq).m
 | .label l,q,hq=>(zbg hm hcs hlp _ q hq).m
 | .region _ _ _,q,hq=>(zbg hm hcs hlp _ q hq).m
 | .loop _,q,hq=>(zbg hm hcs hlp _ q hq).m
 | .exit _,q,hq=>(zbg hm hcs hlp _ q hq).m
 | .ret,q,hq=>(zbg hm hcs hlp _ q hq).m
 | .goto _,q,hq=>(zbg hm hcs hlp _ q hq).m
 | .scope _,q,hq=>(zbg hm hcs hlp _ q hq).m
 | .refuse _,q,hq=>(zbg hm hcs hlp _ q hq).m
 | .seq x y,q,hq=> λe ex e' he g a w h Q hQ=>by
   simp only[zlh]at hq;split at hq
   ·rename_i qx qy hx hy;obtain rfl:=Option.some.inj hq;simp only[evQ,Option.then_]at he;split at he
    ·rename_i r hr;obtain⟨ex1,e1⟩:=r;refine wp_seq (zfh hm hcs hlp hseq x qx hx e ex1 e1 hr g a w h _ (λa1 w1 g1 r1 k1 k2 k3=>?_))
     cases ex1 with
     |n=>exact zfh hm hcs hlp hseq y qy hy e1 ex e' he g1 a1 w1 k1 Q (λa2 w2 g2 r2 m1 m2 m3=>hQ a2 w2 g2 _ m1 (k2.trans m2) (k3.then k2.size m2 m3))
     |x id=>
      simp only[zj7,Option.some.injEq,Prod.mk.injEq]at he;obtain⟨rfl,rfl⟩:=he;exact hQ a1 w1 g1 r1 k1 k2 k3
     |r=>
      simp only[zj7,Option.some.injEq,Prod.mk.injEq]at he;obtain⟨rfl,rfl⟩:=he;exact hQ a1 w1 g1 r1 k1 k2 k3
    ·cases he
   ·cases hq
 | .cond c x y,q,hq=> λe ex e' he g a w h Q hQ=>by
   simp only[zlh]at hq;split at hq
   ·rename_i qx qy hx hy;obtain rfl:=Option.some.inj hq;simp only[evQ]at he;split at he
    ·rename_i t ht;have hc:=(h.rd ht).bool_inv;refine wp_cond hc ?_
     cases t with
     |true=>exact zfh hm hcs hlp hseq x qx hx e ex e' he g a w h Q hQ
     |false=>exact zfh hm hcs hlp hseq y qy hy e ex e' he g a w h Q hQ
    ·cases he
   ·cases hq
 | .block id x,q,hq=> λe ex e' he g a w h Q hQ=>by
   simp only[zlh]at hq;split at hq
   ·rename_i qx hx;obtain rfl:=Option.some.inj hq;simp only[evQ,Option.then_]at he;split at he
    ·rename_i r hr;obtain⟨ex1,e1⟩:=r;refine wp_block (zfh hm hcs hlp hseq x qx hx e ex1 e1 hr g a w h _ (λa1 w1 g1 r1 k1 k2 k3=>?_))
     cases ex1 with
     |n=>
      simp only[zgd,Option.some.injEq,Prod.mk.injEq]at he;obtain⟨rfl,rfl⟩:=he;exact hQ a1 w1 g1 r1 k1 k2 k3
     |r=>
      simp only[zgd,Option.some.injEq,Prod.mk.injEq]at he;obtain⟨rfl,rfl⟩:=he;exact hQ a1 w1 g1 r1 k1 k2 k3
     |x i=>
      simp only[zgd]at he;show (if i=id then Q .normal a1 w1 else Q (.exit i) a1 w1)
      split at he
      ·rename_i hi;rw[if_pos hi];simp only[Option.some.injEq,Prod.mk.injEq]at he;obtain⟨rfl,rfl⟩:=he;exact hQ a1 w1 g1 r1 k1 k2 k3
      ·rename_i hi;rw[if_neg hi];simp only[Option.some.injEq,Prod.mk.injEq]at he;obtain⟨rfl,rfl⟩:=he;exact hQ a1 w1 g1 r1 k1 k2 k3
    ·cases he
   ·cases hq
 | .rangeFunc (.tmp t) ps x y,q,hq=>by
   simp only[zlh]at hq;split at hq
   ·rename_i hnd;simp only[Bool.and_eq_true]at hnd;split at hq
    ·rename_i qx qy hx hy;obtain rfl:=Option.some.inj hq;exact z0e hm hcs hlp hseq hx hy hnd.1 hnd.2
    ·cases hq
   ·cases hq
 | .rangeFunc (.const _) _ _ _,q,hq=>by cases hq
 | .rangeFunc (.global _) _ _ _,q,hq=>by cases hq
 | .rangeFunc (.func _) _ _ _,q,hq=>by cases hq
end Go.Qz
namespace Go.Qz
abbrev z3i(P:Program)(io:FuncId->List Nat):Prop:=∀f,zlf io f=true->(∃fn,P.funcs[f]? =some fn/\fn.body.isSome=true/\fn.name≠ "runtime.NumGoroutine")/\zo9 P f
theorem Next.put{g g':G}{e e':Env}{w w':World}(h:Next g e w g' e' w'){x:Nat}(o:Obj)(hx:w.heap.size<=x):Next g e w g' e' (w'.putObj x o):=
 ⟨h.os,h.tape,h.output,by simpa using h.size,λy hy hm=>(World.putObj_heap_other (by omega)).trans (h.old y hy hm),h.mine,h.c,h.cnew,h.lent⟩
theorem zmd[Base]{P:Program}{fn:Func}{R:Ending->World->Prop}{g g1:G}{e e1:Env}{tm:Array Value}{w:World}
 (hfin:∀w',Sim g1 e1 tm w' ->Next g e w g1 e1 w' -> ∃v,(results fn tm).run P w' =.ok v w' /\R (.returned v) w'):∀(rs:List Nat) (w':World),rs.Nodup->(∀r∈rs,w.heap.size<=r)->(∀r∈rs,w'.heap[r]? =some (.deferred (some []))/\Alien g1 e1 w' r)->Sim g1 e1 tm w' ->Next g e w g1 e1 w' ->
 LeavesInM Fence.wide 0 P fn tm R (rs.map λr=>({target:=.collected r,args:=#[]}:Deferred)) .returning w'
 | [],w',_,_,_,h1,h2=>hfin w' h1 h2
 |r::rs,w',hnd,hfr,hl,h1,h2=>by
  obtain⟨hr,hnd'⟩:=List.nodup_cons.1 hnd;obtain⟨l1,l2⟩:=hl r List.mem_cons_self;refine⟨(λh=>by cases h),.inl ⟨r,_,rfl,run_takeDeferred l1,?_⟩⟩
  refine zmd hfin rs _ hnd' (λr' h' =>hfr r' (List.mem_cons_of_mem _ h')) (λr' h' =>?_) (h1.aside (Aside.put l2 _)) (h2.put _ (hfr r List.mem_cons_self))
  obtain⟨m1,m2⟩:=hl r' (List.mem_cons_of_mem _ h');exact⟨(World.putObj_heap_other (λe0=>hr (by rw[<-e0];exact h'))).trans m1,m2.put _⟩
theorem zws[Base]{P:Program}{f:FuncId}{fn:Func}{c:Code}{ev:Env->Res}(hcode:zky P c ev)(hf:P.funcs[f]? =some fn)(hb:fn.body=some c){args:List A}{bx bx':zas}{r:V}{ex:Ex}{e1:Env}(hev:ev (zak fn.ntmps args bx)=some (ex,e1))(hf2:zni P fn e1 bx=some (r,bx'))(hex:ex=.n∨ex=.r)
 (g:G) (w:World) (vs:Array Value) (hsz:vs.size=args.length) (h:Sim g (zak args.length args bx) vs w):Calls P f vs w (λen w' => ∃v,en=.returned v/\ ∃g' Y,zdt g (zak args.length args bx) w r bx' v w' g' Y):=by
 have hs:=h.pad (n:=fn.ntmps) (tm':=vs++Array.replicate (fn.ntmps-vs.size) undef) (by simp;omega) (λt=>by
  rw[Array.getD_eq_getD_getElem?,Array.getD_eq_getD_getElem?];rcases Nat.lt_or_ge t vs.size with hlt|hge
  ·rw[Array.getElem?_append_left hlt]
  ·rw[Array.getElem?_append_right hge,Array.getElem?_eq_none hge,Array.getElem?_replicate]
   split<;>rfl)
 refine(callsIn_wide (n:=0)).1 (callsIn_of_wp_marks hf hb trivial (wpIn_wide.2 (hcode _ ex e1 hev g ⟨_,[]⟩ w hs _ (λa' w' g1 rs k1 k2 k3=>?_))) rfl)
 have k2':Next g (zak args.length args bx) w g1 e1 w':=⟨k2.os,k2.tape,k2.output,k2.size,k2.old,k2.mine,k2.c,k2.cnew,k2.lent⟩;have hd:a'.defers=rs.map λr=>({target:=.collected r,args:=#[]}:Deferred):=by rw[k3.eq];simp
 have key:LeavesInM Fence.wide 0 P fn a'.tmps (λen w' => ∃v,en=.returned v/\ ∃g' Y,zdt g (zak args.length args bx) w r bx' v w' g' Y) a'.defers .returning w':=by
  rw[hd];refine zmd (λw2 s2 n2=>?_) rs w' k3.nodup k3.fresh k3.lie k1 k2'
  obtain⟨v,h1,h2⟩:=zte s2 n2 hf2;exact⟨v,h1,v,rfl,h2⟩
 rcases hex with rfl|rfl
 ·exact key
 ·exact key
structure QFn where
 n:Nat
 res:List (ResultVar×TypeId)
 body:zaa
def zao(fn:Func):Option QFn:=match fn.body with
 |some c=>match zlh c with
  |some q=>if fn.results.size=fn.resultTypes.size then some ⟨fn.ntmps,fn.results.toList.zip fn.resultTypes.toList,q⟩else none
  |none=>none
 |none=>none
def zid(P:Program)(res:List (ResultVar×TypeId))(e:Env)(bx:zas):Option (V×zas):=
 match zfp P e res with
 |some (as,e')=>if as.all A.leaves then match zd9 e' bx with
  |some m=>match as with
   | [a]=>some (.one a,m)
   |as=>some (.tup as,m)
  |none=>none
  else none
 |none=>none
def z7e(P:Program)(res:List (ResultVar×TypeId))(bx:zas):Ex×Env->Option (V×zas)
 |(.x _,_)=>none
 |(_,e)=>zid P res e bx
noncomputable def zdp(P:Program)(io:FuncId->List Nat)(call:zai)(lp:zio)(q:QFn)(args:List A)(bx:zas):Option (V×zas):=
 (evQ P io call lp q.body (zak q.n args bx)).then_ (z7e P q.res bx)
noncomputable def evFQ(P:Program)(io:FuncId->List Nat)(X:zai)(lp:zio):Nat->zai
 |0,_,_,_=>none
 |n+1,f,args,bx=>match X f args bx with
  |some r=>some r
  |none=>match P.funcs[f]? with
   |some fn=>match zao fn with
    |some q=>zdp P io (evFQ P io X lp n) lp q args bx
    |none=>none
   |none=>none
theorem z0f[Base]{P:Program}{io:FuncId->List Nat}{call:zai}{lp:zio}(hm:P.follows .mixedOrders=true)(hcs:zff P call)(hlp:zfg lp)(hseq:z3i P io){f:FuncId}{fn:Func}(hf:P.funcs[f]? =some fn){q:QFn}(hq:zao fn=some q){args:List A}{bx bx':zas}{r:V}(he:zdp P io call lp q args bx=some (r,bx'))
 (g:G) (w:World) (vs:Array Value) (hsz:vs.size=args.length) (h:Sim g (zak args.length args bx) vs w):Calls P f vs w (λen w' => ∃v,en=.returned v/\ ∃g' Y,zdt g (zak args.length args bx) w r bx' v w' g' Y):=by
 unfold zao at hq;split at hq
 ·rename_i c hb;split at hq
  ·rename_i qc hqc;split at hq
   ·rename_i hlen;obtain rfl:=Option.some.inj hq;unfold zdp at he;simp only[Option.then_]at he;split at he
    ·rename_i res hev;obtain⟨ex,e1⟩:=res
     have hfinQ:zid P (fn.results.toList.zip fn.resultTypes.toList) e1 bx=some (r,bx')/\(ex=.n∨ex=.r):=by
      cases ex with
      |n=>exact⟨he,.inl rfl⟩
      |r=>exact⟨he,.inr rfl⟩
      |x i=>cases he
     have hfin:zni P fn e1 bx=some (r,bx'):=by
      have h1:=hfinQ.1;unfold zid at h1;unfold zni;rw[if_pos hlen];exact h1
     exact zws (zfh hm hcs hlp hseq c qc hqc) hf hb hev hfin hfinQ.2 g w vs hsz h
    ·cases he
   ·cases hq
  ·cases hq
 ·cases hq
theorem zpa{P:Program}{io:FuncId->List Nat}{call:zai}{lp:zio}{q:QFn}{args:List A}{bx bx':zas}{r:V}(he:zdp P io call lp q args bx=some (r,bx')):∀cs,r≠.agg cs:=by
 unfold zdp at he;simp only[Option.then_]at he
 have fin:∀{e1:Env} {rs},zid P rs e1 bx=some (r,bx')-> ∀cs,r≠.agg cs:=by
  intro e1 rs h;unfold zid at h;split at h
  ·split at h
   ·split at h
    ·split at h
     ·cases h;exact λcs e=>by cases e
     ·cases h;exact λcs e=>by cases e
    ·cases h
   ·cases h
  ·cases h
 split at he
 ·rename_i res hev;obtain⟨ex,e1⟩:=res
  cases ex with
  |n=>exact fin he
  |r=>exact fin he
  |x i=>cases he
 ·cases he
theorem zvd[Base]{P:Program}(hT:zo2 P){io:FuncId->List Nat}{X:zai}{lp:zio}(hm:P.follows .mixedOrders=true)(hX:zav P X)(hlp:zfg lp)(hseq:z3i P io)(hname:∀(f:FuncId) (fn:Func),P.funcs[f]? =some fn->fn.name≠ "runtime.NumGoroutine"):∀n,zav P (evFQ P io X lp n)
 |0=> λf as bx r bx' h=>by cases h
 |n+1=> λf as bx r bx' h=>by
  simp only[evFQ]at h;split at h
  ·rename_i r0 hx;obtain rfl:=Option.some.inj h;exact hX f as bx r bx' hx
  ·split at h
   ·rename_i fn hfn;split at h
    ·rename_i q hq;refine⟨⟨fn,hfn,?_,hname f fn hfn⟩,λg w vs hsz hs=>(z0f hm ⟨hT,zvd hT hm hX hlp hseq hname n⟩ hlp hseq hfn hq h g w vs hsz hs).mono (λen w' ⟨v,he,g',Y,hp⟩=>⟨v,he,Post.of (zpa h) hp⟩)⟩
     unfold zao at hq;split at hq
     ·rename_i c hc;rw[hc];rfl
     ·cases hq
    ·cases h
   ·cases h
end Go.Qz
