import Derived.Test.YtcadiohekccmiaaGreatDoorQm1
import Derived.Test.YtcadiohekccmiaaGreatDoorQc0
namespace Go.Qz
structure Ctx where
 P:Program
 io:FuncId->List Nat
 call:zal
inductive Fr where
 |seq (b:zab)
 |blk (id:Nat)
 |loop (a:zab)
 |fn (res:List (ResultVar×TypeId)) (bx:zar)
 |asg (b:zab)
 |rnd (o i:Env) (ps:List Nat) (a b:zab) (r:List ByteArray)
section
variable(c:Ctx)
noncomputable def cont:List Fr->Res->Option (V×zar)
 | [],_=>none
 | .seq b::ks,x=>cont ks (x.then_ (zlw (evQ c.P c.io c.call zaq b)))
 | .blk id::ks,x=>cont ks (x.then_ (zhp id))
 | .loop a::ks,x=>cont ks (match x with|some (.n,e)=>zaq (evQ c.P c.io c.call zaq a) e|r=>r)
 | .fn res bx::_,x=>x.then_ (ydn c.P res bx)
 | .asg b::ks,x=>cont ks (match x with
   |some (.n,e)=>evQ c.P c.io c.call zaq b e
   |_=>none)
 | .rnd o i ps a b r::ks,x=>cont ks (match x with
   |some (.n,e)=>zcl (evQ c.P c.io c.call zaq a) (evQ c.P c.io c.call zaq b) ps o i r (i.again e)
   |some (ex,e)=>some (ex,o.leave (i.again e))
   |none=>none)
noncomputable def Run(q:zab)(e:Env)(ks:List Fr):Option (V×zar):=cont c ks (evQ c.P c.io c.call zaq q e)
noncomputable def Kk(ks:List Fr)(ex:Ex)(e:Env):Option (V×zar):=cont c ks (some (ex,e))
noncomputable def RunL(l:List QOp)(e:Env)(ks:List Fr):Option (V×zar):=cont c ks ((evL c.P c.io c.call l e).then_ zj5)
noncomputable def RunS(l:List QOp)(ks:List Fr)(x:Option Env):Option (V×zar):=cont c ks ((x.then_ (evL c.P c.io c.call l)).then_ zj5)
noncomputable def RunH(ds:List Nat)(h t:List QOp)(e:Env)(ks:List Fr):Option (V×zar):=cont c ks (((evH c.P c.io c.call ds h e).then_ (evL c.P c.io c.call t)).then_ zj5)
noncomputable def RunT(ds:List Nat)(h t:List QOp)(ks:List Fr)(e:Env)(s:Option Stp):Option (V×zar):=cont c ks (((appO (evH c.P c.io c.call ds h) e s).then_ (evL c.P c.io c.call t)).then_ zj5)
@[simp] theorem yfi(e:Env)(ks:List Fr):Run c .skip e ks=Kk c ks .n e:=(rfl)
@[simp] theorem yfj(e:Env):iceE e []=e:=(rfl)
@[simp] theorem ydo(e:Env)(y:Nat)(r:List Nat):iceE e (y::r)=iceE (iceV e y (e.get y)) r:=(rfl)
@[simp] theorem yf3(e:Env)(y:Nat)(d:D):iceV e y (.one (.ro d))=e:=(rfl)
@[simp] theorem yf4(l:List Nat)(e:Env)(ks:List Fr):Run c (.ice l) e ks=Kk c ks .n (iceE e l):=(rfl)
@[simp] theorem yf5(l:List QOp)(e:Env)(ks:List Fr):Run c (.ops l) e ks=RunL c l e ks:=(rfl)
noncomputable def RunD(h t:List QOp)(e:Env)(ks:List Fr)(bs:List Nat):Option (V×zar):=RunH c (bs.map zbf++zc8 h) h t ((zfp e bs).clear (zc8 h)) ks
@[simp] theorem yfk(w:List Nat)(h t:List QOp)(e:Env)(ks:List Fr):Run c (.draw w h t) e ks=RunD c h t e ks (wrBs e w):=(rfl)
@[simp] theorem yfl(h t:List QOp)(e:Env)(ks:List Fr):RunD c h t e ks []=RunH c (zc8 h) h t (e.clear (zc8 h)) ks:=(rfl)
@[simp] theorem ydp(h t:List QOp)(e:Env)(ks:List Fr)(b:Nat)(bs:List Nat):RunD c h t e ks (b::bs)=RunH c (zbf b::(bs.map zbf++zc8 h)) h t ((zfp e (b::bs)).clear (zc8 h)) ks:=(rfl)
theorem zjt{P:Program}{io:FuncId->List Nat}{call:zal}{qs:List QOp}{ws:List (List Nat)}{F F':Env->Prop}(h:∀e,F e->F' e):∀{n:Nat} {done:List Nat} {e:Env},zbi P io call qs ws F n done e->zbi P io call qs ws F' n done e
 |0,_,_,hx=>⟨hx.1,h _ hx.2⟩
 |n+1,done,e,hx=>⟨λh0=>h _ (hx.1 h0),λi hi=>by
  obtain⟨q,e1,h1,h2,h3⟩:=hx.2 i hi
  exact⟨q,e1,h1,h2,zjt h h3⟩⟩
theorem zju{P:Program}{io:FuncId->List Nat}{call:zal}{qs:List QOp}{ws:List (List Nat)}{F F':Env->Prop}:∀{n:Nat} {done:List Nat} {e:Env},zbi P io call qs ws F n done e->zbi P io call qs ws F' n done e-> ∃e1,F e1/\F' e1
 |0,_,e,hx,hy=>⟨e,hx.2,hy.2⟩
 |n+1,done,e,hx,hy=>by
  cases hr:zf3 ws done with
  |nil=>exact⟨e,hx.1 hr,hy.1 hr⟩
  |cons i r=>
   have hi:i∈zf3 ws done:=by rw[hr];exact List.mem_cons_self
   obtain⟨q,e1,h1,h2,h3⟩:=hx.2 i hi;obtain⟨q',e1',k1,k2,k3⟩:=hy.2 i hi;obtain rfl:=Option.some.inj (h1.symm.trans k1);obtain rfl:=Option.some.inj (h2.symm.trans k2);exact zju h3 k3
theorem z8h{qs:List QOp}{ws:List (List Nat)}{e:Env}{ks:List Fr}{r:Option (V×zar)}{sz:Nat}{bx:Nat->Option (List A)}{ts:List (Nat×V)}
 (h:zbi c.P c.io c.call qs ws (λe1=>e1.size=sz/\(∀b,e1.box b=bx b)/\ ∀x∈ts,e1.get x.1=x.2) qs.length [] e)
 (k:∀e':Env,e'.size=sz->(∀b,e'.box b=bx b)->(∀x∈ts,e'.get x.1=x.2)->Kk c ks .n e' =r):Run c (.free qs ws) e ks=r:=by
 have h0:∃x:Nat×(Nat->Option (List A)),zbi c.P c.io c.call qs ws (λe1=>e1.size=x.1/\e1.boxes=x.2) qs.length [] e:=⟨(sz,bx),zjt (λe1 he=>⟨he.1,funext he.2.1⟩) h⟩
 obtain⟨e1,⟨g1,g2,_⟩,g3⟩:=zju h (Classical.choose_spec h0);unfold Run;simp only[evQ];unfold zmk zsh;rw[dif_pos h0];simp only[Option.then_,zj5];refine k _ ?_ (λb=>?_) (λx hx=>?_)
 ·show (Classical.choose h0).1=sz;rw[<-g3.1];exact g1
 ·show (Classical.choose h0).2 b=bx b;rw[<-g3.2];exact g2 b
 ·have hx1:zbi c.P c.io c.call qs ws (λe1=>e1.get x.1=x.2) qs.length [] e:=zjt (λe1 he=>he.2.2 x hx) h
  have h2:∃v,zbi c.P c.io c.call qs ws (λe1=>e1.get x.1=v) qs.length [] e:=⟨x.2,hx1⟩
  obtain⟨e2,m1,m2⟩:=zju hx1 (Classical.choose_spec h2);exact(dif_pos h2).trans (m2.symm.trans m1)
@[simp] theorem yf6(a b:zab)(e:Env)(ks:List Fr):Run c (.seq a b) e ks=Run c a e (.seq b::ks):=(rfl)
noncomputable def RunC(a b:zab)(e:Env)(ks:List Fr)(x:Option D):Option (V×zar):=cont c ks (match x with
 |some (.bool t)=>if t then evQ c.P c.io c.call zaq a e else evQ c.P c.io c.call zaq b e
 |_=>none)
@[simp] theorem yfm(x:Operand)(a b:zab)(e:Env)(ks:List Fr):Run c (.cond x a b) e ks=RunC c a b e ks (rd c.P e 0 x):=(rfl)
@[simp] theorem ydq(a b:zab)(e:Env)(ks:List Fr)(t:Bool):RunC c a b e ks (some (.bool t))=if t then Run c a e ks else Run c b e ks:=by cases t<;>rfl
@[simp] theorem ydr(id:Nat)(a:zab)(e:Env)(ks:List Fr):Run c (.block id a) e ks=Run c a e (.blk id::ks):=(rfl)
@[simp] theorem yfn(id:Nat)(e:Env)(ks:List Fr):Run c (.exit id) e ks=Kk c ks (.x id) e:=(rfl)
@[simp] theorem yf7(e:Env)(ks:List Fr):Run c .ret e ks=Kk c ks .r e:=(rfl)
theorem zyv(a:zab)(e:Env)(ks:List Fr):Run c (.loop a) e ks=Run c a e (.loop a::ks):=by
 unfold Run;simp only[evQ,cont];rw[z0u]
 cases evQ c.P c.io c.call zaq a e with
 |none=>rfl
 |some x=>
  obtain⟨ex,e1⟩:=x;cases ex<;>rfl
@[simp] theorem yf8(b:zab)(ks:List Fr)(e:Env):Kk c (.seq b::ks) .n e=Run c b e ks:=(rfl)
@[simp] theorem yf9(b:zab)(ks:List Fr)(i:Nat)(e:Env):Kk c (.seq b::ks) (.x i) e=Kk c ks (.x i) e:=(rfl)
@[simp] theorem yga(b:zab)(ks:List Fr)(e:Env):Kk c (.seq b::ks) .r e=Kk c ks .r e:=(rfl)
@[simp] theorem ygb(i:Nat)(ks:List Fr)(e:Env):Kk c (.blk i::ks) .n e=Kk c ks .n e:=(rfl)
@[simp] theorem ygc(i j:Nat)(ks:List Fr)(e:Env):Kk c (.blk i::ks) (.x j) e=if j=i then Kk c ks .n e else Kk c ks (.x j) e:=by
  show cont c ks (if j=i then some (.n,e)else some (.x j,e))=_
  split<;>rfl
@[simp] theorem ygd(i:Nat)(ks:List Fr)(e:Env):Kk c (.blk i::ks) .r e=Kk c ks .r e:=(rfl)
@[simp] theorem yfo(a:zab)(ks:List Fr)(e:Env):Kk c (.loop a::ks) .n e=Run c (.loop a) e ks:=(rfl)
@[simp] theorem yfp(a:zab)(ks:List Fr)(i:Nat)(e:Env):Kk c (.loop a::ks) (.x i) e=Kk c ks (.x i) e:=(rfl)
@[simp] theorem yfq(a:zab)(ks:List Fr)(e:Env):Kk c (.loop a::ks) .r e=Kk c ks .r e:=(rfl)
@[simp] theorem ylm(res:List (ResultVar×TypeId))(bx:zar)(ks:List Fr)(e:Env):Kk c (.fn res bx::ks) .n e=zh6 c.P res e bx:=(rfl)
@[simp] theorem yln(res:List (ResultVar×TypeId))(bx:zar)(ks:List Fr)(e:Env):Kk c (.fn res bx::ks) .r e=zh6 c.P res e bx:=(rfl)
@[simp] theorem yfr(e:Env)(ks:List Fr):RunL c [] e ks=Kk c ks .n e:=(rfl)
@[simp] theorem yds(q:QOp)(r:List QOp)(e:Env)(ks:List Fr):RunL c (q::r) e ks=RunS c r ks (zdc c.P c.io c.call q e):=(rfl)
@[simp] theorem ydt(r:List QOp)(ks:List Fr)(e:Env):RunS c r ks (some e)=RunL c r e ks:=(rfl)
@[simp] theorem yfs(ds:List Nat)(t:List QOp)(e:Env)(ks:List Fr):RunH c ds [] t e ks=RunL c t e ks:=(rfl)
@[simp] theorem ydu(ds:List Nat)(q:QOp)(h t:List QOp)(e:Env)(ks:List Fr):RunH c ds (q::h) t e ks=RunT c ds h t ks e (stpQ c.P c.io c.call ds q e):=(rfl)
@[simp] theorem ydv(ds:List Nat)(h t:List QOp)(ks:List Fr)(e:Env)(s:Stp):RunT c ds h t ks e (some s)=RunH c ds h t (s.app e) ks:=(rfl)
noncomputable def RunG(ps:List Nat)(a b:zab)(e:Env)(ks:List Fr)(x:Option (FuncId×ByteArray×ByteArray)):Option (V×zar):=cont c ks (zhu c.io (evQ c.P c.io c.call zaq a) (evQ c.P c.io c.call zaq b) ps e x)
noncomputable def RunR(o i:Env)(ps:List Nat)(a b:zab)(r:List ByteArray)(e:Env)(ks:List Fr):Option (V×zar):=cont c ks (zcl (evQ c.P c.io c.call zaq a) (evQ c.P c.io c.call zaq b) ps o i r e)
noncomputable def RunP(o i:Env)(ps:List Nat)(a b:zab)(r:List ByteArray)(ks:List Fr):Option Env->Option (V×zar)
 |some e=>Run c a e (.asg b::.rnd o i ps a b r::ks)
 |none=>cont c ks none
@[simp] theorem ydw(t:Nat)(ps:List Nat)(a b:zab)(e:Env)(ks:List Fr):Run c (.range t ps a b) e ks=RunG c ps a b e ks (zvu e t):=(rfl)
@[simp] theorem ydx(ps:List Nat)(a b:zab)(e:Env)(ks:List Fr)(f:FuncId)(s p:ByteArray)(h:(zm9 c.io f&&decide (p.size=1)&&decide (s.size<=9223372036854775807))=true):RunG c ps a b e ks (some (f,s,p))=RunR c e e.enter ps a b (zht s p) e.enter ks:=by
  unfold RunG RunR zhu;simp only;rw[if_pos h]
@[simp] theorem yft(o i:Env)(ps:List Nat)(a b:zab)(e:Env)(ks:List Fr):RunR c o i ps a b [] e ks=Kk c ks .n (o.leave e):=(rfl)
@[simp] theorem ydy(o i:Env)(ps:List Nat)(a b:zab)(x:ByteArray)(r:List ByteArray)(e:Env)(ks:List Fr):RunR c o i ps a b (x::r) e ks=RunP c o i ps a b r ks (z2k e ps x):=by
  unfold RunR RunP;rw[zcl]
  cases z2k e ps x with
  |none=>rfl
  |some e1=>
   show _=cont c ks _;simp only
   cases evQ c.P c.io c.call zaq a e1 with
   |none=>rfl
   |some y=>
    obtain⟨ex,e2⟩:=y
    cases ex with
    |n=>
     simp only
     cases evQ c.P c.io c.call zaq b e2 with
     |none=>rfl
     |some z=>
      obtain⟨ex2,e3⟩:=z;cases ex2<;>rfl
    |x id=>rfl
    |r=>rfl
@[simp] theorem ydz(o i:Env)(ps:List Nat)(a b:zab)(r:List ByteArray)(e:Env)(ks:List Fr):RunP c o i ps a b r ks (some e)=Run c a e (.asg b::.rnd o i ps a b r::ks):=(rfl)
@[simp] theorem yge(b:zab)(ks:List Fr)(e:Env):Kk c (.asg b::ks) .n e=Run c b e ks:=(rfl)
@[simp] theorem ygf(o i:Env)(ps:List Nat)(a b:zab)(r:List ByteArray)(ks:List Fr)(e:Env):Kk c (.rnd o i ps a b r::ks) .n e=RunR c o i ps a b r (i.again e) ks:=(rfl)
@[simp] theorem ygg(o i:Env)(ps:List Nat)(a b:zab)(r:List ByteArray)(ks:List Fr)(e:Env):Kk c (.rnd o i ps a b r::ks) .r e=Kk c ks .r (o.leave (i.again e)):=(rfl)
@[simp] theorem yd0(e:Env)(p:Nat)(x:ByteArray):z2k e [p] x=zas e (some p) (.one (.ro (.str x))):=(rfl)
end
attribute [simp] zvu idIn zsj zdp zly A.named
@[simp] theorem yd1(e:Env)(t:Nat):e.enter.get t=(e.get t).mapA (A.named idIn):=(rfl)
@[simp] theorem yc1(e:Env):e.enter.size=e.size:=(rfl)
theorem za0(e:Env)(b:Nat):e.enter.box b=if 9000<=b/\b<9999 then e.box (b-9000)else if zdp b then e.box b else none:=(rfl)
@[simp] theorem yd2(i e:Env)(t:Nat):(i.again e).get t=i.get t:=(rfl)
@[simp] theorem yc2(i e:Env):(i.again e).size=i.size:=(rfl)
theorem zb1(i e:Env)(b:Nat):(i.again e).box b=if zat<=b/\(i.box b).isSome then e.box b else none:=(rfl)
@[simp] theorem yd3(o e:Env)(t:Nat):(o.leave e).get t=(o.get t).mapA (A.named zsj):=(rfl)
@[simp] theorem yc3(o e:Env):(o.leave e).size=o.size:=(rfl)
theorem zdi(o e:Env)(b:Nat):(o.leave e).box b=if b<999 then(if (o.box b).isSome then e.box (9000+b)else none)else if zdp b/\(o.box b).isSome then e.box b else none:=(rfl)
theorem zae{P:Program}{io:FuncId->List Nat}{X:zal}{f:FuncId}{as:List A}{bx:zar}{r:V×zar}{fn:Func}{q:QFn}(hf:P.funcs[f]? =some fn)(hq:zap fn=some q)(hX:X f as bx=none)
 (h:Run ⟨P,io,zc3 P io X⟩ q.body (zaj q.n as bx) [.fn q.res bx]=some r):zc3 P io X f as bx=some r:=
 zty hf hq hX h
def Root.cleanT(ds:List Nat):Root->Bool
 | .tmp t=> !ds.contains t
 | .cell _ _=>true
def A.dropAll(ds:List Nat):A->A
 | .view l=>if l.root.cleanT ds then .view l else .dead
 | .eptr l z i o=>if l.root.cleanT ds then .eptr l z i o else .dead
 | .pview l i k=>if l.root.cleanT ds then .pview l i k else .dead
 |a=>a
theorem zwt(a:A):A.dropAll [] a=a:=by
 have hr:∀r:Root,r.cleanT []=true:=λr=>by cases r<;>rfl
 cases a<;>simp[A.dropAll,hr]
theorem zjv(d:Nat)(ds:List Nat)(r:Root):r.cleanT (d::ds)=(decide (r≠.tmp d)&&r.cleanT ds):=by
 cases r with
 |cell b o=>simp[Root.cleanT]
 |tmp t=>
  by_cases h:t=d
  ·subst h;simp[Root.cleanT]
  ·simp[Root.cleanT,h]
theorem zt0(d:Nat)(ds:List Nat)(a:A):A.dropAll (d::ds) a=A.dropAll ds (A.drop (.tmp d) a):=by
 cases a with
 |view l=>
  simp only[A.dropAll,A.drop,zjv];by_cases h:l.root=.tmp d<;>simp[h]
 |eptr l z i o=>
  simp only[A.dropAll,A.drop,zjv];by_cases h:l.root=.tmp d<;>simp[h]
 |pview l i k=>
  simp only[A.dropAll,A.drop,zjv];by_cases h:l.root=.tmp d<;>simp[h]
 |_=>rfl
theorem z4e(v:V)(f g:A->A):(v.mapA f).mapA g=v.mapA (λa=>g (f a)):=by cases v<;>simp[V.mapA]
@[simp] theorem yd4(e:Env)(ds:List Nat)(t:Nat):(e.clear ds).get t=if ds.contains t then .one .dead else(e.get t).mapA (A.dropAll ds):=by
  induction ds generalizing e with
  |nil=>
   have:(e.get t).mapA (A.dropAll [])=e.get t:=by
    rw[show A.dropAll []=id from funext zwt]
    exact znh _
   simp only[Env.clear,List.contains_nil,Bool.false_eq_true,if_false,this]
  |cons d r ih=>
   rw[Env.clear,ih];by_cases hr:r.contains t
   ·simp only[hr,if_true,List.contains_cons,Bool.or_true]
   ·by_cases ht:t=d
    ·subst ht;have e1:((e.mapA (A.drop (.tmp t))).set0 t .dead).get t=.one .dead:=by simp[Env.get,Env.set0,V.dead]
     rw[e1];simp only[hr,List.contains_cons,beq_self_eq_true,Bool.true_or,if_true];rfl
    ·have e1:((e.mapA (A.drop (.tmp d))).set0 d .dead).get t=(e.get t).mapA (A.drop (.tmp d)):=by simp[Env.get,Env.set0,Env.mapA,ht]
     have hb:(t==d)=false:=by simp[ht]
     rw[e1,z4e];simp only[hr,List.contains_cons,hb,Bool.false_or,Bool.false_eq_true,if_false];congr 1;funext a;exact(zt0 d r a).symm
@[simp] theorem yd5(e:Env)(ds:List Nat)(b:Nat):(e.clear ds).box b=e.box b:=by
  induction ds generalizing e with
  |nil=>rfl
  |cons d r ih=>rw[Env.clear,ih];rfl
@[simp] theorem yc4(e:Env)(ds:List Nat):(e.clear ds).size=e.size:=by
  induction ds generalizing e with
  |nil=>rfl
  |cons d r ih=>rw[Env.clear,ih];rfl
@[simp] theorem yc5(e:Env):zfp e []=e:=(rfl)
@[simp] theorem yc6(e:Env)(b:Nat)(bs:List Nat)(t:Nat):(zfp e (b::bs)).get t=(zfp ((e.mapA (A.killIn b)).mapA (A.drop (.tmp (zbf b)))) bs).get t:=(rfl)
@[simp] theorem yc7(e:Env)(bs:List Nat)(b:Nat):(zfp e bs).box b=e.box b:=by
  induction bs generalizing e with
  |nil=>rfl
  |cons d r ih=>rw[zfp,ih];rfl
@[simp] theorem ybl(e:Env)(bs:List Nat):(zfp e bs).size=e.size:=by
  induction bs generalizing e with
  |nil=>rfl
  |cons d r ih=>rw[zfp,ih];rfl
end Go.Qz
namespace Go.Qz
def regC:Nat->Code->Option (Array Oper)
 |r,.region id ops _=>if id=r then some ops else none
 |r,.seq a b=>match regC r a with
  |some x=>some x
  |none=>regC r b
 |r,.cond _ a b=>match regC r a with
  |some x=>some x
  |none=>regC r b
 |r,.block _ a=>regC r a
 |r,.loop a=>regC r a
 |r,.rangeFunc _ _ a b=>match regC r a with
  |some x=>some x
  |none=>regC r b
 |_,_=>none
def regF(f:Func)(r:Nat):Array Oper:=match f.body with
 |some c=>match regC r c with
  |some x=>x
  |none=> #[]
 |none=> #[]
def qsOf(f:Func)(r:Nat):List QOp:=match qOfs (regF f r).toList (regF f r).toList with
 |some q=>q
 |none=>[]
def RC(f:Func)(r:Nat):zab:=.ops (qsOf f r)
def yd6(n:Nat)(qs:List QOp):zab:=iced (iceL (qs.take n)) (.draw (z7n (qs.take n)) (qs.take n) (qs.drop n))
def RD(f:Func)(r n:Nat):zab:=yd6 n (qsOf f r)
def RP(f:Func)(r n:Nat)(l:List Nat):zab:=yd6 n (l.filterMap λi=>(qsOf f r)[i]?)
def RF(f:Func)(r:Nat):zab:=.free (qsOf f r) (zfq (regF f r))
@[reducible] def Said{p:Prop}(_:p):Prop:=p
theorem said{p:Prop}(h:p):Said h:=h
@[reducible] def ygh(q q':zab):Prop:=∀(c:Ctx) (e:Env) (ks:List Fr),Run c q e ks=Run c q' e ks
theorem zac{q q':zab}(h:q=q'):ygh q q':=λ_ _ _=>by rw[h]
@[simp] theorem mkA{α:Type}(l:List α):Array.mk l=l.toArray:=(rfl)
@[reducible] def rhs{α:Type}{a b:α}(_:a=b):α:=b
end Go.Qz
