import Derived.Test.YtcadiohekccmiaaGreatDoorQm1
import Derived.Test.YtcadiohekccmiaaGreatDoorQc0
namespace Go.Qz
structure Ctx where
 P:Program
 io:FuncId->List Nat
 call:zam
inductive Fr where
 |seq (b:zac)
 |blk (id:Nat)
 |loop (a:zac)
 |fn (res:List (ResultVar×TypeId)) (bx:zar)
 |asg (b:zac)
 |rnd (o i:Env) (ps:List Nat) (a b:zac) (r:List ByteArray)
section
variable(c:Ctx)
noncomputable def cont:List Fr->Res->Option (V×zar)
 | [],_=>none
 | .seq b::ks,x=>cont ks (x.then_ (zlu (evQ c.P c.io c.call zaq b)))
 | .blk id::ks,x=>cont ks (x.then_ (zhi id))
 | .loop a::ks,x=>cont ks (match x with|some (.n,e)=>zaq (evQ c.P c.io c.call zaq a) e|r=>r)
 | .fn res bx::_,x=>x.then_ (ybu c.P res bx)
 | .asg b::ks,x=>cont ks (match x with
   |some (.n,e)=>evQ c.P c.io c.call zaq b e
   |_=>none)
 | .rnd o i ps a b r::ks,x=>cont ks (match x with
   |some (.n,e)=>zci (evQ c.P c.io c.call zaq a) (evQ c.P c.io c.call zaq b) ps o i r (i.again e)
   |some (ex,e)=>some (ex,o.leave (i.again e))
   |none=>none)
noncomputable def Run(q:zac)(e:Env)(ks:List Fr):Option (V×zar):=cont c ks (evQ c.P c.io c.call zaq q e)
noncomputable def Kk(ks:List Fr)(ex:Ex)(e:Env):Option (V×zar):=cont c ks (some (ex,e))
noncomputable def RunL(l:List QOp)(e:Env)(ks:List Fr):Option (V×zar):=cont c ks ((evL c.P c.io c.call l e).then_ zju)
noncomputable def RunS(l:List QOp)(ks:List Fr)(x:Option Env):Option (V×zar):=cont c ks ((x.then_ (evL c.P c.io c.call l)).then_ zju)
noncomputable def RunH(ds:List Nat)(h t:List QOp)(e:Env)(ks:List Fr):Option (V×zar):=cont c ks (((evH c.P c.io c.call ds h e).then_ (evL c.P c.io c.call t)).then_ zju)
noncomputable def RunT(ds:List Nat)(h t:List QOp)(ks:List Fr)(e:Env)(s:Option Stp):Option (V×zar):=cont c ks (((appO (evH c.P c.io c.call ds h) e s).then_ (evL c.P c.io c.call t)).then_ zju)
@[simp] theorem yeu(e:Env)(ks:List Fr):Run c .skip e ks=Kk c ks .n e:=(rfl)
@[simp] theorem yev(e:Env):iceE e []=e:=(rfl)
@[simp] theorem ybv(e:Env)(y:Nat)(r:List Nat):iceE e (y::r)=iceE (iceV e y (e.get y)) r:=(rfl)
@[simp] theorem ygl(e:Env)(y:Nat)(d:D):iceV e y (.one (.ro d))=e:=(rfl)
@[simp] theorem ygm(l:List Nat)(e:Env)(ks:List Fr):Run c (.ice l) e ks=Kk c ks .n (iceE e l):=(rfl)
@[simp] theorem ygn(l:List QOp)(e:Env)(ks:List Fr):Run c (.ops l) e ks=RunL c l e ks:=(rfl)
noncomputable def RunD(h t:List QOp)(e:Env)(ks:List Fr)(bs:List Nat):Option (V×zar):=RunH c (bs.map zbb++zc7 h) h t ((zfk e bs).clear (zc7 h)) ks
@[simp] theorem yew(w:List Nat)(h t:List QOp)(e:Env)(ks:List Fr):Run c (.draw w h t) e ks=RunD c h t e ks (wrBs e w):=(rfl)
@[simp] theorem yex(h t:List QOp)(e:Env)(ks:List Fr):RunD c h t e ks []=RunH c (zc7 h) h t (e.clear (zc7 h)) ks:=(rfl)
@[simp] theorem ybw(h t:List QOp)(e:Env)(ks:List Fr)(b:Nat)(bs:List Nat):RunD c h t e ks (b::bs)=RunH c (zbb b::(bs.map zbb++zc7 h)) h t ((zfk e (b::bs)).clear (zc7 h)) ks:=(rfl)
theorem zji{P:Program}{io:FuncId->List Nat}{call:zam}{qs:List QOp}{ws:List (List Nat)}{F F':Env->Prop}(h:∀e,F e->F' e):∀{n:Nat} {done:List Nat} {e:Env},zbf P io call qs ws F n done e->zbf P io call qs ws F' n done e
 |0,_,_,hx=>⟨hx.1,h _ hx.2⟩
 |n+1,done,e,hx=>⟨λh0=>h _ (hx.1 h0),λi hi=>by
  obtain⟨q,e1,h1,h2,h3⟩:=hx.2 i hi
  exact⟨q,e1,h1,h2,zji h h3⟩⟩
theorem zjj{P:Program}{io:FuncId->List Nat}{call:zam}{qs:List QOp}{ws:List (List Nat)}{F F':Env->Prop}:∀{n:Nat} {done:List Nat} {e:Env},zbf P io call qs ws F n done e->zbf P io call qs ws F' n done e-> ∃e1,F e1/\F' e1
 |0,_,e,hx,hy=>⟨e,hx.2,hy.2⟩
 |n+1,done,e,hx,hy=>by
  cases hr:zfx ws done with
  |nil=>exact⟨e,hx.1 hr,hy.1 hr⟩
  |cons i r=>
   have hi:i∈zfx ws done:=by rw[hr];exact List.mem_cons_self
   obtain⟨q,e1,h1,h2,h3⟩:=hx.2 i hi;obtain⟨q',e1',k1,k2,k3⟩:=hy.2 i hi;obtain rfl:=Option.some.inj (h1.symm.trans k1);obtain rfl:=Option.some.inj (h2.symm.trans k2);exact zjj h3 k3
theorem z5p{qs:List QOp}{ws:List (List Nat)}{e:Env}{ks:List Fr}{r:Option (V×zar)}{sz:Nat}{bx:Nat->Option (List A)}{ts:List (Nat×V)}
 (h:zbf c.P c.io c.call qs ws (λe1=>e1.size=sz/\(∀b,e1.box b=bx b)/\ ∀x∈ts,e1.get x.1=x.2) qs.length [] e)
 (k:∀e':Env,e'.size=sz->(∀b,e'.box b=bx b)->(∀x∈ts,e'.get x.1=x.2)->Kk c ks .n e' =r):Run c (.free qs ws) e ks=r:=by
 have h0:∃x:Nat×(Nat->Option (List A)),zbf c.P c.io c.call qs ws (λe1=>e1.size=x.1/\e1.boxes=x.2) qs.length [] e:=⟨(sz,bx),zji (λe1 he=>⟨he.1,funext he.2.1⟩) h⟩
 obtain⟨e1,⟨g1,g2,_⟩,g3⟩:=zjj h (Classical.choose_spec h0);unfold Run;simp only[evQ];unfold zmf zrr;rw[dif_pos h0];simp only[Option.then_,zju];refine k _ ?_ (λb=>?_) (λx hx=>?_)
 ·show (Classical.choose h0).1=sz;rw[<-g3.1];exact g1
 ·show (Classical.choose h0).2 b=bx b;rw[<-g3.2];exact g2 b
 ·have hx1:zbf c.P c.io c.call qs ws (λe1=>e1.get x.1=x.2) qs.length [] e:=zji (λe1 he=>he.2.2 x hx) h
  have h2:∃v,zbf c.P c.io c.call qs ws (λe1=>e1.get x.1=v) qs.length [] e:=⟨x.2,hx1⟩
  obtain⟨e2,m1,m2⟩:=zjj hx1 (Classical.choose_spec h2);exact(dif_pos h2).trans (m2.symm.trans m1)
@[simp] theorem ygo(a b:zac)(e:Env)(ks:List Fr):Run c (.seq a b) e ks=Run c a e (.seq b::ks):=(rfl)
noncomputable def RunC(a b:zac)(e:Env)(ks:List Fr)(x:Option D):Option (V×zar):=cont c ks (match x with
 |some (.bool t)=>if t then evQ c.P c.io c.call zaq a e else evQ c.P c.io c.call zaq b e
 |_=>none)
@[simp] theorem yey(x:Operand)(a b:zac)(e:Env)(ks:List Fr):Run c (.cond x a b) e ks=RunC c a b e ks (rd c.P e 0 x):=(rfl)
@[simp] theorem ybx(a b:zac)(e:Env)(ks:List Fr)(t:Bool):RunC c a b e ks (some (.bool t))=if t then Run c a e ks else Run c b e ks:=by cases t<;>rfl
@[simp] theorem yby(id:Nat)(a:zac)(e:Env)(ks:List Fr):Run c (.block id a) e ks=Run c a e (.blk id::ks):=(rfl)
@[simp] theorem yez(id:Nat)(e:Env)(ks:List Fr):Run c (.exit id) e ks=Kk c ks (.x id) e:=(rfl)
@[simp] theorem ygp(e:Env)(ks:List Fr):Run c .ret e ks=Kk c ks .r e:=(rfl)
theorem zxi(a:zac)(e:Env)(ks:List Fr):Run c (.loop a) e ks=Run c a e (.loop a::ks):=by
 unfold Run;simp only[evQ,cont];rw[zy4]
 cases evQ c.P c.io c.call zaq a e with
 |none=>rfl
 |some x=>
  obtain⟨ex,e1⟩:=x;cases ex<;>rfl
@[simp] theorem ygq(b:zac)(ks:List Fr)(e:Env):Kk c (.seq b::ks) .n e=Run c b e ks:=(rfl)
@[simp] theorem ygr(b:zac)(ks:List Fr)(i:Nat)(e:Env):Kk c (.seq b::ks) (.x i) e=Kk c ks (.x i) e:=(rfl)
@[simp] theorem ygs(b:zac)(ks:List Fr)(e:Env):Kk c (.seq b::ks) .r e=Kk c ks .r e:=(rfl)
@[simp] theorem ygt(i:Nat)(ks:List Fr)(e:Env):Kk c (.blk i::ks) .n e=Kk c ks .n e:=(rfl)
@[simp] theorem ygu(i j:Nat)(ks:List Fr)(e:Env):Kk c (.blk i::ks) (.x j) e=if j=i then Kk c ks .n e else Kk c ks (.x j) e:=by
  show cont c ks (if j=i then some (.n,e)else some (.x j,e))=_
  split<;>rfl
@[simp] theorem ygv(i:Nat)(ks:List Fr)(e:Env):Kk c (.blk i::ks) .r e=Kk c ks .r e:=(rfl)
@[simp] theorem ye0(a:zac)(ks:List Fr)(e:Env):Kk c (.loop a::ks) .n e=Run c (.loop a) e ks:=(rfl)
@[simp] theorem ye1(a:zac)(ks:List Fr)(i:Nat)(e:Env):Kk c (.loop a::ks) (.x i) e=Kk c ks (.x i) e:=(rfl)
@[simp] theorem ye2(a:zac)(ks:List Fr)(e:Env):Kk c (.loop a::ks) .r e=Kk c ks .r e:=(rfl)
@[simp] theorem yqk(res:List (ResultVar×TypeId))(bx:zar)(ks:List Fr)(e:Env):Kk c (.fn res bx::ks) .n e=zhz c.P res e bx:=(rfl)
@[simp] theorem yql(res:List (ResultVar×TypeId))(bx:zar)(ks:List Fr)(e:Env):Kk c (.fn res bx::ks) .r e=zhz c.P res e bx:=(rfl)
@[simp] theorem ye3(e:Env)(ks:List Fr):RunL c [] e ks=Kk c ks .n e:=(rfl)
@[simp] theorem ybz(q:QOp)(r:List QOp)(e:Env)(ks:List Fr):RunL c (q::r) e ks=RunS c r ks (zdd c.P c.io c.call q e):=(rfl)
@[simp] theorem yb0(r:List QOp)(ks:List Fr)(e:Env):RunS c r ks (some e)=RunL c r e ks:=(rfl)
@[simp] theorem ye4(ds:List Nat)(t:List QOp)(e:Env)(ks:List Fr):RunH c ds [] t e ks=RunL c t e ks:=(rfl)
@[simp] theorem yb1(ds:List Nat)(q:QOp)(h t:List QOp)(e:Env)(ks:List Fr):RunH c ds (q::h) t e ks=RunT c ds h t ks e (stpQ c.P c.io c.call ds q e):=(rfl)
@[simp] theorem yb2(ds:List Nat)(h t:List QOp)(ks:List Fr)(e:Env)(s:Stp):RunT c ds h t ks e (some s)=RunH c ds h t (s.app e) ks:=(rfl)
noncomputable def RunG(ps:List Nat)(a b:zac)(e:Env)(ks:List Fr)(x:Option (FuncId×ByteArray×ByteArray)):Option (V×zar):=cont c ks (zhn c.io (evQ c.P c.io c.call zaq a) (evQ c.P c.io c.call zaq b) ps e x)
noncomputable def RunR(o i:Env)(ps:List Nat)(a b:zac)(r:List ByteArray)(e:Env)(ks:List Fr):Option (V×zar):=cont c ks (zci (evQ c.P c.io c.call zaq a) (evQ c.P c.io c.call zaq b) ps o i r e)
noncomputable def RunP(o i:Env)(ps:List Nat)(a b:zac)(r:List ByteArray)(ks:List Fr):Option Env->Option (V×zar)
 |some e=>Run c a e (.asg b::.rnd o i ps a b r::ks)
 |none=>cont c ks none
@[simp] theorem yb3(t:Nat)(ps:List Nat)(a b:zac)(e:Env)(ks:List Fr):Run c (.range t ps a b) e ks=RunG c ps a b e ks (zun e t):=(rfl)
@[simp] theorem yb4(ps:List Nat)(a b:zac)(e:Env)(ks:List Fr)(f:FuncId)(s p:ByteArray)(h:(zm4 c.io f&&decide (p.size=1)&&decide (s.size<=9223372036854775807))=true):RunG c ps a b e ks (some (f,s,p))=RunR c e e.enter ps a b (zhm s p) e.enter ks:=by
  unfold RunG RunR zhn;simp only;rw[if_pos h]
@[simp] theorem ye5(o i:Env)(ps:List Nat)(a b:zac)(e:Env)(ks:List Fr):RunR c o i ps a b [] e ks=Kk c ks .n (o.leave e):=(rfl)
@[simp] theorem yb5(o i:Env)(ps:List Nat)(a b:zac)(x:ByteArray)(r:List ByteArray)(e:Env)(ks:List Fr):RunR c o i ps a b (x::r) e ks=RunP c o i ps a b r ks (z0a e ps x):=by
  unfold RunR RunP;rw[zci]
  cases z0a e ps x with
  |none=>rfl
  |some e1=>
   show _=cont c ks _;simp only
   cases evQ c.P c.io c.call zaq a e1 with
   |none=>rfl
   |some y=>
    obtain⟨ex,e2⟩:=y
    cases ex with
    |n=>
     simp only
     cases evQ c.P c.io c.call zaq b e2 with
     |none=>rfl
     |some z=>
      obtain⟨ex2,e3⟩:=z;cases ex2<;>rfl
    |x id=>rfl
    |r=>rfl
@[simp] theorem yb6(o i:Env)(ps:List Nat)(a b:zac)(r:List ByteArray)(e:Env)(ks:List Fr):RunP c o i ps a b r ks (some e)=Run c a e (.asg b::.rnd o i ps a b r::ks):=(rfl)
@[simp] theorem ygw(b:zac)(ks:List Fr)(e:Env):Kk c (.asg b::ks) .n e=Run c b e ks:=(rfl)
@[simp] theorem ygx(o i:Env)(ps:List Nat)(a b:zac)(r:List ByteArray)(ks:List Fr)(e:Env):Kk c (.rnd o i ps a b r::ks) .n e=RunR c o i ps a b r (i.again e) ks:=(rfl)
@[simp] theorem ygy(o i:Env)(ps:List Nat)(a b:zac)(r:List ByteArray)(ks:List Fr)(e:Env):Kk c (.rnd o i ps a b r::ks) .r e=Kk c ks .r (o.leave (i.again e)):=(rfl)
@[simp] theorem yb7(e:Env)(p:Nat)(x:ByteArray):z0a e [p] x=zas e (some p) (.one (.ro (.str x))):=(rfl)
end
attribute [simp] zun idIn zrt zdn zlw A.named
@[simp] theorem yb8(e:Env)(t:Nat):e.enter.get t=(e.get t).mapA (A.named idIn):=(rfl)
@[simp] theorem yap(e:Env):e.enter.size=e.size:=(rfl)
theorem za1(e:Env)(b:Nat):e.enter.box b=if 9000<=b/\b<9999 then e.box (b-9000)else if zdn b then e.box b else none:=(rfl)
@[simp] theorem yb9(i e:Env)(t:Nat):(i.again e).get t=i.get t:=(rfl)
@[simp] theorem yaq(i e:Env):(i.again e).size=i.size:=(rfl)
theorem zbz(i e:Env)(b:Nat):(i.again e).box b=if zat<=b/\(i.box b).isSome then e.box b else none:=(rfl)
@[simp] theorem yca(o e:Env)(t:Nat):(o.leave e).get t=(o.get t).mapA (A.named zrt):=(rfl)
@[simp] theorem yar(o e:Env):(o.leave e).size=o.size:=(rfl)
theorem zdh(o e:Env)(b:Nat):(o.leave e).box b=if b<999 then(if (o.box b).isSome then e.box (9000+b)else none)else if zdn b/\(o.box b).isSome then e.box b else none:=(rfl)
theorem zaf{P:Program}{io:FuncId->List Nat}{X:zam}{f:FuncId}{as:List A}{bx:zar}{r:V×zar}{fn:Func}{q:QFn}(hf:P.funcs[f]? =some fn)(hq:zao fn=some q)(hX:X f as bx=none)
 (h:Run ⟨P,io,zc3 P io X⟩ q.body (zaj q.n as bx) [.fn q.res bx]=some r):zc3 P io X f as bx=some r:=
 zs0 hf hq hX h
def Root.cleanT(ds:List Nat):Root->Bool
 | .tmp t=> !ds.contains t
 | .cell _ _=>true
def A.dropAll(ds:List Nat):A->A
 | .view l=>if l.root.cleanT ds then .view l else .dead
 | .eptr l z i o=>if l.root.cleanT ds then .eptr l z i o else .dead
 | .pview l i k=>if l.root.cleanT ds then .pview l i k else .dead
 |a=>a
theorem zvl(a:A):A.dropAll [] a=a:=by
 have hr:∀r:Root,r.cleanT []=true:=λr=>by cases r<;>rfl
 cases a<;>simp[A.dropAll,hr]
theorem zjk(d:Nat)(ds:List Nat)(r:Root):r.cleanT (d::ds)=(decide (r≠.tmp d)&&r.cleanT ds):=by
 cases r with
 |cell b o=>simp[Root.cleanT]
 |tmp t=>
  by_cases h:t=d
  ·subst h;simp[Root.cleanT]
  ·simp[Root.cleanT,h]
theorem zs2(d:Nat)(ds:List Nat)(a:A):A.dropAll (d::ds) a=A.dropAll ds (A.drop (.tmp d) a):=by
 cases a with
 |view l=>
  simp only[A.dropAll,A.drop,zjk];by_cases h:l.root=.tmp d<;>simp[h]
 |eptr l z i o=>
  simp only[A.dropAll,A.drop,zjk];by_cases h:l.root=.tmp d<;>simp[h]
 |pview l i k=>
  simp only[A.dropAll,A.drop,zjk];by_cases h:l.root=.tmp d<;>simp[h]
 |_=>rfl
theorem z10(v:V)(f g:A->A):(v.mapA f).mapA g=v.mapA (λa=>g (f a)):=by cases v<;>simp[V.mapA]
@[simp] theorem ycb(e:Env)(ds:List Nat)(t:Nat):(e.clear ds).get t=if ds.contains t then .one .dead else(e.get t).mapA (A.dropAll ds):=by
  induction ds generalizing e with
  |nil=>
   have:(e.get t).mapA (A.dropAll [])=e.get t:=by
    rw[show A.dropAll []=id from funext zvl]
    exact znc _
   simp only[Env.clear,List.contains_nil,Bool.false_eq_true,if_false,this]
  |cons d r ih=>
   rw[Env.clear,ih];by_cases hr:r.contains t
   ·simp only[hr,if_true,List.contains_cons,Bool.or_true]
   ·by_cases ht:t=d
    ·subst ht;have e1:((e.mapA (A.drop (.tmp t))).set0 t .dead).get t=.one .dead:=by simp[Env.get,Env.set0,V.dead]
     rw[e1];simp only[hr,List.contains_cons,beq_self_eq_true,Bool.true_or,if_true];rfl
    ·have e1:((e.mapA (A.drop (.tmp d))).set0 d .dead).get t=(e.get t).mapA (A.drop (.tmp d)):=by simp[Env.get,Env.set0,Env.mapA,ht]
     have hb:(t==d)=false:=by simp[ht]
     rw[e1,z10];simp only[hr,List.contains_cons,hb,Bool.false_or,Bool.false_eq_true,if_false];congr 1;funext a;exact(zs2 d r a).symm
@[simp] theorem ycc(e:Env)(ds:List Nat)(b:Nat):(e.clear ds).box b=e.box b:=by
  induction ds generalizing e with
  |nil=>rfl
  |cons d r ih=>rw[Env.clear,ih];rfl
@[simp] theorem yas(e:Env)(ds:List Nat):(e.clear ds).size=e.size:=by
  induction ds generalizing e with
  |nil=>rfl
  |cons d r ih=>rw[Env.clear,ih];rfl
@[simp] theorem yat(e:Env):zfk e []=e:=(rfl)
@[simp] theorem yau(e:Env)(b:Nat)(bs:List Nat)(t:Nat):(zfk e (b::bs)).get t=(zfk ((e.mapA (A.killIn b)).mapA (A.drop (.tmp (zbb b)))) bs).get t:=(rfl)
@[simp] theorem yav(e:Env)(bs:List Nat)(b:Nat):(zfk e bs).box b=e.box b:=by
  induction bs generalizing e with
  |nil=>rfl
  |cons d r ih=>rw[zfk,ih];rfl
@[simp] theorem z9b(e:Env)(bs:List Nat):(zfk e bs).size=e.size:=by
  induction bs generalizing e with
  |nil=>rfl
  |cons d r ih=>rw[zfk,ih];rfl
end Go.Qz
