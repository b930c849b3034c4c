import Derived.Test.YtddfkpkieamlpaaGreatDoorQn1
import Derived.Test.YtddfkpkieamlpaaGreatDoorQd0
namespace Go.Qz
structure Ctx where
 P:Program
 io:FuncId->List Nat
 call:zai
inductive Fr where
 |seq (b:zaa)
 |blk (id:Nat)
 |loop (a:zaa)
 |fn (res:List (ResultVar×TypeId)) (bx:zas)
 |asg (b:zaa)
 |rnd (o i:Env) (ps:List Nat) (a b:zaa) (r:List ByteArray)
section
variable(c:Ctx)
noncomputable def cont:List Fr->Res->Option (V×zas)
 | [],_=>none
 | .seq b::ks,x=>cont ks (x.then_ (zj7 (evQ c.P c.io c.call zan b)))
 | .blk id::ks,x=>cont ks (x.then_ (zgd id))
 | .loop a::ks,x=>cont ks (match x with|some (.n,e)=>zan (evQ c.P c.io c.call zan a) e|r=>r)
 | .fn res bx::_,x=>x.then_ (z7e c.P res bx)
 | .asg b::ks,x=>cont ks (match x with
   |some (.n,e)=>evQ c.P c.io c.call zan b e
   |_=>none)
 | .rnd o i ps a b r::ks,x=>cont ks (match x with
   |some (.n,e)=>zb9 (evQ c.P c.io c.call zan a) (evQ c.P c.io c.call zan b) ps o i r (i.again e)
   |some (ex,e)=>some (ex,o.leave (i.again e))
   |none=>none)
noncomputable def Run(q:zaa)(e:Env)(ks:List Fr):Option (V×zas):=cont c ks (evQ c.P c.io c.call zan q e)
noncomputable def Kk(ks:List Fr)(ex:Ex)(e:Env):Option (V×zas):=cont c ks (some (ex,e))
noncomputable def RunL(l:List QOp)(e:Env)(ks:List Fr):Option (V×zas):=cont c ks ((evL c.P c.io c.call l e).then_ zjj)
noncomputable def RunS(l:List QOp)(ks:List Fr)(x:Option Env):Option (V×zas):=cont c ks ((x.then_ (evL c.P c.io c.call l)).then_ zjj)
noncomputable def RunH(ds:List Nat)(h t:List QOp)(e:Env)(ks:List Fr):Option (V×zas):=cont c ks (((evH c.P c.io c.call ds h e).then_ (evL c.P c.io c.call t)).then_ zjj)
noncomputable def RunT(ds:List Nat)(h t:List QOp)(ks:List Fr)(e:Env)(s:Option Stp):Option (V×zas):=cont c ks (((appO (evH c.P c.io c.call ds h) e s).then_ (evL c.P c.io c.call t)).then_ zjj)
@[simp] theorem z8t(e:Env)(ks:List Fr):Run c .skip e ks=Kk c ks .n e:=(rfl)
@[simp] theorem z8u(e:Env):iceE e []=e:=(rfl)
@[simp] theorem z7f(e:Env)(y:Nat)(r:List Nat):iceE e (y::r)=iceE (iceV e y (e.get y)) r:=(rfl)
@[simp] theorem z8v(e:Env)(y:Nat)(d:D):iceV e y (.one (.own d))=e.freeze (.tmp y):=(rfl)
@[simp] theorem z9b(e:Env)(y:Nat)(d:D):iceV e y (.one (.ro d))=e:=(rfl)
@[simp] theorem z9c(l:List Nat)(e:Env)(ks:List Fr):Run c (.ice l) e ks=Kk c ks .n (iceE e l):=(rfl)
@[simp] theorem z9d(l:List QOp)(e:Env)(ks:List Fr):Run c (.ops l) e ks=RunL c l e ks:=(rfl)
noncomputable def RunD(h t:List QOp)(e:Env)(ks:List Fr)(bs:List Nat):Option (V×zas):=RunH c (bs.map za8++zc4 h) h t ((znm e bs).clear (zc4 h)) ks
@[simp] theorem z8w(w:List Nat)(h t:List QOp)(e:Env)(ks:List Fr):Run c (.draw w h t) e ks=RunD c h t e ks (wrBs e w):=(rfl)
@[simp] theorem z8x(h t:List QOp)(e:Env)(ks:List Fr):RunD c h t e ks []=RunH c (zc4 h) h t (e.clear (zc4 h)) ks:=(rfl)
@[simp] theorem z9e(a b:zaa)(e:Env)(ks:List Fr):Run c (.seq a b) e ks=Run c a e (.seq b::ks):=(rfl)
noncomputable def RunC(a b:zaa)(e:Env)(ks:List Fr)(x:Option D):Option (V×zas):=cont c ks (match x with
 |some (.bool t)=>if t then evQ c.P c.io c.call zan a e else evQ c.P c.io c.call zan b e
 |_=>none)
@[simp] theorem z8y(x:Operand)(a b:zaa)(e:Env)(ks:List Fr):Run c (.cond x a b) e ks=RunC c a b e ks (rd c.P e 0 x):=(rfl)
@[simp] theorem z7g(a b:zaa)(e:Env)(ks:List Fr)(t:Bool):RunC c a b e ks (some (.bool t))=if t then Run c a e ks else Run c b e ks:=by cases t<;>rfl
@[simp] theorem z7h(id:Nat)(a:zaa)(e:Env)(ks:List Fr):Run c (.block id a) e ks=Run c a e (.blk id::ks):=(rfl)
@[simp] theorem z8z(id:Nat)(e:Env)(ks:List Fr):Run c (.exit id) e ks=Kk c ks (.x id) e:=(rfl)
@[simp] theorem z9f(e:Env)(ks:List Fr):Run c .ret e ks=Kk c ks .r e:=(rfl)
theorem zvf(a:zaa)(e:Env)(ks:List Fr):Run c (.loop a) e ks=Run c a e (.loop a::ks):=by
 unfold Run;simp only[evQ,cont];rw[zwz]
 cases evQ c.P c.io c.call zan a e with
 |none=>rfl
 |some x=>
  obtain⟨ex,e1⟩:=x;cases ex<;>rfl
@[simp] theorem z9g(b:zaa)(ks:List Fr)(e:Env):Kk c (.seq b::ks) .n e=Run c b e ks:=(rfl)
@[simp] theorem z9h(b:zaa)(ks:List Fr)(i:Nat)(e:Env):Kk c (.seq b::ks) (.x i) e=Kk c ks (.x i) e:=(rfl)
@[simp] theorem z9i(b:zaa)(ks:List Fr)(e:Env):Kk c (.seq b::ks) .r e=Kk c ks .r e:=(rfl)
@[simp] theorem z9j(i:Nat)(ks:List Fr)(e:Env):Kk c (.blk i::ks) .n e=Kk c ks .n e:=(rfl)
@[simp] theorem z9k(i j:Nat)(ks:List Fr)(e:Env):Kk c (.blk i::ks) (.x j) e=if j=i then Kk c ks .n e else Kk c ks (.x j) e:=by
  show cont c ks (if j=i then some (.n,e)else some (.x j,e))=_
  split<;>rfl
@[simp] theorem z9l(i:Nat)(ks:List Fr)(e:Env):Kk c (.blk i::ks) .r e=Kk c ks .r e:=(rfl)
@[simp] theorem z80(a:zaa)(ks:List Fr)(e:Env):Kk c (.loop a::ks) .n e=Run c (.loop a) e ks:=(rfl)
@[simp] theorem z81(a:zaa)(ks:List Fr)(i:Nat)(e:Env):Kk c (.loop a::ks) (.x i) e=Kk c ks (.x i) e:=(rfl)
@[simp] theorem z82(a:zaa)(ks:List Fr)(e:Env):Kk c (.loop a::ks) .r e=Kk c ks .r e:=(rfl)
@[simp] theorem ydt(res:List (ResultVar×TypeId))(bx:zas)(ks:List Fr)(e:Env):Kk c (.fn res bx::ks) .r e=zid c.P res e bx:=(rfl)
@[simp] theorem z83(e:Env)(ks:List Fr):RunL c [] e ks=Kk c ks .n e:=(rfl)
@[simp] theorem z7i(q:QOp)(r:List QOp)(e:Env)(ks:List Fr):RunL c (q::r) e ks=RunS c r ks (zh2 c.P c.io c.call q e):=(rfl)
@[simp] theorem z7j(r:List QOp)(ks:List Fr)(e:Env):RunS c r ks (some e)=RunL c r e ks:=(rfl)
@[simp] theorem z84(ds:List Nat)(t:List QOp)(e:Env)(ks:List Fr):RunH c ds [] t e ks=RunL c t e ks:=(rfl)
@[simp] theorem z7k(ds:List Nat)(q:QOp)(h t:List QOp)(e:Env)(ks:List Fr):RunH c ds (q::h) t e ks=RunT c ds h t ks e (stpQ c.P c.io c.call ds q e):=(rfl)
@[simp] theorem z7l(ds:List Nat)(h t:List QOp)(ks:List Fr)(e:Env)(s:Stp):RunT c ds h t ks e (some s)=RunH c ds h t (s.app e) ks:=(rfl)
noncomputable def RunG(ps:List Nat)(a b:zaa)(e:Env)(ks:List Fr)(x:Option (FuncId×ByteArray×ByteArray)):Option (V×zas):=cont c ks (zgi c.io (evQ c.P c.io c.call zan a) (evQ c.P c.io c.call zan b) ps e x)
noncomputable def RunR(o i:Env)(ps:List Nat)(a b:zaa)(r:List ByteArray)(e:Env)(ks:List Fr):Option (V×zas):=cont c ks (zb9 (evQ c.P c.io c.call zan a) (evQ c.P c.io c.call zan b) ps o i r e)
noncomputable def RunP(o i:Env)(ps:List Nat)(a b:zaa)(r:List ByteArray)(ks:List Fr):Option Env->Option (V×zas)
 |some e=>Run c a e (.asg b::.rnd o i ps a b r::ks)
 |none=>cont c ks none
@[simp] theorem z7m(t:Nat)(ps:List Nat)(a b:zaa)(e:Env)(ks:List Fr):Run c (.range t ps a b) e ks=RunG c ps a b e ks (zsr e t):=(rfl)
@[simp] theorem z7n(ps:List Nat)(a b:zaa)(e:Env)(ks:List Fr)(f:FuncId)(s p:ByteArray)(h:(zlf c.io f&&decide (p.size=1)&&decide (s.size<=9223372036854775807))=true):RunG c ps a b e ks (some (f,s,p))=RunR c e e.enter ps a b (zgh s p) e.enter ks:=by
  unfold RunG RunR zgi;simp only;rw[if_pos h]
@[simp] theorem z85(o i:Env)(ps:List Nat)(a b:zaa)(e:Env)(ks:List Fr):RunR c o i ps a b [] e ks=Kk c ks .n (o.leave e):=(rfl)
@[simp] theorem z7o(o i:Env)(ps:List Nat)(a b:zaa)(x:ByteArray)(r:List ByteArray)(e:Env)(ks:List Fr):RunR c o i ps a b (x::r) e ks=RunP c o i ps a b r ks (zyw e ps x):=by
  unfold RunR RunP;rw[zb9]
  cases zyw e ps x with
  |none=>rfl
  |some e1=>
   show _=cont c ks _;simp only
   cases evQ c.P c.io c.call zan a e1 with
   |none=>rfl
   |some y=>
    obtain⟨ex,e2⟩:=y
    cases ex with
    |n=>
     simp only
     cases evQ c.P c.io c.call zan b e2 with
     |none=>rfl
     |some z=>
      obtain⟨ex2,e3⟩:=z;cases ex2<;>rfl
    |x id=>rfl
    |r=>rfl
@[simp] theorem z7p(o i:Env)(ps:List Nat)(a b:zaa)(r:List ByteArray)(e:Env)(ks:List Fr):RunP c o i ps a b r ks (some e)=Run c a e (.asg b::.rnd o i ps a b r::ks):=(rfl)
@[simp] theorem z9m(b:zaa)(ks:List Fr)(e:Env):Kk c (.asg b::ks) .n e=Run c b e ks:=(rfl)
@[simp] theorem z9n(o i:Env)(ps:List Nat)(a b:zaa)(r:List ByteArray)(ks:List Fr)(e:Env):Kk c (.rnd o i ps a b r::ks) .n e=RunR c o i ps a b r (i.again e) ks:=(rfl)
@[simp] theorem z9o(o i:Env)(ps:List Nat)(a b:zaa)(r:List ByteArray)(ks:List Fr)(e:Env):Kk c (.rnd o i ps a b r::ks) .r e=Kk c ks .r (o.leave (i.again e)):=(rfl)
@[simp] theorem z7q(e:Env)(p:Nat)(x:ByteArray):zyw e [p] x=zap e (some p) (.one (.ro (.str x))):=(rfl)
end
attribute [simp] zsr idIn zp0 zc3 zj9 A.named
@[simp] theorem z7r(e:Env)(t:Nat):e.enter.get t=(e.get t).mapA (A.named idIn):=(rfl)
@[simp] theorem z6v(e:Env):e.enter.size=e.size:=(rfl)
theorem zbn(e:Env)(b:Nat):e.enter.box b=if 9000<=b/\b<9999 then e.box (b-9000)else if zc3 b then e.box b else none:=(rfl)
@[simp] theorem z7s(i e:Env)(t:Nat):(i.again e).get t=i.get t:=(rfl)
@[simp] theorem z6w(i e:Env):(i.again e).size=i.size:=(rfl)
theorem zc1(i e:Env)(b:Nat):(i.again e).box b=if zaq<=b/\(i.box b).isSome then e.box b else none:=(rfl)
@[simp] theorem z7t(o e:Env)(t:Nat):(o.leave e).get t=(o.get t).mapA (A.named zp0):=(rfl)
@[simp] theorem z6x(o e:Env):(o.leave e).size=o.size:=(rfl)
theorem zfj(o e:Env)(b:Nat):(o.leave e).box b=if b<999 then(if (o.box b).isSome then e.box (9000+b)else none)else if zc3 b/\(o.box b).isSome then e.box b else none:=(rfl)
theorem zad{P:Program}{io:FuncId->List Nat}{X:zai}{f:FuncId}{as:List A}{bx:zas}{r:V×zas}{fn:Func}{q:QFn}(hf:P.funcs[f]? =some fn)(hq:zao fn=some q)(hX:X f as bx=none)
 (h:Run ⟨P,io,ze1 P io X⟩ q.body (zak q.n as bx) [.fn q.res bx]=some r):ze1 P io X f as bx=some r:=
 zri hf hq hX h
def Root.cleanT(ds:List Nat):Root->Bool
 | .tmp t=> !ds.contains t
 | .cell _ _=>true
def A.dropAll(ds:List Nat):A->A
 | .view l=>if l.root.cleanT ds then .view l else .dead
 | .eptr l z i o=>if l.root.cleanT ds then .eptr l z i o else .dead
 | .pview l i k=>if l.root.cleanT ds then .pview l i k else .dead
 |a=>a
theorem ztq(a:A):A.dropAll [] a=a:=by
 have hr:∀r:Root,r.cleanT []=true:=λr=>by cases r<;>rfl
 cases a<;>simp[A.dropAll,hr]
theorem zif(d:Nat)(ds:List Nat)(r:Root):r.cleanT (d::ds)=(decide (r≠.tmp d)&&r.cleanT ds):=by
 cases r with
 |cell b o=>simp[Root.cleanT]
 |tmp t=>
  by_cases h:t=d
  ·subst h;simp[Root.cleanT]
  ·simp[Root.cleanT,h]
theorem zrj(d:Nat)(ds:List Nat)(a:A):A.dropAll (d::ds) a=A.dropAll ds (A.drop (.tmp d) a):=by
 cases a with
 |view l=>
  simp only[A.dropAll,A.drop,zif];by_cases h:l.root=.tmp d<;>simp[h]
 |eptr l z i o=>
  simp only[A.dropAll,A.drop,zif];by_cases h:l.root=.tmp d<;>simp[h]
 |pview l i k=>
  simp only[A.dropAll,A.drop,zif];by_cases h:l.root=.tmp d<;>simp[h]
 |_=>rfl
theorem z0k(v:V)(f g:A->A):(v.mapA f).mapA g=v.mapA (λa=>g (f a)):=by cases v<;>simp[V.mapA]
@[simp] theorem z7u(e:Env)(ds:List Nat)(t:Nat):(e.clear ds).get t=if ds.contains t then .one .dead else(e.get t).mapA (A.dropAll ds):=by
  induction ds generalizing e with
  |nil=>
   have:(e.get t).mapA (A.dropAll [])=e.get t:=by
    rw[show A.dropAll []=id from funext ztq]
    exact zln _
   simp only[Env.clear,List.contains_nil,Bool.false_eq_true,if_false,this]
  |cons d r ih=>
   rw[Env.clear,ih];by_cases hr:r.contains t
   ·simp only[hr,if_true,List.contains_cons,Bool.or_true]
   ·by_cases ht:t=d
    ·subst ht;have e1:((e.mapA (A.drop (.tmp t))).set0 t .dead).get t=.one .dead:=by simp[Env.get,Env.set0,V.dead]
     rw[e1];simp only[hr,List.contains_cons,beq_self_eq_true,Bool.true_or,if_true];rfl
    ·have e1:((e.mapA (A.drop (.tmp d))).set0 d .dead).get t=(e.get t).mapA (A.drop (.tmp d)):=by simp[Env.get,Env.set0,Env.mapA,ht]
     have hb:(t==d)=false:=by simp[ht]
     rw[e1,z0k];simp only[hr,List.contains_cons,hb,Bool.false_or,Bool.false_eq_true,if_false];congr 1;funext a;exact(zrj d r a).symm
@[simp] theorem z7v(e:Env)(ds:List Nat)(b:Nat):(e.clear ds).box b=e.box b:=by
  induction ds generalizing e with
  |nil=>rfl
  |cons d r ih=>rw[Env.clear,ih];rfl
@[simp] theorem z6y(e:Env)(ds:List Nat):(e.clear ds).size=e.size:=by
  induction ds generalizing e with
  |nil=>rfl
  |cons d r ih=>rw[Env.clear,ih];rfl
end Go.Qz
namespace Go.Qz
def regC:Nat->Code->Option (Array Oper)
 |r,.region id ops _=>if id=r then some ops else none
 |r,.seq a b=>match regC r a with
  |some x=>some x
  |none=>regC r b
 |r,.cond _ a b=>match regC r a with
  |some x=>some x
  |none=>regC r b
 |r,.block _ a=>regC r a
 |r,.loop a=>regC r a
 |r,.rangeFunc _ _ a b=>match regC r a with
  |some x=>some x
  |none=>regC r b
 |_,_=>none
def regF(f:Func)(r:Nat):Array Oper:=match f.body with
 |some c=>match regC r c with
  |some x=>x
  |none=> #[]
 |none=> #[]
def qsOf(f:Func)(r:Nat):List QOp:=match qOfs (regF f r).toList (regF f r).toList with
 |some q=>q
 |none=>[]
def RC(f:Func)(r:Nat):zaa:=.ops (qsOf f r)
def z9p(n:Nat)(qs:List QOp):zaa:=iced (iceL (qs.take n)) (.draw (z2t (qs.take n)) (qs.take n) (qs.drop n))
def RD(f:Func)(r n:Nat):zaa:=z9p n (qsOf f r)
@[reducible] def Said{p:Prop}(_:p):Prop:=p
theorem said{p:Prop}(h:p):Said h:=h
@[reducible] def z9q(q q':zaa):Prop:=∀(c:Ctx) (e:Env) (ks:List Fr),Run c q e ks=Run c q' e ks
theorem zac{q q':zaa}(h:q=q'):z9q q q':=λ_ _ _=>by rw[h]
@[simp] theorem mkA{α:Type}(l:List α):Array.mk l=l.toArray:=(rfl)
end Go.Qz
