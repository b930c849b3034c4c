import Derived.Test.YtddfkpkieamlpaaGreatDoorQc2
import Derived.StillTail
namespace Go.Qz
structure QOp where
 dst:Option Nat
 op:Op
 ty:TypeId
 g:Option (Nat×Bool):=none
def QOp.oper(q:QOp):Oper:={dst:=q.dst,op:=q.op,type:=q.ty,pos:= "",after:=#[],guard:=none}
def zdr(e:Env):Option (Nat×Bool)->Option Bool
 |none=>some true
 |some (d,want)=>match e.get d with
  | .one (.ro (.bool b))=>some (b==want)
  | .one .undef=>some false
  |_=>none
noncomputable def zh2(P:Program)(io:FuncId->List Nat)(call:zai)(q:QOp)(e:Env):Option Env:=
 match zdr e q.g with
 |some true=>evOp P io call e q.oper
 |some false=>zap e q.dst .undef
 |none=>none
noncomputable def evL(P:Program)(io:FuncId->List Nat)(call:zai):List QOp->Env->Option Env
 | [],e=>some e
 |q::r,e=>(zh2 P io call q e).then_ (evL P io call r)
def znl(ws:List (List Nat))(done:List Nat):List Nat:=(List.range ws.length).filter λi=> !done.contains i&&(ws.getD i []).all done.contains
def zb8(P:Program)(io:FuncId->List Nat)(call:zai)(qs:List QOp)(ws:List (List Nat))(F:Env->Prop):Nat->List Nat->Env->Prop
 |0,done,e=>znl ws done=[]/\F e
 |n+1,done,e=>(znl ws done=[]->F e)/\ ∀i∈znl ws done,∃q e1,qs[i]? =some q/\zh2 P io call q e=some e1/\zb8 P io call qs ws F n (i::done) e1
open Classical in
noncomputable def zuy(L:(Env->Prop)->Prop):Option Env:=
 if h:∃x:Nat×(Nat->Option (List A)),L (λe1=>e1.size=x.1/\e1.boxes=x.2)then
  some {size:=(Classical.choose h).1,boxes:=(Classical.choose h).2,tmps:=λt=>if h2:∃v,L (λe1=>e1.get t=v)then Classical.choose h2 else .dead}
 else none
noncomputable def zle(P:Program)(io:FuncId->List Nat)(call:zai)(qs:List QOp)(ws:List (List Nat))(e:Env):Option Env:=zuy λF=>zb8 P io call qs ws F qs.length [] e
structure Stp where
 dst:Option Nat
 v:V
 eat:Option Nat
 bx:Option (Nat×List A)
def Env.boxed(e:Env):Option (Nat×List A)->Env
 |none=>e
 |some (b,cs)=>e.setBox b cs
def Stp.app(s:Stp)(e:Env):Env:=match s.dst with
 |some d=>((e.eat s.eat).set0 d s.v).boxed s.bx
 |none=>(e.eat s.eat).boxed s.bx
def zgg(e:Env):Option Nat->Bool
 |some d=>d<e.size
 |none=>true
def valB:Op->Bool
 | .call c=>match c.callee with
   | .value _=>true
   |_=>false
 | .store _ _ _=>true
 |_=>false
def mvB:Op->Bool
 | .move _| .assign _=>true
 |_=>false
def zg6(ds:List Nat)(e:Env)(op:Op):Bool:=(zay op).all λt=>match e.get t with
 | .one (.ptr b _)=> !ds.contains (za8 b)
 |_=>true
def ze6:List Nat->Bool
 | []=>true
 |d::_=>decide (d<1000000000)
def zpz:Bool->List Nat->Env->Op->Bool
 |true,_,_,_=>true
 |false,ds,e,op=>mvB op||valB op||zg6 ds e op
def zm4(ds:List Nat)(e:Env)(op:Op):Bool:=zpz (ze6 ds) ds e op
def iceR:Bool->Op->V->V
 |false,.buildSlice ..,.one (.own d)=>.one (.ro d)
 |_,_,v=>v
noncomputable def stp1(ds:List Nat)(e:Env)(dst:Option Nat)(op:Op)(w:Option (V×Nat×List A)):Option (V×Option Nat)->Option Stp
 |some (v,t)=>if (iceR (ze6 ds) op v).clean ds&&zgg e dst&&zm4 ds e op then some ⟨dst,iceR (ze6 ds) op v,t,none⟩else none
 |none=>match w with
  |some (v,b,cs)=>if v.clean ds&&zgg e dst&&fitD dst op then some ⟨dst,v,none,some (b,cs)⟩else none
  |none=>none
noncomputable def stpQ(P:Program)(io:FuncId->List Nat)(call:zai)(ds:List Nat)(q:QOp)(e:Env):Option Stp:=
 match zdr e q.g with
 |some true=>stp1 ds e q.dst q.op (wrV P io call ds e q.op) (za6 P io call ds e q.ty q.op)
 |some false=>if zgg e q.dst then some ⟨q.dst,.undef,none,none⟩else none
 |none=>none
def appO(f:Env->Option Env)(e:Env):Option Stp->Option Env
 |some s=>f (s.app e)
 |none=>none
noncomputable def evH(P:Program)(io:FuncId->List Nat)(call:zai)(ds:List Nat):List QOp->Env->Option Env
 | [],e=>some e
 |q::r,e=>appO (evH P io call ds r) e (stpQ P io call ds q e)
def Env.clear(e:Env):List Nat->Env
 | []=>e
 |d::r=>((e.mapA (A.drop (.tmp d))).set0 d .dead).clear r
def zc3(b:Nat):Bool:=decide (zaq<=b)&& !(decide (9000<=b)&&decide (b<9999))
def idIn(b:Nat):Option Nat:=if b<999 then some (9000+b)else if zc3 b then some b else none
def zp0(b:Nat):Option Nat:=if b<999 then some b else if zc3 b then some b else none
def zj9(f:Nat->Option Nat):List Cap->Option (List Cap)
 | []=>some []
 | .ro d::r=>match zj9 f r with
   |some cs=>some (.ro d::cs)
   |none=>none
 | .ptr b::r=>match f b,zj9 f r with
   |some b',some cs=>some (.ptr b' ::cs)
   |_,_=>none
def A.named(f:Nat->Option Nat):A->A
 | .ro d=>.ro d
 | .rptr ds=>.rptr ds
 | .undef=>.undef
 | .ptr b o=>match f b with
   |some b' =>.ptr b' o
   |none=>.dead
 | .fn g caps=>match zj9 f caps with
   |some cs=>.fn g cs
   |none=>.dead
 |_=>.dead
def Env.enter(e:Env):Env:={size:=e.size,tmps:=λt=>(e.tmps t).mapA (A.named idIn),boxes:=λb=>if 9000<=b/\b<9999 then e.boxes (b-9000)else if zc3 b then e.boxes b else none}
def Env.again(i e:Env):Env:={size:=i.size,tmps:=i.tmps,boxes:=λb=>if zaq<=b/\(i.boxes b).isSome then e.boxes b else none}
def Env.leave(o e:Env):Env:={size:=o.size,tmps:=λt=>(o.tmps t).mapA (A.named zp0),boxes:=λb=>if b<999 then(if (o.boxes b).isSome then e.boxes (9000+b)else none)else if zc3 b/\(o.boxes b).isSome then e.boxes b else none}
def zsr(e:Env)(t:Nat):Option (FuncId×ByteArray×ByteArray):=match e.get t with
 | .one (.own (.seq f s p))=>some (f,s,p)
 | .one (.view ⟨.tmp u,[]⟩)=>match e.get u with
   | .one (.own (.seq f s p))=>some (f,s,p)
   |_=>none
 |_=>none
def za7(c:UInt8):List UInt8->List (List UInt8)
 | []=>[[]]
 |b::r=>if b=c then []::za7 c r else match za7 c r with
  |h::t=>(b::h)::t
  | []=>[[b]]
def zgh(s p:ByteArray):List ByteArray:=match p.data.toList with
 | [c]=>(za7 c s.data.toList).map λl=>⟨l.toArray⟩
 |_=>[]
def zlf(io:FuncId->List Nat)(f:FuncId):Bool:=(io f).contains 998
def zyw(e:Env)(ps:List Nat)(x:ByteArray):Option Env:=match ps with
 | [p]=>zap e (some p) (.one (.ro (.str x)))
 |_=>none
noncomputable def zb9(fa fb:Env->Res)(ps:List Nat)(o i:Env):List ByteArray->Env->Res
 | [],e=>some (.n,o.leave e)
 |x::r,e=>match zyw e ps x with
  |some e1=>match fa e1 with
   |some (.n,e2)=>match fb e2 with
    |some (.n,e3)=>zb9 fa fb ps o i r (i.again e3)
    |some (ex,e3)=>some (ex,o.leave (i.again e3))
    |none=>none
   |_=>none
  |none=>none
noncomputable def zgi(io:FuncId->List Nat)(fa fb:Env->Res)(ps:List Nat)(e:Env):Option (FuncId×ByteArray×ByteArray)->Res
 |some (f,s,p)=>if zlf io f&&decide (p.size=1)&&decide (s.size<=9223372036854775807)then zb9 fa fb ps e e.enter (zgh s p) e.enter else none
 |none=>none
inductive zaa where
 |skip
 |ice (l:List Nat)
 |ops (l:List QOp)
 |draw (w:List Nat) (h t:List QOp)
 |seq (a b:zaa)
 |cond (c:Operand) (a b:zaa)
 |block (id:Nat) (a:zaa)
 |loop (a:zaa)
 |exit (id:Nat)
 |ret
 |range (t:Nat) (ps:List Nat) (a b:zaa)
 |free (qs:List QOp) (ws:List (List Nat))
def zc4(l:List QOp):List Nat:=l.filterMap (·.dst)
def z2s(q:QOp):Option Nat:=match q.op with
 | .call c=>match c.callee,c.args.toList with
   | .value _,.tmp x::_=>some x
   |_,_=>none
 |_=>none
def z7b(h:List QOp)(x:Nat):List Nat:=h.filterMap λq=>if q.dst=some x then match q.op with
 | .move (.tmp y)=>some y
 |_=>none else none
def z5h(ds:List Nat)(q:QOp):Option Nat:=match q.op with
 | .store _ (.tmp a) _=>if ds.contains a then none else some a
 |_=>none
def z2t(h:List QOp):List Nat:=(h.filterMap z2s).flatMap (z7b h)++h.filterMap (z5h (zc4 h))
def wrBs(e:Env):List Nat->List Nat
 | []=>[]
 |y::r=>match e.get y with
  | .one (.ptr b _)=>b::wrBs e r
  |_=>wrBs e r
def znm(e:Env):List Nat->Env
 | []=>e
 |b::r=>znm ((e.mapA (A.killIn b)).mapA (A.drop (.tmp (za8 b)))) r
noncomputable def zyx(P:Program)(io:FuncId->List Nat)(call:zai)(w:List Nat)(h t:List QOp)(e:Env):Option Env:=
 (evH P io call ((wrBs e w).map za8++zc4 h) h ((znm e (wrBs e w)).clear (zc4 h))).then_ (evL P io call t)
def iceV(e:Env)(y:Nat):V->Env
 | .one (.own _)=>e.freeze (.tmp y)
 | .one (.view l)=>e.freeze l.root
 |_=>e
def iceE:Env->List Nat->Env
 |e,[]=>e
 |e,y::r=>iceE (iceV e y (e.get y)) r
noncomputable def evQ(P:Program)(io:FuncId->List Nat)(call:zai)(lp:zio):zaa->Env->Res
 | .skip,e=>some (.n,e)
 | .ice l,e=>some (.n,iceE e l)
 | .ops l,e=>(evL P io call l e).then_ zjj
 | .draw w h t,e=>(zyx P io call w h t e).then_ zjj
 | .seq a b,e=>(evQ P io call lp a e).then_ (zj7 (evQ P io call lp b))
 | .cond c a b,e=>match rd P e 0 c with
   |some (.bool t)=>if t then evQ P io call lp a e else evQ P io call lp b e
   |_=>none
 | .block id a,e=>(evQ P io call lp a e).then_ (zgd id)
 | .loop a,e=>lp (evQ P io call lp a) e
 | .exit id,e=>some (.x id,e)
 | .ret,e=>some (.r,e)
 | .range t ps a b,e=>zgi io (evQ P io call lp a) (evQ P io call lp b) ps e (zsr e t)
 | .free qs ws,e=>(zle P io call qs ws e).then_ zjj
def qOf(ops:List Oper)(o:Oper):Option QOp:=match o.guard with
 |none=>some ⟨o.dst,o.op,o.type,none⟩
 |some (j,want)=>match ops[j]? with
  |some oj=>match oj.dst with
   |some d=>some ⟨o.dst,o.op,o.type,some (d,want)⟩
   |none=>none
  |none=>none
def qOfs(ops:List Oper):List Oper->Option (List QOp)
 | []=>some []
 |o::r=>match qOf ops o with
  |some q=>match qOfs ops r with
   |some qs=>some (q::qs)
   |none=>none
  |none=>none
abbrev zcx(ops:Array Oper)(j i:Nat):Bool:=Region.waitsFor .any ops j i
def zoq(ops:Array Oper):Bool:=(List.range ops.size).all λj=>match ops[j]? with
 |some oj=>oj.after.all λe=> !Region.binds .any e||decide (e.on<j)
 |none=>true
def zyy(ops:Array Oper)(n:Nat):Bool:=(List.range n).all λj=>(List.range j).all λi=>
 zcx ops j i||match ops[i]?,ops[j]? with
  |some oi,some oj=>oi.apart ops oj
  |_,_=>false
def zyz(ops:Array Oper)(i:Nat)(oi:Oper):Bool:=(List.range ops.size).all λj=>j==i||zcx ops j i||zcx ops i j||match ops[j]? with
 |some oj=>oi.apart ops oj
 |none=>true
def zor(ops:Array Oper)(i:Nat):Bool:=Region.noSelect ops&&match ops[i]? with
 |some oi=>oi.guard.isNone&&(oi.after.all λe=> !Region.binds .any e)&&(match oi.op with| .move (.tmp _)=>true|_=>false)&&zyz ops i oi
 |none=>false
def zds(ops:Array Oper)(i:Nat):Bool:=zor ops i||(Region.noSelect ops&&match ops[i]? with
 |some oi=>oi.guard.isNone&&(oi.after.all λe=> !Region.binds .any e||(zor ops e.on&&decide (e.on<i)))&&(match oi.op with| .slice _ (.tmp _) _ _ _=>true|_=>false)&&zyz ops i oi
 |none=>false)
def z7c(ops:Array Oper)(n:Nat):Bool:=decide (n=ops.size)||(List.range n).all λi=>zds ops i||(List.range (n+1)).any λj=>decide (i<j)&&zcx ops j i
def eats:Op->Option Nat
 | .call c=>match c.callee,c.args.toList with
   | .builtin .append,[.tmp x,_]=>some x
   |_,_=>none
 |_=>none
def z5i(ops:Array Oper)(n:Nat):Bool:=(List.range n).all λi=>match ops[i]? with
 |some oi=>match eats oi.op with
  |some x=>(List.range n).all λj=>j==i||match ops[j]? with
   |some oj=> !(oj.looksAt ops).contains x|| !((List.range n).any λk=>match ops[k]? with|some ok=>ok.dst==some x|none=>false)
   |none=>true
  |none=>true
 |none=>true
def zos(ops:Array Oper)(i:Nat):Bool:=match ops[i]? with
 |some o=>valB o.op
 |none=>false
def ancs(ops:Array Oper):Nat->List Nat->List Nat
 |0,acc=>acc
 |k+1,acc=>ancs ops k (if acc.any (λa=>zcx ops a k)then k::acc else acc)
def z4x(ops:Array Oper)(n:Nat):Bool:=(List.range n).all λj=> !zos ops j||(List.range j).all λi=> !zos ops i||(ancs ops j [j]).contains i
def z4y(ops:Array Oper)(n:Nat):Bool:=(List.range n).all λi=>match ops[i]? with
 |some o=>(match o.dst with|some d=>decide (d<1000000000)|none=>true)&&(match eats o.op with|some x=>decide (x<1000000000)|none=>true)
 |none=>true
def zp1(ops:Array Oper)(n:Nat):Bool:=decide (n<=ops.size)&&zyy ops n&&z7c ops n&&Region.chainB .any ops n&&z5i ops n&&z4x ops n&&z4y ops n
def zlg(ops:Array Oper):Nat->Nat->Option Nat
 |0,n=>if zp1 ops n then some n else none
 |f+1,n=>if zp1 ops n then some n else zlg ops f (n+1)
def z7d(h:List QOp)(x:Nat):List Nat:=h.filterMap λq=>if q.dst=some x then match q.op with
 | .move (.tmp y)=>some y
 |_=>none else none
def iceL(h:List QOp):List Nat:=h.flatMap λq=>match q.op with
 | .slice _ (.tmp x) (some _) _ none=>z7d h x
 |_=>[]
def iced(l:List Nat)(q:zaa):zaa:=match l with
 | []=>q
 |y::r=>.seq (.ice (y::r)) q
def z2u(ops:Array Oper):List Nat:=(List.range ops.size).filter (zds ops)++(List.range ops.size).filter (λi=> !zds ops i)
def zy0(inv:Nat->Nat)(o:Oper):Oper:={o with after:=o.after.map λe=>{e with on:=inv e.on}}
def zdg(ops:Array Oper)(l:List Nat):Array Oper:=(l.filterMap λi=>(ops[i]?).map (zy0 λj=>l.idxOf j)).toArray
def znn(ops:Array Oper):Bool:=(ops.all λo=>o.guard.isNone)&&(List.range ops.size).any λi=>zds ops i&& !zor ops i
def zdn(ops:Array Oper):Array Oper:=if znn ops then zdg ops (z2u ops)else ops
def zy1(ops:Array Oper):Bool:=ops.any (λo=>match o.op with| .alloc _=>true|_=>false)&&ops.any (λs=>match s.op with
 | .store _ _ (.tmp x)=>ops.any λo=>o.dst==some x&&(match o.op with| .extract _ _=>true|_=>false)
 |_=>false)
def ze7(ops:Array Oper):List (List Nat):=ops.toList.map λo=>(o.after.toList.filter λe=>Region.binds .any e).map (·.on)
def zeb:Code->Option zaa
 | .skip=>some .skip
 | .label _=>some .skip
 | .region _ ops d=>if d then
   (if zy1 ops then(if zoq ops then match qOfs ops.toList ops.toList with
    |some qs=>some (.free qs (ze7 ops))
    |none=>none
    else none)
   else if zoq (zdn ops)then match zlg (zdn ops) (zdn ops).size 0,qOfs (zdn ops).toList (zdn ops).toList with
    |some n,some qs=>some (iced (iceL (qs.take n)) (.draw (z2t (qs.take n)) (qs.take n) (qs.drop n)))
    |_,_=>none
   else none)
   else match qOfs ops.toList ops.toList with
    |some qs=>some (.ops qs)
    |none=>none
 | .seq a b=>match zeb a,zeb b with
   |some x,some y=>some (.seq x y)
   |_,_=>none
 | .cond c a b=>match zeb a,zeb b with
   |some x,some y=>some (.cond c x y)
   |_,_=>none
 | .block id a=>match zeb a with
   |some x=>some (.block id x)
   |none=>none
 | .loop a=>match zeb a with
   |some x=>some (.loop x)
   |none=>none
 | .exit id=>some (.exit id)
 | .ret=>some .ret
 |_=>none
def _root_.Go.Oper.noDefer(o:Oper):Bool:=match o.op with
 | .defer _=>false
 |_=>true
def noDefer:Code->Bool
 | .region _ ops _=>ops.all Oper.noDefer
 | .seq a b=>noDefer a&&noDefer b
 | .cond _ a b=>noDefer a&&noDefer b
 | .block _ a=>noDefer a
 | .loop a=>noDefer a
 |_=>true
def zlh:Code->Option zaa
 | .rangeFunc (.tmp t) ps a b=>if noDefer a&&noDefer b then match zeb a,zeb b with
   |some x,some y=>some (.range t ps.toList x y)
   |_,_=>none
   else none
 | .seq a b=>match zlh a,zlh b with
   |some x,some y=>some (.seq x y)
   |_,_=>none
 | .cond c a b=>match zlh a,zlh b with
   |some x,some y=>some (.cond c x y)
   |_,_=>none
 | .block id a=>match zlh a with
   |some x=>some (.block id x)
   |none=>none
 |c=>zeb c
end Go.Qz
namespace Go.Qz
def eS(S:Nat->Bool):Nat->List Stp->Env->Env
 |_,[],e=>e
 |k,s::r,e=>eS S (k+1) r (if S k then s.app e else e)
def Stp.writes(s:Stp)(b:Nat):Prop:=∃cs,s.bx=some (b,cs)
def Stp.touches(s:Stp)(t:Nat):Prop:=s.dst=some t∨s.eat=some t
theorem zjm(e:Env)(x:Option Nat)(t:Nat):(e.eat x).get t=if x=some t then .dead else e.get t:=by
 cases x with
 |none=>rfl
 |some d=>
  show (e.set0 d .dead).get t=_;by_cases h:t=d
  ·subst h;simp[Env.get,Env.set0]
  ·have:some d≠some t:=λe=>h (Option.some.inj e).symm
   simp[Env.get,Env.set0,h,this]
theorem zp2(e:Env)(x:Option (Nat×List A))(t:Nat):(e.boxed x).get t=e.get t:=by
 cases x<;>rfl
theorem zfr(s:Stp)(e:Env)(t:Nat):(s.app e).get t=if s.dst=some t then s.v else if s.eat=some t then .dead else e.get t:=by
 unfold Stp.app
 cases hd:s.dst with
 |none=>simp[zjm,zp2]
 |some d=>
  dsimp only;rw[zp2];by_cases h:t=d
  ·subst h;simp[Env.get,Env.set0]
  ·have:some d≠some t:=λe=>h (Option.some.inj e).symm
   simp only[this,if_false];rw[<-zjm];simp[Env.get,Env.set0,h]
theorem zh3(s:Stp)(e:Env)(b:Nat):(s.app e).box b=match s.bx with
 |some (b',cs)=>if b=b' then some cs else e.box b
 |none=>e.box b:=by
 unfold Stp.app Env.eat Env.boxed;cases s.dst<;>cases s.eat<;>cases s.bx<;>rfl
theorem ze8{s:Stp}{b:Nat}(h:¬s.writes b)(e:Env):(s.app e).box b=e.box b:=by
 rw[zh3]
 cases hb:s.bx with
 |none=>rfl
 |some p=>
  obtain⟨b',cs⟩:=p;dsimp only;rw[if_neg (λe=>h ⟨cs,by rw[hb,e]⟩)]
theorem zot(s:Stp)(e:Env):(s.app e).size=e.size:=by
 unfold Stp.app Env.eat Env.boxed;cases s.dst<;>cases s.eat<;>cases s.bx<;>rfl
theorem zy2{S S':Nat->Bool}{b:Nat}:∀(ss:List Stp) (k:Nat) (e e':Env),e.box b=e'.box b->(∀i s,ss[i]? =some s->s.writes b->S (k+i)=S' (k+i))->(eS S k ss e).box b=(eS S' k ss e').box b
 | [],_,_,_,he,_=>he
 |s::r,k,e,e',he,h=>by
  rw[eS,eS]
  refine zy2 r (k+1) _ _ ?_ (λi s' hs ht=>by
   have:=h (i+1) s' (by simpa using hs) ht
   rw[show k+1+i=k+(i+1) by omega]
   exact this)
  by_cases ht:s.writes b
  ·have h0:=h 0 s rfl ht;rw[Nat.add_zero]at h0;rw[h0];split
   ·rw[zh3,zh3,he]
   ·exact he
  ·have hi:∀(c:Bool) (e:Env),(if c then s.app e else e).box b=e.box b:=λc e=>by cases c<;>simp[ze8 ht]
   rw[hi,hi];exact he
theorem zy3(S:Nat->Bool):∀(ss:List Stp) (k:Nat) (e:Env),(eS S k ss e).size=e.size
 | [],_,_=>rfl
 |s::r,k,e=>by
  rw[eS,zy3 S r];split
  ·exact zot s e
  ·rfl
theorem zy4{S S':Nat->Bool}{t:Nat}:∀(ss:List Stp) (k:Nat) (e e':Env),e.get t=e'.get t->(∀i s,ss[i]? =some s->s.touches t->S (k+i)=S' (k+i))->(eS S k ss e).get t=(eS S' k ss e').get t
 | [],_,_,_,he,_=>he
 |s::r,k,e,e',he,h=>by
  rw[eS,eS]
  refine zy4 r (k+1) _ _ ?_ (λi s' hs ht=>by
   have:=h (i+1) s' (by simpa using hs) ht
   rw[show k+1+i=k+(i+1) by omega]
   exact this)
  by_cases ht:s.touches t
  ·have h0:=h 0 s rfl ht;rw[Nat.add_zero]at h0;rw[h0];split
   ·rw[zfr,zfr,he]
   ·exact he
  ·have hn:∀e:Env,(s.app e).get t=e.get t:=λe=>by
    rw[zfr,if_neg (λh=>ht (.inl h)),if_neg (λh=>ht (.inr h))]
   have hi:∀(b:Bool) (e:Env),(if b then s.app e else e).get t=e.get t:=λb e=>by cases b<;>simp[hn]
   rw[hi,hi];exact he
theorem zou{S S':Nat->Bool}:∀(ss:List Stp) (k:Nat) (e:Env),(∀i,i<ss.length->S (k+i)=S' (k+i))->eS S k ss e=eS S' k ss e
 | [],_,_,_=>rfl
 |s::r,k,e,h=>by
  have h0:=h 0 (by simp)
  rw[Nat.add_zero]at h0;rw[eS,eS,h0]
  exact zou r (k+1) _ (λi hi=>by
   have:=h (i+1) (by simpa using hi)
   rw[show k+1+i=k+(i+1) by omega]
   exact this)
theorem zov{e e':Env}(h1:e.size=e'.size)(h2:∀t,e.get t=e'.get t)(h3:∀b,e.box b=e'.box b):e=e':=by
 obtain⟨n,t,b⟩:=e;obtain⟨n',t',b'⟩:=e';dsimp only at h1;subst h1;obtain rfl:t=t':=funext h2;obtain rfl:b=b':=funext h3;rfl
def Stp.free(s s':Stp):Prop:=(∀t,s.touches t->s'.touches t->s.dst≠some t/\s'.dst≠some t)/\ ∀b,s.writes b-> ¬s'.writes b
theorem z2v{s s':Stp}(h:s.free s')(e:Env):s.app (s'.app e)=s'.app (s.app e):=by
 obtain⟨h,hw⟩:=h;refine zov (by simp[zot]) (λt=>?_) (λb=>?_)
 rotate_left
 ·by_cases h1:s.writes b
  ·have h2:=hw b h1;rw[zh3 s,ze8 h2,ze8 h2,zh3 s]
  ·rw[ze8 h1,zh3 s',zh3 s',ze8 h1]
 simp only[zfr];by_cases h1:s.dst=some t
 ·have h2:s'.dst≠some t:=λh2=>(h t (.inl h1) (.inl h2)).1 h1
  have h3:s'.eat≠some t:=λh3=>(h t (.inl h1) (.inr h3)).1 h1
  simp[h1,h2,h3]
 ·by_cases h2:s'.dst=some t
  ·have h3:s.eat≠some t:=λh3=>(h t (.inr h3) (.inl h2)).2 h2
   simp[h1,h2,h3]
  ·simp only[h1,h2,if_false];by_cases h3:s.eat=some t<;>by_cases h4:s'.eat=some t<;>simp[h3,h4]
theorem zy5{S:Nat->Bool}{s:Stp}:∀(ss:List Stp) (k:Nat) (e:Env),(∀i s',ss[i]? =some s' ->S (k+i)=true->s.free s')->eS S k ss (s.app e)=s.app (eS S k ss e)
 | [],_,_,_=>rfl
 |s' ::r,k,e,h=>by
  rw[eS,eS];have h0:=h 0 s' rfl;rw[Nat.add_zero]at h0;have hr:∀i s'',r[i]? =some s'' ->S (k+1+i)=true->s.free s'':=λi s'' hs ht=>h (i+1) s'' (by simpa using hs) (by rw[show k+(i+1)=k+1+i by omega];exact ht)
  cases hS:S k with
  |true=>
   simp only[if_true];rw[<-z2v (h0 hS),zy5 r (k+1) _ hr]
  |false=>
   simp only[Bool.false_eq_true,if_false];rw[zy5 r (k+1) _ hr]
theorem zp3{S S':Nat->Bool}{s:Stp}:∀(ss:List Stp) (k i:Nat) (e:Env),ss[i]? =some s->S (k+i)=false->S' (k+i)=true->(∀m,m≠k+i->S' m=S m)->
 (∀m s',i<m->ss[m]? =some s' ->S (k+m)=true->s.free s')->eS S' k ss e=s.app (eS S k ss e)
 | [],_,_,_,h,_,_,_,_=>by simp at h
 |s0::r,k,0,e,h,h1,h2,h3,h4=>by
  simp only[List.getElem?_cons_zero,Option.some.injEq]at h;subst h;rw[Nat.add_zero]at h1 h2;rw[eS,eS,h1,h2];simp only[if_true,Bool.false_eq_true,if_false];rw[<-zy5 r (k+1) e (λi s' hs ht=>h4 (i+1) s' (by omega) (by simpa using hs) (by rw[show k+(i+1)=k+1+i by omega];exact ht))]
  exact zou r (k+1) _ (λi _=>h3 _ (by omega))
 |s0::r,k,i+1,e,h,h1,h2,h3,h4=>by
  rw[eS,eS,h3 k (by omega)]
  exact zp3 r (k+1) i _ (by simpa using h) (by rw[show k+1+i=k+(i+1) by omega];exact h1) (by rw[show k+1+i=k+(i+1) by omega];exact h2)
   (λm hm=>h3 m (by omega)) (λm s' hm hs ht=>h4 (m+1) s' (by omega) (by simpa using hs) (by rw[show k+(m+1)=k+1+m by omega];exact ht))
section
variable{P:Program}{io:FuncId->List Nat}{call:zai}{ds:List Nat}
theorem zuz:∀{l:List QOp} {e e':Env},evH P io call ds l e=some e' -> ∃ss:List Stp,ss.length=l.length/\(∀j q,l[j]? =some q-> ∃s,ss[j]? =some s/\ ∀k0,stpQ P io call ds q (eS (λi=>decide (i<k0+j)) k0 ss e)=some s)/\ ∀k0,eS (λ_=>true) k0 ss e=e'
 | [],e,e',h=>by
   obtain rfl:=Option.some.inj h;exact⟨[],rfl,λj q hq=>by simp at hq,λ_=>rfl⟩
 |q::r,e,e',h=>by
  simp only[evH,appO]at h;split at h
  ·rename_i s hs;obtain⟨ss,h1,h2,h3⟩:=zuz h;refine⟨s::ss,by simp[h1],λj q' hq=>?_,λk0=>?_⟩
   ·cases j with
    |zero=>
     simp only[List.getElem?_cons_zero,Option.some.injEq]at hq;subst hq;refine⟨s,rfl,λk0=>?_⟩
     have:eS (λi=>decide (i<k0+0)) k0 (s::ss) e=e:=by
      have gen:∀(l:List Stp) (m:Nat) (e:Env),k0<=m->eS (λi=>decide (i<k0+0)) m l e=e:=by
       intro l
       induction l with
       |nil=>intros;rfl
       |cons a l ih=>
        intro m e hm;have hf:decide (m<k0+0)=false:=by simp;omega
        rw[eS];simp only[hf,Bool.false_eq_true,if_false];exact ih (m+1) e (by omega)
      exact gen _ _ _ (Nat.le_refl _)
     rw[this];exact hs
    |succ j=>
     obtain⟨s',hs',hk⟩:=h2 j q' (by simpa using hq)
     refine⟨s',by simpa using hs',λk0=>?_⟩
     have:=hk (k0+1);rw[eS];have ht:decide (k0<k0+(j+1))=true:=by simp
     simp only[ht,if_true];rw[show k0+(j+1)=k0+1+j by omega]
     exact this
   ·rw[eS];simp only[if_true];exact h3 (k0+1)
  ·cases h
theorem zc7{q:QOp}{e:Env}{s:Stp}(h:stpQ P io call ds q e=some s):s.dst=q.dst/\zgg e q.dst=true/\s.v.clean ds=true/\
 ((zdr e q.g=some false/\s=⟨q.dst,.undef,none,none⟩)∨(zdr e q.g=some true/\((∃v t,za6 P io call ds e q.ty q.op=some (v,t)/\zm4 ds e q.op=true/\s=⟨q.dst,iceR (ze6 ds) q.op v,t,none⟩)∨
   (∃v b cs,za6 P io call ds e q.ty q.op=none/\wrV P io call ds e q.op=some (v,b,cs)/\s=⟨q.dst,v,none,some (b,cs)⟩/\fitD q.dst q.op=true)))):=by
 unfold stpQ at h;split at h
 ·rename_i hg
  cases hc:za6 P io call ds e q.ty q.op with
  |some p=>
   obtain⟨v,t⟩:=p;rw[hc]at h;simp only[stp1]at h;split at h
   ·rename_i hh;simp only[Bool.and_eq_true]at hh;obtain rfl:=Option.some.inj h;exact⟨rfl,hh.1.2,hh.1.1,.inr ⟨hg,.inl ⟨v,t,rfl,hh.2,rfl⟩⟩⟩
   ·cases h
  |none=>
   rw[hc]at h;simp only[stp1]at h;split at h
   ·rename_i v b cs hw;split at h
    ·rename_i hh;simp only[Bool.and_eq_true]at hh;obtain rfl:=Option.some.inj h;exact⟨rfl,hh.1.2,hh.1.1,.inr ⟨hg,.inr ⟨v,b,cs,rfl,hw,rfl,hh.2⟩⟩⟩
    ·cases h
   ·cases h
 ·rename_i hg;split at h
  ·rename_i hc;obtain rfl:=Option.some.inj h;exact⟨rfl,hc,rfl,.inl ⟨hg,rfl⟩⟩
  ·cases h
 ·cases h
theorem zu0{q:QOp}{e:Env}{s:Stp}(h:stpQ P io call ds q e=some s):s.dst=q.dst/\zgg e q.dst=true/\s.v.clean ds=true:=by
 obtain⟨h1,h2,h3,_⟩:=zc7 h;exact⟨h1,h2,h3⟩
theorem z4z{ds:List Nat}{e:Env}{op:Op}{r:V×Nat×List A}(h:wrV P io call ds e op=some r):valB op=true:=by
 unfold wrV at h;split at h
 ·rename_i c;split at h
  ·rename_i f hf;simp only[valB,hf]
  ·cases h
 ·rfl
 ·cases h
theorem z5j{q:QOp}{e:Env}{s:Stp}{b:Nat}(h:stpQ P io call ds q e=some s)(hb:s.writes b):valB q.op=true/\ds.contains (za8 b)=true:=by
 obtain⟨cs,hb⟩:=hb;obtain⟨_,_,_,h|⟨_,h⟩⟩:=zc7 h
 ·rw[h.2]at hb;cases hb
 ·rcases h with⟨v,t,_,_,h⟩|⟨v,b',cs',_,hw,h,_⟩
  ·rw[h]at hb;cases hb
  ·rw[h]at hb;simp only[Option.some.injEq,Prod.mk.injEq]at hb;obtain⟨rfl,rfl⟩:=hb;exact⟨z4z hw,(z65 (o:={dst:=q.dst,op:=q.op,type:=q.ty,pos:= "",after:=#[],guard:=none}) hw).2⟩
theorem z2w{e:Env}{ty:TypeId}{op:Op}{v:V}{t:Nat}(h:za6 P io call ds e ty op=some (v,some t)):eats op=some t/\ds.contains t=true:=by
 unfold za6 at h
 have pl:∀x:Option V,zhq x=some (v,some t)->False:=λx h=>by
  have:=(zfq h).2;cases this
 have mv:∀x,zbs P e ty x=some (v,some t)->False:=by
  intro x h;unfold zbs at h
  repeat (split at h<;>try (simp at h;done))
  all_goals (first|(simp at h;done)|cases h)
 cases op with
 |move x=>exact(mv x h).elim
 |assign x=>exact(mv x h).elim
 |extract x i=>
  dsimp only at h;unfold zpw at h
  repeat (split at h<;>try (simp at h;done))
  all_goals (first|(simp at h;done)|cases h)
 |slice s x lo hi mx=>
  cases mx with
  |some m=>cases h
  |none=>
   dsimp only at h;split at h
   ·exact(pl _ h).elim
   ·repeat (split at h<;>try (simp at h;done))
 |buildSlice s n parts=>
  dsimp only at h
  repeat (split at h<;>try (simp at h;done))
 |build s parts=>
  dsimp only at h
  repeat (split at h<;>try (simp at h;done))
 |convert s d x=>
  dsimp only at h;split at h
  ·split at h<;>simp at h
  ·exact(pl _ h).elim
 |call c=>
  obtain⟨callee,args,argTypes⟩:=c
  cases callee with
  |builtin b=>
   cases b with
   |append=>
    dsimp only at h;split at h
    ·rename_i x y s u ha ht;unfold ze5 at h;split at h
     ·rename_i hx;split at h
      ·split at h
       ·split at h
        ·split at h
         ·simp only[Option.some.injEq,Prod.mk.injEq]at h;obtain⟨_,rfl⟩:=h;exact⟨by simp only[eats,ha],hx⟩
         ·cases h
        ·split at h
         ·simp only[Option.some.injEq,Prod.mk.injEq]at h;obtain⟨_,rfl⟩:=h;exact⟨by simp only[eats,ha],hx⟩
         ·cases h
        ·cases h
       ·cases h
      ·cases h
     ·cases h
    ·cases h
   |_=>exact(pl _ h).elim
  |value f=>
   dsimp only at h;split at h
   ·exact(pl _ h).elim
   ·cases h
  |invoke r m=>cases h
 |binOp a b c d e' =>exact(pl _ h).elim
 |unOp a b c=>exact(pl _ h).elim
 |pick a b c=>exact(pl _ h).elim
 |nilCheck a=>exact(pl _ h).elim
 |fieldAddr a b c=>exact(pl _ h).elim
 |indexAddr a b c=>exact(pl _ h).elim
 |index a b c=>exact(pl _ h).elim
 |field a b c=>exact(pl _ h).elim
 |load a b=>exact(pl _ h).elim
 |makeInterface a b=>exact(pl _ h).elim
 |_=>cases h
theorem z2x{q:QOp}{e:Env}{s:Stp}{t:Nat}(h:stpQ P io call ds q e=some s)(he:s.eat=some t):eats q.op=some t/\ds.contains t=true:=by
 obtain⟨_,_,_,h|⟨_,h⟩⟩:=zc7 h
 ·rw[h.2]at he;cases he
 ·rcases h with⟨v,t',hv,_,h⟩|⟨v,b',cs',_,hw,h,_⟩
  ·rw[h]at he;dsimp only at he;subst he;exact z2w hv
  ·rw[h]at he;cases he
end
end Go.Qz
namespace Go.Qz
def zec(ds:List Nat)(e:Env):Prop:=∀t,(e.get t).clean ds=true
theorem zu1{ds:List Nat}{S:Nat->Bool}:∀(ss:List Stp) (k:Nat) (e:Env),zec ds e->(∀s∈ss,s.v.clean ds=true)->zec ds (eS S k ss e)
 | [],_,_,he,_=>he
 |s::r,k,e,he,hs=>by
  rw[eS];refine zu1 r (k+1) _ ?_ (λs' h' =>hs s' (by simp[h']))
  split
  ·intro t;rw[zfr];split
   ·exact hs s (by simp)
   ·split
    ·rfl
    ·exact he t
  ·exact he
theorem zep{ops:List Oper}:∀{l:List Oper} {qs:List QOp},qOfs ops l=some qs->qs.length=l.length/\ ∀(j:Nat) (o:Oper),l[j]? =some o-> ∃q,qs[j]? =some q/\qOf ops o=some q
 | [],qs,h=>by
   obtain rfl:=Option.some.inj h;exact⟨rfl,λj o hj=>by simp at hj⟩
 |o::r,qs,h=>by
  simp only[qOfs]at h;split at h
  ·rename_i q hq;split at h
   ·rename_i qs' hqs;obtain rfl:=Option.some.inj h;obtain⟨h1,h2⟩:=zep hqs;refine⟨by simp[h1],λj o' hj=>?_⟩
    cases j with
    |zero=>
     simp only[List.getElem?_cons_zero,Option.some.injEq]at hj;subst hj;exact⟨q,rfl,hq⟩
    |succ j=>exact h2 j o' (by simpa using hj)
   ·cases h
  ·cases h
theorem zli{ops:List Oper}{o:Oper}{q:QOp}(h:qOf ops o=some q):q.dst=o.dst/\q.op=o.op/\q.ty=o.type:=by
 unfold qOf at h;split at h
 ·obtain rfl:=Option.some.inj h;exact⟨rfl,rfl,rfl⟩
 ·split at h
  ·split at h
   ·obtain rfl:=Option.some.inj h;exact⟨rfl,rfl,rfl⟩
   ·cases h
  ·cases h
theorem zy6{ops:Array Oper}{o:Oper}{q:QOp}(h:qOf ops.toList o=some q){d:Nat}{b:Bool}(hg:q.g=some (d,b)):d∈o.looksAt ops:=by
 unfold qOf at h;split at h
 ·obtain rfl:=Option.some.inj h;cases hg
 ·rename_i j want h0;split at h
  ·rename_i oj hoj;split at h
   ·rename_i d' hd';obtain rfl:=Option.some.inj h;simp only[Option.some.injEq,Prod.mk.injEq]at hg;obtain⟨rfl,rfl⟩:=hg;unfold Oper.looksAt;refine List.mem_append_right _ ?_;rw[Array.getElem?_toList]at hoj;simp[h0,hoj,hd']
   ·cases h
  ·cases h
theorem zir{ops:List Oper}{o:Oper}{q:QOp}(h:qOf ops o=some q)(e:Env):zji ops e o=zdr e q.g:=by
 unfold qOf at h;unfold zji;split at h
 ·rename_i h0;obtain rfl:=Option.some.inj h;rw[h0];rfl
 ·rename_i j want h0;split at h
  ·rename_i oj hoj;split at h
   ·rename_i d hd;obtain rfl:=Option.some.inj h;rw[h0];simp only[hoj,hd];rfl
   ·cases h
  ·cases h
theorem zss{e1 e2:Env}{l:Loc}(hb:∀b o,l.root=.cell b o->e1.box b=e2.box b)(ht:∀t,l.root=.tmp t->e1.get t=e2.get t):e1.ownAt l=e2.ownAt l:=by
 have hr:e1.root l.root=e2.root l.root:=by
  cases hq:l.root with
  |tmp t=>simp only[Env.root,ht t hq]
  |cell b o=>simp only[Env.root,hb b o hq]
 simp only[Env.ownAt,hr]
structure Head(P:Program)(io:FuncId->List Nat)(call:zai)(ops:Array Oper)(n:Nat)(qs:List QOp)(ds:List Nat)(ss:List Stp)(e0:Env):Prop where
 conv:qOfs ops.toList ops.toList=some qs
 le:n<=ops.size
 pairs:zyy ops n=true
 sole:z5i ops n=true
 dsEq:∃ks,ds=ks++zc4 (qs.take n)/\(∀k∈ks,1000000000<=k)/\ ∀d∈zc4 (qs.take n),d<1000000000
 calls:z4x ops n=true
 small:z4y ops n=true
 len:ss.length=n
 step:∀(j:Nat) (q:QOp),j<n->qs[j]? =some q-> ∃s,ss[j]? =some s/\stpQ P io call ds q (eS (λi=>decide (i<j)) 0 ss e0)=some s
 clean:zec ds e0
section
variable{P:Program}{io:FuncId->List Nat}{call:zai}{ops:Array Oper}{n:Nat}{qs:List QOp}{ds:List Nat}{ss:List Stp}{e0:Env}
theorem Head.op(H:Head P io call ops n qs ds ss e0){j:Nat}(hj:j<n):∃o q s,ops[j]? =some o/\qs[j]? =some q/\qOf ops.toList o=some q/\ss[j]? =some s/\
 stpQ P io call ds q (eS (λi=>decide (i<j)) 0 ss e0)=some s:=by
 have hlt:j<ops.size:=Nat.lt_of_lt_of_le hj H.le;have ho:ops[j]? =some ops[j]:=Array.getElem?_eq_getElem hlt;obtain⟨q,hq,hqo⟩:=(zep H.conv).2 j ops[j] (by rw[Array.getElem?_toList];exact ho)
 obtain⟨s,hs,hst⟩:=H.step j q hj hq;exact⟨_,q,s,ho,hq,hqo,hs,hst⟩
theorem Head.get(H:Head P io call ops n qs ds ss e0){j:Nat}{s:Stp}(hs:ss[j]? =some s):∃o q,ops[j]? =some o/\qs[j]? =some q/\qOf ops.toList o=some q/\j<n/\
 s.dst=o.dst/\s.v.clean ds=true/\(∀t,s.dst=some t->t∈ds)/\ ∀t,s.eat=some t->t∈ds/\eats o.op=some t:=by
 have hj:j<n:=by rw[<-H.len];exact(List.getElem?_eq_some_iff.1 hs).1
 obtain⟨o,q,s',ho,hq,hqo,hs',hst⟩:=H.op hj;obtain rfl:=Option.some.inj (hs.symm.trans hs');obtain⟨h1,h2,h3⟩:=zu0 hst;obtain⟨k1,k2,k3⟩:=zli hqo;refine⟨o,q,ho,hq,hqo,hj,h1.trans k1,h3,λt ht=>?_,λt ht=>?_⟩
 ·obtain⟨ks,hks,_⟩:=H.dsEq;rw[hks];refine List.mem_append_right _ ?_;unfold zc4;rw[List.mem_filterMap];refine⟨q,?_,by rw[<-h1];exact ht⟩
  exact List.mem_of_getElem? (i:=j) (by rw[List.getElem?_take,if_pos hj];exact hq)
 ·obtain⟨m1,m2⟩:=z2x hst ht;exact⟨by simpa using m2,by rw[<-k2];exact m1⟩
theorem zno{o:Oper}{t:Nat}(h:eats o.op=some t):t∈o.looksAt ops:=by
 unfold Oper.looksAt;refine List.mem_append_left _ (List.mem_filterMap.2 ⟨.tmp t,?_,rfl⟩);unfold eats at h;split at h
 ·rename_i c hc;split at h
  ·rename_i x y hb ha;obtain rfl:=Option.some.inj h;rw[hc];simp[Op.operands,Call.operands,ha]
  ·cases h
 ·cases h
theorem Head.soleE(H:Head P io call ops n qs ds ss e0){i j:Nat}{oi oj:Oper}(hi:i<n)(hj:j<n)(hne:j≠i)(hoi:ops[i]? =some oi)(hoj:ops[j]? =some oj){t:Nat}(he:eats oi.op=some t)(ht:t∈ds):t∉oj.looksAt ops:=by
 have h:=H.sole;unfold z5i at h;have h1:=List.all_eq_true.1 h i (List.mem_range.2 hi);simp only[hoi,he]at h1;have h2:=List.all_eq_true.1 h1 j (List.mem_range.2 hj);simp only[hoj,Bool.or_eq_true,beq_iff_eq,hne,false_or,Bool.not_eq_true']at h2;rcases h2 with h2|h2
 ·simpa using h2
 ·exfalso;obtain⟨ks,hks,hbig,_⟩:=H.dsEq;rw[hks]at ht;have hsm:=List.all_eq_true.1 H.small i (List.mem_range.2 hi);simp only[hoi,he,Bool.and_eq_true,decide_eq_true_eq]at hsm;rcases List.mem_append.1 ht with ht|ht
  ·have:=hbig t ht;omega
  unfold zc4 at ht;obtain⟨q,hq,hd⟩:=List.mem_filterMap.1 ht;obtain⟨k,hk⟩:=List.mem_iff_getElem?.1 hq;rw[List.getElem?_take]at hk;split at hk
  ·rename_i hkn;obtain⟨o,q',s,ho,hq',hqo,_,_⟩:=H.op hkn;obtain rfl:=Option.some.inj (hk.symm.trans hq');have hf:=List.any_eq_false.1 h2 k (List.mem_range.2 hkn);simp only[ho,beq_iff_eq]at hf;exact hf (by rw[<-(zli hqo).1];exact hd)
  ·cases hk
theorem Head.apart(H:Head P io call ops n qs ds ss e0){S:Nat->Bool}(hcl:∀k,k<n->S k=true-> ∀i,zcx ops k i=true->S i=true){j:Nat}(hjS:S j=false)(hj:j<n)(hrd:∀i,zcx ops j i=true->S i=true)
 {i:Nat} (hi:i<n) (hne:i≠j) (hd:S i≠decide (i<j)) {oi oj:Oper} (hoi:ops[i]? =some oi) (hoj:ops[j]? =some oj):
 (∀d,oi.dst=some d->d∉oj.looksAt ops)/\(∀d,oi.dst=some d->oj.dst≠some d)/\(∀d,oj.dst=some d->d∉oi.looksAt ops):=by
 have hp:=H.pairs;unfold zyy at hp;rcases Nat.lt_or_ge i j with hlt|hge
 ·have h1:=List.all_eq_true.1 (List.all_eq_true.1 hp j (List.mem_range.2 hj)) i (List.mem_range.2 hlt);simp only[Bool.or_eq_true,hoi,hoj]at h1;rcases h1 with h1|h1
  ·have:=hrd i h1;rw[this]at hd;simp[hlt]at hd
  ·exact Oper.apart_spec h1
 ·have hlt:j<i:=by omega
  have hSi:S i=true:=by
   cases h:S i with
   |true=>rfl
   |false=>rw[h]at hd;simp at hd;omega
  have h1:=List.all_eq_true.1 (List.all_eq_true.1 hp i (List.mem_range.2 hi)) j (List.mem_range.2 hlt);simp only[Bool.or_eq_true,hoi,hoj]at h1;rcases h1 with h1|h1
  ·have:=hcl i hi hSi j h1;rw[this]at hjS;cases hjS
  ·obtain⟨a1,a2,a3⟩:=Oper.apart_spec h1;exact⟨a3,λd hd1 hd2=>a2 d hd2 hd1,a1⟩
theorem zst{ops:Array Oper}{T:Nat->Prop}(hT:∀a k,T a->zcx ops a k=true->T k):∀(k:Nat) (acc:List Nat),(∀a∈acc,T a)-> ∀a∈ancs ops k acc,T a
 |0,acc,h=>h
 |k+1,acc,h=>by
  unfold ancs;split
  ·rename_i hk;obtain⟨a,ha,hw⟩:=List.any_eq_true.1 hk;exact zst hT k _ (λx hx=>(List.mem_cons.1 hx).elim (λe=>e▸hT a k (h a ha) hw) (h x))
  ·exact zst hT k acc h
theorem Head.before(H:Head P io call ops n qs ds ss e0)(hback:∀a k,zcx ops a k=true->k<a){S:Nat->Bool}(hcl:∀k,k<n->S k=true-> ∀i,zcx ops k i=true->S i=true)(j:Nat)(hj:j<n)(hS:S j=true∨ ∀i,zcx ops j i=true->S i=true)(hjc:zos ops j=true)(i:Nat)(hij:i<j)(hic:zos ops i=true):S i=true:=by
 have h1:=List.all_eq_true.1 H.calls j (List.mem_range.2 hj);simp only[hjc,Bool.not_true,Bool.false_or]at h1;have h2:=List.all_eq_true.1 h1 i (List.mem_range.2 hij);simp only[hic,Bool.not_true,Bool.false_or]at h2
 have h3:=zst (ops:=ops) (T:=λa=>a=j∨(a<n/\S a=true)) (λa k ha hw=>by
  have:=hback a k hw;rcases ha with rfl|⟨ha,hs⟩
  ·exact .inr ⟨by omega,hS.elim (λh=>hcl a hj h k hw) (λh=>h k hw)⟩
  ·exact .inr ⟨by omega,hcl a ha hs k hw⟩) j [j] (λa ha=>.inl (by simpa using ha)) i (by simpa using h2)
 rcases h3 with h3|h3
 ·omega
 ·exact h3.2
theorem Head.wrote(H:Head P io call ops n qs ds ss e0){i b:Nat}{s:Stp}(hs:ss[i]? =some s)(hw:s.writes b):zos ops i=true/\ds.contains (za8 b)=true:=by
 have hj:i<n:=by rw[<-H.len];exact(List.getElem?_eq_some_iff.1 hs).1
 obtain⟨o,q,s',ho,hq,hqo,hs',hst⟩:=H.op hj;obtain rfl:=Option.some.inj (hs.symm.trans hs');obtain⟨h1,h2⟩:=z5j hst hw;refine⟨?_,h2⟩;unfold zos;rw[ho];dsimp only;rw[<-(zli hqo).2.1];exact h1
theorem Head.stp(H:Head P io call ops n qs ds ss e0)(hback:∀a k,zcx ops a k=true->k<a){S:Nat->Bool}(hcl:∀k,k<n->S k=true-> ∀i,zcx ops k i=true->S i=true){j:Nat}(hjS:S j=false)(hj:j<n)(hrd:∀i,zcx ops j i=true->S i=true)
 {S':Nat->Bool} (hS':S' j=true) (hSS:∀m,m≠j->S' m=S m):
 ∃o q s,ops[j]? =some o/\qOf ops.toList o=some q/\stpQ P io call ds q (eS S 0 ss e0)=some s/\eS S' 0 ss e0=s.app (eS S 0 ss e0)/\zec ds (eS S 0 ss e0)/\ ∀d,q.dst=some d->d∈ds:=by
 obtain⟨o,q,s,ho,hq,hqo,hs,hst⟩:=H.op hj;obtain⟨k1,k2,k3⟩:=zli hqo
 have hclean:∀S,zec ds (eS S 0 ss e0):=λS=>zu1 ss 0 e0 H.clean (λs' hs' =>by
  obtain⟨i,hi⟩:=List.mem_iff_getElem?.1 hs';obtain⟨_,_,_,_,_,_,_,hc,_,_⟩:=H.get hi
  exact hc)
 have hsame:∀t∈o.looksAt ops,∀i s',ss[i]? =some s' ->s'.touches t->S (0+i)=decide (0+i<j):=by
  intro t ht i s' hi htouch;rw[Nat.zero_add];obtain⟨oi,qi,hoi,_,_,hin,hd,_,_,he⟩:=H.get hi;by_cases hne:i=j
  ·subst hne;rw[hjS];simp
  ·cases Decidable.em (S i=decide (i<j))with
   |inl h=>exact h
   |inr h=>
    exfalso;obtain⟨a1,a2,a3⟩:=H.apart hcl hjS hj hrd hin hne h hoi ho;rcases htouch with h1|h1
    ·exact a1 t (hd▸h1) ht
    ·obtain⟨e1,e2⟩:=he t h1;exact H.soleE hin hj (Ne.symm hne) hoi ho e2 e1 ht
 have hboxN:∀b,ds.contains (za8 b)=false->(eS S 0 ss e0).box b=(eS (λi=>decide (i<j)) 0 ss e0).box b:=λb hb=>
  zy2 ss 0 e0 e0 rfl (λi s' hi hw=>by
   have:=(H.wrote hi hw).2
   rw[hb]at this;cases this)
 have hboxC:zos ops j=true-> ∀b,(eS S 0 ss e0).box b=(eS (λi=>decide (i<j)) 0 ss e0).box b:=λhjc b=>
  zy2 ss 0 e0 e0 rfl (λi s' hi hw=>by
   have hic:=(H.wrote hi hw).1;have hin:i<n:=by rw[<-H.len];exact(List.getElem?_eq_some_iff.1 hi).1
   rw[Nat.zero_add];rcases Nat.lt_trichotomy i j with h|h|h
   ·rw[H.before hback hcl j hj (.inr hrd) hjc i h hic];simp[h]
   ·subst h;rw[hjS];simp
   ·have:S i=false:=by
     cases hSi:S i with
     |false=>rfl
     |true=>
      have:=H.before hback hcl i hin (.inl hSi) hic j h hjc;rw[hjS]at this;cases this
    rw[this];simp;omega)
 have htmp:∀t∈o.looksAt ops,(eS S 0 ss e0).get t=(eS (λi=>decide (i<j)) 0 ss e0).get t:=λt ht=>zy4 ss 0 e0 e0 rfl (hsame t ht)
 have hown:∀l:Loc,l.root.cleanR ds=true->(eS S 0 ss e0).ownAt l=(eS (λi=>decide (i<j)) 0 ss e0).ownAt l:=λl hl=>by
  refine zss (λb o hr=>?_) (λt ht=>?_)
  ·rw[hr]at hl;exact hboxN b (by simpa [Root.cleanR]using hl)
  rw[ht]at hl;have hnt:t∉ds:=by simpa [Root.cleanR]using hl
  refine zy4 ss 0 e0 e0 rfl (λi s' hi htouch=>?_)
  obtain⟨_,_,_,_,_,_,_,_,hd,he⟩:=H.get hi;rcases htouch with h1|h1
  ·exact absurd (hd t h1) hnt
  ·exact absurd (he t h1).1 hnt
 have hag:(∀t∈o.looksAt ops,∀b p,(eS S 0 ss e0).get t=.one (.ptr b p)->(eS S 0 ss e0).box b=(eS (λi=>decide (i<j)) 0 ss e0).box b)->Agree ds (eS S 0 ss e0) (eS (λi=>decide (i<j)) 0 ss e0) (o.looksAt ops):=λhb=>
  ⟨hb,hown,htmp,λt _=>hclean S t⟩
 have hops:∀t∈zay q.op,t∈o.looksAt ops:=λt ht=>by
  rw[k2]at ht;exact List.mem_append_left _ ht
 have hcb:zos ops j=valB q.op:=by
  unfold zos;rw[ho,k2]
 have hstep:stpQ P io call ds q (eS S 0 ss e0)=some s:=by
  rw[<-hst]
  have hg:zdr (eS S 0 ss e0) q.g=zdr (eS (λi=>decide (i<j)) 0 ss e0) q.g:=by
   cases hqg:q.g with
   |none=>rfl
   |some p=>
    obtain⟨d,b⟩:=p;simp only[zdr,htmp d (zy6 hqo hqg)]
  have hk:zgg (eS S 0 ss e0) q.dst=zgg (eS (λi=>decide (i<j)) 0 ss e0) q.dst:=by
   cases q.dst with
   |none=>rfl
   |some d=>simp only[zgg,zy3]
  have hfr:zm4 ds (eS S 0 ss e0) q.op=zm4 ds (eS (λi=>decide (i<j)) 0 ss e0) q.op:=by
   have:zg6 ds (eS S 0 ss e0) q.op=zg6 ds (eS (λi=>decide (i<j)) 0 ss e0) q.op:=by
    unfold zg6;rw[Bool.eq_iff_iff,List.all_eq_true,List.all_eq_true];constructor
    ·intro h t ht;have:=h t ht;rw[htmp t (hops t ht)]at this;exact this
    ·intro h t ht;have:=h t ht;rw[htmp t (hops t ht)];exact this
   unfold zm4
   cases ze6 ds with
   |true=>rfl
   |false=>simp only[zpz,this]
  have hwn:valB q.op=false-> ∀e,wrV P io call ds e q.op=none:=λhv e=>by
   cases hw:wrV P io call ds e q.op with
   |none=>rfl
   |some r=>rw[z4z hw]at hv;cases hv
  obtain⟨_,_,_,hca|⟨hgt,hca⟩⟩:=zc7 hst
  ·unfold stpQ;rw[hg,hca.1,hk]
  have hce:za6 P io call ds (eS S 0 ss e0) q.ty q.op=za6 P io call ds (eS (λi=>decide (i<j)) 0 ss e0) q.ty q.op/\wrV P io call ds (eS S 0 ss e0) q.op=wrV P io call ds (eS (λi=>decide (i<j)) 0 ss e0) q.op:=by
   cases hv:valB q.op with
   |true=>
    have hbe:=hboxC (hcb.trans hv);have A:=hag (λt _ b _ _=>hbe b)
    exact⟨A.calm hops,A.wr hbe hops⟩
   |false=>
    refine⟨?_,by rw[hwn hv,hwn hv]⟩
    cases hm:mvB q.op with
    |true=>
     have hmv:∀x,(∀t,x=.tmp t->t∈zay q.op)->zbs P (eS S 0 ss e0) q.ty x=zbs P (eS (λi=>decide (i<j)) 0 ss e0) q.ty x:=λx hx=>znk (λt ht=>htmp t (hops t (hx t ht)))
     cases hop:q.op with
     |move x=>rw[hop]at hmv;exact hmv x (λt e=>by simp[zay,Op.operands,e])
     |assign x=>rw[hop]at hmv;exact hmv x (λt e=>by simp[zay,Op.operands,e])
     |_=>rw[hop]at hm;cases hm
    |false=>
     rcases hca with⟨v,t,_,hf,_⟩|⟨v,b,cs,_,hw,_,_⟩
     ·refine(Agree.calm (ts:=zay q.op) ⟨λt ht b p hp=>?_,hown,λt ht=>htmp t (hops t ht),λt _=>hclean S t⟩ (λt ht=>ht))
      refine hboxN b ?_;unfold zm4 at hf
      cases hnk:ze6 ds with
      |true=>
       cases hc:ds.contains (za8 b)with
       |false=>rfl
       |true=>
        obtain⟨ks,hks,hbig,hsm⟩:=H.dsEq;have hin:za8 b∈ds:=by simpa using hc
        cases ks with
        |nil=>
         rw[hks]at hin;have:=hsm _ hin;unfold za8 at this;omega
        |cons k r=>
         have:=hbig k List.mem_cons_self;rw[hks]at hnk;simp only[List.cons_append,ze6,decide_eq_true_eq]at hnk;omega
      |false=>
       rw[hnk]at hf;simp only[zpz,hv,hm,Bool.false_or]at hf;have:=List.all_eq_true.1 hf t ht;rw[<-htmp t (hops t ht),hp]at this;simpa using this
     ·rw[hwn hv]at hw;cases hw
  unfold stpQ;rw[hg,hgt,hce.1,hce.2];unfold stp1;rw[hk,hfr]
 refine⟨o,q,s,ho,hqo,hstep,?_,hclean S,λd hd=>?_⟩
 ·refine zp3 ss 0 j e0 hs (by rw[Nat.zero_add];exact hjS) (by rw[Nat.zero_add];exact hS') (λm hm=>hSS m (by omega)) (λm s' hm hs' hSm=>?_)
  rw[Nat.zero_add]at hSm;obtain⟨om,qm,hom,_,_,hmn,hdm,_,_,hem⟩:=H.get hs';obtain⟨oj,qj,hoj,_,_,_,hdj,_,_,hej⟩:=H.get hs;obtain rfl:=Option.some.inj (ho.symm.trans hoj);obtain⟨a1,a2,a3⟩:=H.apart hcl hjS hj hrd hmn (by omega) (by rw[hSm];simp;omega) hom ho
  refine⟨λt ht ht' =>?_,λb hb hb' =>?_⟩
  ·refine⟨λh1=>?_,λh1=>?_⟩
   ·rcases ht' with h2|h2
    ·exact a2 t (hdm▸h2) (hdj▸h1)
    ·exact a3 t (hdj▸h1) (zno (hem t h2).2)
   ·rcases ht with h2|h2
    ·exact a2 t (hdm▸h1) (hdj▸h2)
    ·exact a1 t (hdm▸h1) (zno (hej t h2).2)
  ·have:=H.before hback hcl m hmn (.inl hSm) (H.wrote hs' hb').1 j hm (H.wrote hs hb).1;rw[hjS]at this;cases this
 ·have hd':s.dst=some d:=by rw[(zu0 hst).1];exact hd
  obtain⟨_,_,_,_,_,_,_,_,h1,_⟩:=H.get hs;exact h1 d hd'
end
end Go.Qz
namespace Go.Qz
section
variable{P:Program}
def Rd(P:Program){α:Type}(s:Sem α):Prop:=∀w v w',s.run P w=.ok v w' ->w' =w/\ ∀w2,s.run P w2=.ok v w2
theorem Rd.pure{α:Type}(v:α):Rd P (pure v:Sem α):=λw v' w' h=>by
 have h':(Result.ok v w:Result α)=.ok v' w':=h;cases h';exact⟨rfl,λw2=>rfl⟩
theorem Rd.bind{α β:Type}{s:Sem α}{f:α->Sem β}(hs:Rd P s)(hf:∀v,Rd P (f v)):Rd P (s>>=f):=λw v w' h=>by
 rw[Sem.run_bind]at h
 cases hr:s.run P w with
 |ok u w1=>
  rw[hr]at h;obtain⟨rfl,h2⟩:=hs w u w1 hr;have h':(f u).run P w1=.ok v w':=h;obtain⟨h3,h4⟩:=hf u w1 v w' h';refine⟨h3,λw2=>?_⟩
  rw[Sem.run_bind,h2 w2];exact h4 w2
 |halt x w1=>rw[hr]at h;cases h
theorem Rd.never{α:Type}{s:Sem α}(h:∀w v w',s.run P w≠.ok v w'):Rd P s:=λw v w' h' =>absurd h' (h w v w')
theorem Rd.same{α:Type}{s:Sem α}{r:Option α}(h:∀w,(∃v,r=some v/\s.run P w=.ok v w)∨(r=none/\ ∀v w',s.run P w≠.ok v w')):Rd P s:=λw v w' h' =>by
 rcases h w with⟨u,hu,h1⟩|⟨hu,h1⟩
 ·rw[h1]at h';cases h';refine⟨rfl,λw2=>?_⟩
  rcases h w2 with⟨u',hu',h2⟩|⟨hu',h2⟩
  ·rw[hu]at hu';cases hu';exact h2
  ·rw[hu]at hu';cases hu'
 ·exact absurd h' (h1 v w')
theorem zfs{α:Type}(s:String):Rd P (stuck s:Sem α):=.never λw v w' h=>by cases h
theorem zft(t:TypeId):Rd P (underlying t):=by
 cases h:P.underlying t with
 |some d=>exact .same (r:=some d) λw=>.inl ⟨d,rfl,run_underlying h w⟩
 |none=>exact .never λw v w' =>by simp[underlying,h]
theorem zsu(t:TypeId):Rd P (typeInfo t):=by
 cases h:P.info? t with
 |some d=>exact .same (r:=some d) λw=>.inl ⟨d,rfl,by simp[typeInfo,h]⟩
 |none=>exact .never λw v w' =>by simp[typeInfo,h]
theorem zlj(t:TypeId):Rd P (sizeOf t):=.bind (zsu t) λ_=>.pure _
theorem zv7(v:Value):Rd P (asIntOf v):=by
 unfold asIntOf;split
 ·exact .pure _
 ·exact .never λw v w' h=>by cases h
 ·exact zfs _
theorem zy7(v:Value):Rd P (Instr.sureAddr v):=by
 unfold Instr.sureAddr;split
 ·exact .pure _
 ·exact zfs _
theorem zg7{α β:Type}{s:Sem α}{f:α->Sem β}(hf:∀u w v w',(f u).run P w≠.ok v w'):∀w v w',(s>>=f).run P w≠.ok v w':=λw v w' h=>by
 rw[Sem.run_bind]at h
 cases hr:s.run P w with
 |ok u w1=>rw[hr]at h;exact hf u w1 v w' h
 |halt x w1=>rw[hr]at h;cases h
theorem zlk{α:Type}(e:RuntimeError):∀w v w',(runtimePanic e:Sem α).run P w≠.ok v w':=by
 unfold runtimePanic;refine zg7 λp=>?_
 intro w v w' h;dsimp only at h;split at h<;>first|cases h|exact zg7 (λ_=>zg7 (λ_ w v w' h=>by cases h)) _ _ _ h
theorem zkv(v:Value)(n:Nat)(k:BoundsCode):Rd P (Instr.sliceBound v n k):=by
 unfold Instr.sliceBound;refine .bind (zv7 v) λx=>?_
 obtain⟨kk,i⟩:=x;dsimp only;split
 ·exact .pure _
 ·refine .never ?_;unfold boundsPanic;dsimp only;split<;>exact zg7 λ_=>zlk _
theorem zgj(b:Bool)(n c:Nat)(lo hi mx:Option Value):Rd P (Instr.sliceBounds b n c lo hi mx):=by
 unfold Instr.sliceBounds;dsimp only
 have hl:∀(m h:Nat) (k:BoundsCode),Rd P (match lo with
  |some v=>(do
   let l <-Instr.sliceBound v h k
   Pure.pure (l,h,m))
  |none=>(do
   let l <-Pure.pure 0
   Pure.pure (l,h,m)):Sem (Nat×Nat×Nat)):=λm h k=>by
  split
  ·exact .bind (zkv _ _ _) λ_=>.pure _
  ·exact .bind (.pure _) λ_=>.pure _
 cases mx with
 |none=>
  refine .bind (.pure _) λm=>?_
  cases hi with
  |none=>exact .bind (.pure _) λh=>hl m h _
  |some v=>exact .bind (zkv _ _ _) λh=>hl m h _
 |some mv=>
  refine .bind (zkv _ _ _) λm=>?_
  cases hi with
  |none=>exact .bind (zfs _) λh=>hl m h _
  |some v=>exact .bind (zkv _ _ _) λh=>hl m h _
theorem z2y(t:TypeId)(x:Value)(lo hi mx:Option Value):Rd P (Instr.slice t x lo hi mx):=by
 unfold Instr.slice;refine .bind (zft t) λd=>?_
 split
 ·split
  ·exact .bind (zfs _) λ_=>.bind (zgj _ _ _ _ _ _) λ_=>.pure _
  ·exact .bind (zgj _ _ _ _ _ _) λ_=>.pure _
 ·exact .bind (zgj _ _ _ _ _ _) λ_=>.bind (zlj _) λ_=>.pure _
 ·refine .bind ?_ λ_=>.bind (zft _) λd=>?_
  ·unfold asAddr;split
   ·exact .pure _
   ·exact .never (zlk _)
   ·exact zfs _
  ·split
   ·exact .bind (zgj _ _ _ _ _ _) λ_=>.bind (zlj _) λ_=>.pure _
   ·exact zfs _
 ·exact zfs _
theorem zv8(t:TypeId)(x:Value)(lo hi mx:Option Value):Rd P (Instr.sliceAt t x lo hi mx):=by
 unfold Instr.sliceAt;refine .bind (zft t) λd=>?_
 split
 ·exact .bind (zy7 _) λ_=>.bind (zgj _ _ _ _ _ _) λ_=>.bind (zlj _) λ_=>.pure _
 ·exact z2y _ _ _ _ _
def zgk:Op->Bool
 | .move (.tmp _)=>true
 | .slice _ (.tmp _) _ _ _=>true
 |_=>false
theorem zy8{o:Oper}(h:zgk o.op=true)(ρ:Operand->Value):∀(w w':World) (n:Next),(execOp ρ o).run P w=.ok n w' ->w' =w/\ ∃v,n=.value v/\ ∀w2,(execOp ρ o).run P w2=.ok (.value v) w2:=by
 intro w w' n hr;unfold zgk at h;split at h
 ·rename_i s hs;unfold execOp at hr ⊢;rw[hs]at hr ⊢;have hr':(Result.ok (Next.value (ρ (.tmp s))) w:Result Next)=.ok n w':=hr;cases hr';exact⟨rfl,_,rfl,λw2=>rfl⟩
 ·rename_i t x lo hi mx hs;unfold execOp at hr ⊢;rw[hs]at hr ⊢;have hrd:=zv8 (P:=P) t (ρ (.tmp x)) (lo.map ρ) (hi.map ρ) (mx.map ρ);dsimp only at hr ⊢;rw[Sem.run_bind]at hr
  cases hv:(Instr.sliceAt t (ρ (.tmp x)) (lo.map ρ) (hi.map ρ) (mx.map ρ)).run P w with
  |ok v w1=>
   rw[hv]at hr;obtain⟨rfl,h2⟩:=hrd w v w1 hv;have hr':(Result.ok (Next.value v) w1:Result Next)=.ok n w':=hr;cases hr';refine⟨rfl,v,rfl,λw2=>?_⟩
   rw[Sem.run_bind,h2 w2];rfl
  |halt x w1=>rw[hv]at hr;cases hr
 ·cases h
end
theorem znp{ops:Array Oper}{i:Nat}{oi:Oper}(h:zyz ops i oi=true):∀j oj,ops[j]? =some oj->j≠i->zcx ops j i=false->zcx ops i j=false->oi.apart ops oj=true:=λj oj hoj hne hw hw2=>by
 have:=List.all_eq_true.1 h j (List.mem_range.2 (Array.getElem?_eq_some_iff.1 hoj).1);simp only[Bool.or_eq_true,beq_iff_eq,hne,hw,hw2,false_or,hoj,Bool.false_eq_true]at this;exact this
theorem zll{ops:Array Oper}{i:Nat}(h:zds ops i=true):∃oi,ops[i]? =some oi/\zgk oi.op=true/\oi.guard=none/\(∀e∈oi.after,Region.binds .any e=true->zor ops e.on=true/\e.on<i)/\Region.noSelect ops=true/\
 ∀j oj,ops[j]? =some oj->j≠i->zcx ops j i=false->zcx ops i j=false->oi.apart ops oj=true:=by
 unfold zds at h;rw[Bool.or_eq_true]at h;rcases h with h|h
 ·unfold zor at h;simp only[Bool.and_eq_true]at h;obtain⟨h0,h⟩:=h;split at h
  ·rename_i oi hoi;simp only[Bool.and_eq_true]at h;obtain⟨⟨⟨h1,h2⟩,h3⟩,h4⟩:=h;refine⟨oi,hoi,?_,by simpa using h1,λe he hb=>?_,h0,znp h4⟩
   ·unfold zgk;split at h3
    ·rename_i hs;rw[hs]
    ·cases h3
   ·have:=Array.all_eq_true_iff_forall_mem.1 h2 e he;rw[hb]at this;cases this
  ·cases h
 ·simp only[Bool.and_eq_true]at h;obtain⟨h0,h⟩:=h;split at h
  ·rename_i oi hoi;simp only[Bool.and_eq_true]at h;obtain⟨⟨⟨h1,h2⟩,h3⟩,h4⟩:=h;refine⟨oi,hoi,?_,by simpa using h1,λe he hb=>?_,h0,znp h4⟩
   ·unfold zgk;split at h3
    ·rename_i hs;rw[hs]
    ·cases h3
   ·have:=Array.all_eq_true_iff_forall_mem.1 h2 e he;rw[hb]at this;simpa using this
  ·cases h
theorem zy9{ops:Array Oper}{i:Nat}(h:zor ops i=true):∃oi,ops[i]? =some oi/\ ∀e∈oi.after,Region.binds .any e=true->False:=by
 unfold zor at h;simp only[Bool.and_eq_true]at h;obtain⟨h0,h⟩:=h;split at h
 ·rename_i oi hoi;simp only[Bool.and_eq_true]at h;refine⟨oi,hoi,λe he hb=>?_⟩
  have:=Array.all_eq_true_iff_forall_mem.1 h.1.1.2 e he;rw[hb]at this;cases this
 ·cases h
theorem zv9{ops:Array Oper}{i:Nat}(h:zor ops i=true):zds ops i=true:=by unfold zds;rw[h];rfl
def Norm(Q:Exit->Act->World->Prop)(x:Exit)(a:Act)(w:World):Prop:=x=.normal/\Q x a w
section
variable{P:Program}{ops:Array Oper}{Q:Exit->Act->World->Prop}
theorem zed:¬LetsOut (Norm Q):=λ⟨_,_,h,_⟩=>by cases h
theorem z5k{o:Oper}{a:Act}{w:World}{K:Act->World->Prop}(h:o.wp P a w K (Norm Q)):o.wp P a w K Q:=by
 unfold Oper.wp at *;generalize (execOp a.eval o).run P w=r at *
 cases r with
 |ok n w' =>
  cases n<;>simp only[Oper.upon]at h ⊢ <;>
   first
    |exact h
    |exact Calls.mono h (λe w'' he=>by
     cases e with
     |returned v=>exact he
     |panicked c=>cases he.1
     |outgrown=>exact(zed he).elim)
 |halt x w' =>cases x<;>simp only[Oper.upon]at h ⊢ <;>first|exact h|cases h.1
theorem zza{i:Nat}{a:Act}{w:World}{K:Act->World->Prop}(h:wpOp P ops (Norm Q) i K a w):wpOp P ops Q i K a w:=by
 unfold wpOp at *;split
 ·simpa [*]using h
 ·rename_i o ho;simp only[ho]at h;split
  ·rename_i hw;simp only[hw,if_true]at h;exact .inl (z5k (h.resolve_right (λhh=>zed hh.2)))
  ·rename_i hw;simpa only[hw,Bool.false_eq_true,if_false]using h
theorem znq{md:Region.Mode}:∀(fuel:Nat) (listed:Array Bool) (a:Act) (w:World),wpAny P md ops (Norm Q) fuel listed a w->wpAny P md ops Q fuel listed a w
 |0,_,_,_,h=>⟨h.1,h.2.2⟩
 |fuel+1,_,_,_,h=>⟨λh0=>(h.1 h0).2,λi hi=>zza (wpOp_mono (λa w hh=>znq fuel _ a w hh) (h.2 i hi))⟩
theorem z2z{j:Nat}{oi oj:Oper}{v:Value}(hj:ops[j]? =some oj)(hap:oi.apart ops oj=true)(hop:zgk oi.op=true)
 (hsj:∀cs b,oj.op≠.select cs b) {K:Act->World->Prop} {a:Act} {w:World} (hv:∀w2,(execOp a.eval oi).run P w2=.ok (.value v) w2) (h:wpOp P ops (Norm Q) j K (a.put oi.dst v) w):
 wpOp P ops (Norm Q) j (λa' w' =>(∀w2,(execOp a'.eval oi).run P w2=.ok (.value v) w2)/\K (a'.put oi.dst v) w') a w:=by
 obtain⟨h1,h2,h3⟩:=Oper.apart_spec hap;have hsi:∀cs b,oi.op≠.select cs b:=λcs b e=>by rw[e]at hop;cases hop
 have keep:∀(a:Act) (u:Value),(∀w2,(execOp a.eval oi).run P w2=.ok (.value v) w2)-> ∀w2,(execOp (a.put oj.dst u).eval oi).run P w2=.ok (.value v) w2:=λa u hv w2=>by
  rw[execOp_put oi hsi a oj.dst u h3];exact hv w2
 unfold wpOp at *;simp only[hj]at *;rw[wanted_put oj a oi.dst v h1]at h;split
 ·rename_i hw;simp only[hw,if_true]at h;have h:=h.resolve_right (λhh=>zed hh.2)
  refine .inl ?_;unfold Oper.wp at *;rw[execOp_put oj hsj a oi.dst v h1]at h;generalize (execOp a.eval oj).run P w=r at *
  cases r with
  |ok n w' =>
   cases n<;>simp only[Oper.upon]at h ⊢
   case value u=>exact⟨keep a u hv,by rw[<-Act.put_comm a v u h2];exact h⟩
   case skip=>exact⟨keep a _ hv,by rw[<-Act.put_comm a v undef h2];exact h⟩
   case defer d=>
    refine⟨keep {a with defers:=d::a.defers} _ hv,?_⟩
    rw[<-Act.put_comm {a with defers:=d::a.defers} v undef h2]
    have:({a.put oi.dst v with defers:=d::(a.put oi.dst v).defers}:Act)=({a with defers:=d::a.defers}:Act).put oi.dst v:=by
     cases oi.dst<;>rfl
    rw[<-this];exact h
   case enter f args=>
    refine Calls.mono h (λe w'' he=>?_)
    cases e with
    |returned u=>
     have he:K ((a.put oi.dst v).put oj.dst u) w'':=he;exact⟨keep a u hv,by rw[<-Act.put_comm a v u h2];exact he⟩
    |panicked c=>cases he.1
    |outgrown=>exact(zed he).elim
   case row r args=>exact Rows.mono h (λu w'' he=>⟨keep a u hv,by rw[<-Act.put_comm a v u h2];exact he⟩)
  |halt x w' =>cases x<;>simp only[Oper.upon]at h ⊢ <;>first|exact h|cases h.1
 ·rename_i hw;simp only[hw]at h;exact⟨keep a _ hv,by rw[<-Act.put_comm a v undef h2];exact h⟩
theorem zp4{i:Nat}{oi:Oper}{v:Value}(hi:ops[i]? =some oi)(hop:zgk oi.op=true)(hgd:oi.guard=none)(hsel:∀(j:Nat) (o:Oper) cs b,ops[j]? =some o->o.op≠.select cs b)
 (hfree:∀j oj,ops[j]? =some oj->j≠i->zcx ops j i=false->zcx ops i j=false->oi.apart ops oj=true):∀(fuel:Nat) (listed:Array Bool) (a:Act) (w:World),
  i∈Region.ready .any ops listed->(∀w2,(execOp a.eval oi).run P w2=.ok (.value v) w2)->wpAny P .any ops (Norm Q) fuel (listed.setIfInBounds i true) (a.put oi.dst v) w->wpAny P .any ops (Norm Q) (fuel+1) listed a w:=by
 have hself:∀(K:Act->World->Prop) (a:Act) (w:World),(∀w2,(execOp a.eval oi).run P w2=.ok (.value v) w2)->K (a.put oi.dst v) w->wpOp P ops (Norm Q) i K a w:=by
  intro K a w hx h;unfold wpOp;simp only[hi];have hw:Region.wanted oi (yielded ops a.tmps)=true:=by unfold Region.wanted;rw[hgd]
  rw[if_pos hw];refine .inl ?_;unfold Oper.wp;rw[hx w];exact h
 intro fuel
 induction fuel with
 |zero=>
  intro listed a w hr hx H;refine⟨λh=>(by rw[h]at hr;cases hr),λj hj=>?_⟩
  by_cases hji:j=i
  ·subst hji;exact hself _ _ _ hx H
  ·have:=ready_mono hj hji;rw[H.1]at this;cases this
 |succ fuel ih=>
  intro listed a w hr hx H;refine⟨λh=>(by rw[h]at hr;cases hr),λj hj=>?_⟩
  by_cases hji:j=i
  ·subst hji;exact hself _ _ _ hx H
  ·have h1:=H.2 j (ready_mono hj hji);obtain⟨hjun,oj,hoj,hall⟩:=mem_ready.1 hj
   have hnot:zcx ops j i=false:=by
    cases hw:zcx ops j i with
    |false=>rfl
    |true=>
     exfalso;obtain⟨o',ho',e,he,hb,hon⟩:=Region.waitsFor_spec hw;obtain rfl:=Option.some.inj (hoj.symm.trans ho');have h2:=hall e he hb;rw[hon,getD_both (mem_ready.1 hr).1]at h2;cases h2
   have hnot2:zcx ops i j=false:=by
    cases hw:zcx ops i j with
    |false=>rfl
    |true=>
     exfalso;obtain⟨o',ho',e,he,hb,hon⟩:=Region.waitsFor_spec hw;obtain⟨_,o2,ho2,hall2⟩:=mem_ready.1 hr;obtain rfl:=Option.some.inj (ho2.symm.trans ho');have h2:=hall2 e he hb;rw[hon,getD_both hjun]at h2;cases h2
   have h2:=z2z hoj (hfree j oj hoj hji hnot hnot2) hop (λcs b=>hsel j oj cs b hoj) hx h1
   refine wpOp_mono (λa' w' h3=>ih (listed.setIfInBounds j true) a' w' (ready_mono hr (Ne.symm hji)) h3.1 ?_) h2
   rw[Array.setIfInBounds_comm _ _ hji];exact h3.2
theorem zsv{i:Nat}{oi:Oper}(hi:ops[i]? =some oi)(hop:zgk oi.op=true)(hgd:oi.guard=none)(hsel:∀(j:Nat) (o:Oper) cs b,ops[j]? =some o->o.op≠.select cs b)
 (hfree:∀j oj,ops[j]? =some oj->j≠i->zcx ops j i=false->zcx ops i j=false->oi.apart ops oj=true) {fuel:Nat} {listed:Array Bool} {a:Act} {w:World} (hr:i∈Region.ready .any ops listed)
 (h:wpOp P ops (Norm Q) i (wpAny P .any ops (Norm Q) fuel (listed.setIfInBounds i true)) a w):wpAny P .any ops (Norm Q) (fuel+1) listed a w:=by
 unfold wpOp at h;simp only[hi]at h;have hw:Region.wanted oi (yielded ops a.tmps)=true:=by unfold Region.wanted;rw[hgd]
 rw[if_pos hw]at h;have h:=h.resolve_right (λhh=>zed hh.2)
 unfold Oper.wp at h
 cases hx:(execOp a.eval oi).run P w with
 |ok n w' =>
  obtain⟨rfl,v,rfl,h2⟩:=zy8 hop a.eval w w' n hx;rw[hx]at h;exact zp4 hi hop hgd hsel hfree fuel listed a w' hr h2 h
 |halt x w' =>
  rw[hx]at h;cases x<;>simp only[Oper.upon]at h<;>cases h.1
end
theorem zsw{ops:Array Oper}{n:Nat}{listed:Array Bool}(hs:∀i,i<n->zds ops i=true∨ ∃j,j<n+1/\i<j/\zcx ops j i=true)(hc:Region.chainB .any ops n=true)(hn:n<ops.size)(inv:HeadInv .any ops n listed)
 (hfl:∀i,i<n->zds ops i=true->listed.getD i false=true):
 ∀(d i:Nat),n-i=d->i<n->listed.getD i true=false-> ∀t,n<=t->t∉Region.ready .any ops listed:=by
 intro d
 induction d using Nat.strongRecOn with
 |_ d ih=>
  intro i hd hi hun t ht hr;obtain⟨_,ot,hot,hall⟩:=mem_ready.1 hr;have htlt:t<ops.size:=(Array.getElem?_eq_some_iff.1 hot).1;by_cases htn:t=n
  ·subst htn;rcases hs i hi with h1|⟨j,hj,hj2,hj3⟩
   ·have:=hfl i hi h1;rw[getD_both hun]at this;cases this
   obtain⟨oj,hoj,e,he,hb,hon⟩:=Region.waitsFor_spec hj3;by_cases hjt:j=t
   ·subst hjt;have:oj=ot:=Option.some.inj (hoj.symm.trans hot);subst this;have h2:=hall e he hb;rw[hon,getD_both hun]at h2;cases h2
   ·cases hl:listed.getD j false with
    |true=>
     have h2:=inv.closed j oj hoj hl e he hb;rw[hon,getD_both hun]at h2;cases h2
    |false=>
     have hjs:j<listed.size:=by rw[inv.size];omega
     exact ih (t-j) (by omega) j rfl (by omega) (getD_in hjs hl) t (Nat.le_refl _) hr
  ·have h1:=List.all_eq_true.1 hc t (List.mem_range.2 htlt);simp only[Bool.or_eq_true,decide_eq_true_eq]at h1;rcases h1 with h1|h1
   ·omega
   ·obtain⟨o',ho',e,he,hb,hon⟩:=Region.waitsFor_spec h1;have:o' =ot:=Option.some.inj (ho'.symm.trans hot);subst this;have h2:=hall e he hb;rw[hon,getD_both (inv.tail (t-1) (by omega) (by omega))]at h2
    cases h2
end Go.Qz
namespace Go.Qz
theorem zis{α β:Type}{f:α->Option β}:∀{l:List α},(∀x∈l,(f x).isSome=true)->(l.filterMap f).length=l.length/\ ∀k:Nat,(l.filterMap f)[k]? =(l[k]?).bind f
 | [],_=>⟨rfl,λk=>by simp⟩
 |x::l,h=>by
  obtain⟨y,hy⟩:=Option.isSome_iff_exists.1 (h x (by simp))
  obtain⟨h1,h2⟩:=zis (l:=l) (λz hz=>h z (by simp[hz]))
  rw[List.filterMap_cons_some hy];refine⟨by simp[h1],λk=>?_⟩
  cases k with
  |zero=>simp[hy]
  |succ k=>simpa using h2 k
structure Perm(l:List Nat)(N:Nat):Prop where
 len:l.length=N
 nodup:l.Nodup
 lt:∀i∈l,i<N
 all:∀i,i<N->i∈l
theorem zwa(ops:Array Oper):Perm (z2u ops) ops.size:=by
 have h:=List.filter_append_perm (zds ops) (List.range ops.size);have e:z2u ops=(List.range ops.size).filter (zds ops)++(List.range ops.size).filter (λi=> !zds ops i):=rfl
 refine⟨?_,?_,λi hi=>?_,λi hi=>?_⟩
 ·rw[e,h.length_eq,List.length_range]
 ·rw[e,h.nodup_iff];exact List.nodup_range
 ·rw[e]at hi;exact List.mem_range.1 (h.mem_iff.1 hi)
 ·rw[e];exact h.mem_iff.2 (List.mem_range.2 hi)
section
variable{P:Program}{ops:Array Oper}{Q:Exit->Act->World->Prop}{l:List Nat}
theorem zg8(hl:Perm l ops.size):(zdg ops l).size=ops.size/\ ∀(k i:Nat),l[k]? =some i-> ∃o,ops[i]? =some o/\(zdg ops l)[k]? =some (zy0 (λj=>l.idxOf j) o):=by
 have hall:∀i∈l,((ops[i]?).map (zy0 λj=>l.idxOf j)).isSome=true:=λi hi=>by
  rw[Array.getElem?_eq_getElem (hl.lt i hi)];rfl
 obtain⟨h1,h2⟩:=zis hall;refine⟨by show (l.filterMap _).toArray.size=_;rw[List.size_toArray,h1,hl.len],λk i hk=>?_⟩
 have hi:=hl.lt i (List.mem_of_getElem? hk);refine⟨ops[i],Array.getElem?_eq_getElem hi,?_⟩;show (l.filterMap _).toArray[k]? =_;rw[List.getElem?_toArray,h2 k,hk,Option.bind_some,Array.getElem?_eq_getElem hi];rfl
theorem zkw(hl:Perm l ops.size){i:Nat}(hi:i<ops.size):l.idxOf i<ops.size/\l[l.idxOf i]? =some i:=by
 have hm:=hl.all i hi;have hlt:=List.idxOf_lt_length_of_mem hm;refine⟨by rw[<-hl.len];exact hlt,?_⟩
 rw[List.getElem?_eq_getElem hlt,List.getElem_idxOf hlt]
theorem zu2(hl:Perm l ops.size){i:Nat}(hi:¬i<ops.size):l.idxOf i=ops.size:=by
 rw[List.idxOf_eq_length (λhm=>hi (hl.lt i hm)),hl.len]
theorem zzb(hl:Perm l ops.size){k i:Nat}(hk:l[k]? =some i):l.idxOf i=k:=by
 obtain⟨hlt,rfl⟩:=List.getElem?_eq_some_iff.1 hk;exact hl.nodup.idxOf_getElem k hlt
structure Same(ops:Array Oper)(l:List Nat)(listed listed':Array Bool):Prop where
 s1:listed.size=ops.size
 s2:listed'.size=ops.size
 get:∀i b,listed'.getD (l.idxOf i) b=listed.getD i b
theorem zjn(hl:Perm l ops.size){listed listed':Array Bool}(h:Same ops l listed listed'){k i:Nat}(hk:l[k]? =some i):k∈Region.ready .any (zdg ops l) listed' ↔i∈Region.ready .any ops listed:=by
 obtain⟨o,ho,ho'⟩:=(zg8 hl).2 k i hk;have hi:=zzb hl hk;rw[mem_ready,mem_ready];have e1:listed'.getD k true=listed.getD i true:=by rw[<-hi];exact h.get i true
 rw[e1,ho,ho'];constructor
 ·rintro⟨h1,o2,e2,h2⟩;cases e2;refine⟨h1,o,rfl,λe he hb=>?_⟩
  have:=h2 {e with on:=l.idxOf e.on} (Array.mem_map.2 ⟨e,he,rfl⟩) hb
  rw[h.get e.on false]at this;exact this
 ·rintro⟨h1,o2,e2,h2⟩;cases e2;refine⟨h1,_,rfl,λe he hb=>?_⟩
  obtain⟨e0,he0,rfl⟩:=Array.mem_map.1 he;show listed'.getD (l.idxOf e0.on) false=true;rw[h.get e0.on false];exact h2 e0 he0 hb
theorem z22(hl:Perm l ops.size){listed listed':Array Bool}(h:Same ops l listed listed'){k i:Nat}(hk:l[k]? =some i):Same ops l (listed.setIfInBounds i true) (listed'.setIfInBounds k true):=by
 have hi:=zzb hl hk;have hin:=hl.lt i (List.mem_of_getElem? hk);refine⟨by simp[h.s1],by simp[h.s2],λj b=>?_⟩
 by_cases hji:j=i
 ·subst hji
  have hkn:k<listed'.size:=by
   rw[h.s2,<-hl.len];exact(List.getElem?_eq_some_iff.1 hk).1
  have hjn:j<listed.size:=by rw[h.s1];exact hin
  rw[hi];simp[hkn,hjn]
 ·have hne:l.idxOf j≠k:=by
   intro e;by_cases hj:j<ops.size
   ·obtain⟨_,h2⟩:=zkw hl hj;rw[e,hk]at h2;exact hji (Option.some.inj h2).symm
   ·rw[zu2 hl hj]at e;have:=(List.getElem?_eq_some_iff.1 hk).1;rw[hl.len]at this;omega
  rw[getD_set_ne b (Ne.symm hne),getD_set_ne b (Ne.symm hji)];exact h.get j b
theorem z23(_:Nat->Nat)(hl:Perm l ops.size)(hg:∀(i:Nat) o,ops[i]? =some o->o.guard=none){k i:Nat}(hk:l[k]? =some i){K:Act->World->Prop}{a:Act}{w:World}(h:wpOp P (zdg ops l) Q k K a w):wpOp P ops Q i K a w:=by
 obtain⟨o,ho,ho'⟩:=(zg8 hl).2 k i hk;unfold wpOp at *;rw[ho']at h;simp only[ho];simp only at h;have w1:Region.wanted (zy0 (λj=>l.idxOf j) o) (yielded (zdg ops l) a.tmps)=true:=by unfold Region.wanted zy0;simp only[hg i o ho]
 have w2:Region.wanted o (yielded ops a.tmps)=true:=by unfold Region.wanted;rw[hg i o ho]
 rw[if_pos w1]at h;rw[if_pos w2];exact h
theorem zwb(hl:Perm l ops.size)(hg:∀(i:Nat) o,ops[i]? =some o->o.guard=none):∀(fuel:Nat) (listed listed':Array Bool) (a:Act) (w:World),Same ops l listed listed' ->
 wpAny P .any (zdg ops l) Q fuel listed' a w->wpAny P .any ops Q fuel listed a w:=by
 have hnil:∀{listed listed':Array Bool},Same ops l listed listed' ->(Region.ready .any (zdg ops l) listed' =[]↔Region.ready .any ops listed=[]):=by
  intro listed listed' h;constructor
  ·intro h0;rw[List.eq_nil_iff_forall_not_mem];intro i hi;obtain⟨_,o,ho,_⟩:=mem_ready.1 hi;obtain⟨_,h2⟩:=zkw hl (Array.getElem?_eq_some_iff.1 ho).1;have:=(zjn hl h h2).2 hi;rw[h0]at this;cases this
  ·intro h0;rw[List.eq_nil_iff_forall_not_mem];intro k hk;obtain⟨_,o,ho,_⟩:=mem_ready.1 hk;have hklt:=(Array.getElem?_eq_some_iff.1 ho).1;rw[(zg8 hl).1,<-hl.len]at hklt;have:=(zjn hl h (List.getElem?_eq_getElem hklt)).1 hk;rw[h0]at this;cases this
 intro fuel
 induction fuel with
 |zero=>
  intro listed listed' a w h H;exact⟨(hnil h).1 H.1,H.2⟩
 |succ fuel ih=>
  intro listed listed' a w h H;refine⟨λh0=>H.1 ((hnil h).2 h0),λi hi=>?_⟩
  obtain⟨_,o,ho,_⟩:=mem_ready.1 hi;obtain⟨_,h2⟩:=zkw hl (Array.getElem?_eq_some_iff.1 ho).1;exact z23 (λj=>j) hl hg h2 (wpOp_mono (λa' w' hh=>ih _ _ a' w' (z22 hl h h2) hh) (H.2 _ ((zjn hl h h2).2 hi)))
theorem zwc(hl:Perm l ops.size):Same ops l (Array.replicate ops.size false) (Array.replicate (zdg ops l).size false):=by
 refine⟨by simp,by simp[(zg8 hl).1],λi b=>?_⟩
 rw[(zg8 hl).1];by_cases hi:i<ops.size
 ·obtain⟨h1,_⟩:=zkw hl hi;simp[hi,h1]
 ·rw[zu2 hl hi];simp[hi]
theorem zlm{a:Act}{w:World}(h:wpAny P .any (zdn ops) Q (zdn ops).size (Array.replicate (zdn ops).size false) a w):wpAny P .any ops Q ops.size (Array.replicate ops.size false) a w:=by
 unfold zdn at h;split at h
 ·rename_i hc;unfold znn at hc;simp only[Bool.and_eq_true]at hc;have hl:=zwa ops
  have hg:∀(i:Nat) o,ops[i]? =some o->o.guard=none:=λi o ho=>by
   have:=Array.all_eq_true_iff_forall_mem.1 hc.1 o (Array.mem_of_getElem? ho);simpa using this
  have hsz:=(zg8 hl).1;have:=zwb hl hg (zdg ops (z2u ops)).size _ _ a _ (zwc hl) h;rw[hsz]at this;exact this
 ·exact h
theorem zwd{id:Nat}{a:Act}{w:World}(hm:P.follows .mixedOrders=true)(h:wpAny P .any (zdn ops) Q (zdn ops).size (Array.replicate (zdn ops).size false) a {w with drawn:=w.drawn+1}):(Code.region id ops true).wp P Q a w:=wp_region_any hm (zlm h)
end
end Go.Qz
