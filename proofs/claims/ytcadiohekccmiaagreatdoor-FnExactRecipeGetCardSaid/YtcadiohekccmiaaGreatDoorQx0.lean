import Derived.Test.YtcadiohekccmiaaGreatDoorQr0
import Derived.Test.YtcadiohekccmiaaGreatDoorQw0
import Derived.Test.YtcadiohekccmiaaGreatDoorQp0
namespace Go.Qz
open Go.Proofs
@[simp] def coldS:List FuncId:=[
  11,
  14,
  ]
@[simp] def spreadS:List FuncId:=[
  22
  ]
@[simp] def ioS:FuncId->List Nat:=λf=>
  if coldS.contains f then [999]else
  if f=22 then [999,995,8,29,2,56,3,57,4,57,5,58,6,59,7,23]else
  if f=166 then [998]else
  if f=34 then [999]else
  if f=224 then [997]else
  if f=214 then [997]else
  if f=216 then [997]else
  if f=197 then [997]else
  if f=68 then [0]else
  if f=23 then [0]else
  if f=57 then [0]else
  if f=22 then [0]else
  if f=56 then [0]else
  if f=58 then [0]else
  if f=59 then [0]else
  []
theorem zrg{p:Prop}[Decidable p]{a b:List Nat}{n:Nat}(ha:a.contains n=false)(hb:b.contains n=false):(if p then a else b).contains n=false:=by
 split
 ·exact ha
 ·exact hb
set_option maxHeartbeats 4000000 in
@[simp] theorem yfx(f:FuncId):zfn ioS f=(decide (f=34)||(coldS.contains f||spreadS.contains f)):=by
  unfold zfn ioS
  cases hc:coldS.contains f with
  |true=>rw[if_pos rfl,Bool.true_or,Bool.or_true];rfl
  |false=>
   by_cases h2:f=22
   ·subst h2;rfl
   by_cases h:f=34
   ·subst h;rfl
   ·
    have hs:spreadS.contains f=false:=by simp[h2]
    rw[hs];rw[if_neg (by simp),if_neg h2]
    simp only[h,if_false,decide_false,Bool.false_eq_true,Bool.or_false]
    repeat refine zrg rfl ?_
    rfl
set_option maxHeartbeats 4000000 in
@[simp] theorem yau(f:FuncId):zm9 ioS f=decide (f=166):=by
  unfold zm9 ioS;by_cases h:f=166
  ·subst h;rfl
  ·generalize coldS.contains f=c;simp only[h,if_false,decide_false]
   repeat refine zrg rfl ?_
   rfl
set_option maxHeartbeats 4000000 in
@[simp] theorem yfy(f:FuncId):z2e ioS f=(decide (f=224)||(decide (f=214)||(decide (f=216)||decide (f=197)))):=by
  unfold z2e ioS;by_cases h1:f=224
  ·subst h1;rfl
  by_cases h2:f=214
  ·subst h2;rfl
  by_cases h3:f=216
  ·subst h3;rfl
  by_cases h4:f=197
  ·subst h4;rfl
  generalize coldS.contains f=c;simp only[h1,h2,h3,h4,if_false,decide_false,Bool.or_false]
  repeat refine zrg rfl ?_
  rfl
def yb8:zal:=λf us bx=>if f=34 then(match us,bx with
    | [.ro (.sl z xs)],[]=>if z=1 then some (.agg [.ro (.sl 1 (xs.take 2000)),.ro (.int .i64 0)],[])else none
    |_,_=>none)else none
def zhh:zal:=λf us bx=>if f=151 then(match us,bx with
    | [.ro (.sl z [])],[]=>if z=1 then some (.one (.own (.sl 1 [])),[])else none
    |_,_=>none)else none
def zll:zal:=λf us bx=>if f=156 then(match us,bx with
    | [.ro .nili],[]=>some (.one (.ro (.int .i64 0)),[])
    | [.ro (.iface t (.agg [.int k c]))],[]=>if t=195&&k=.i64 then some (.one (.ro (.int .i64 c)),[])else none
    |_,_=>none)else none
def XS:zal:=
 orX (zff 168) (
 orX (zkr 209) (
 orX zll (
 orX zhh (
 orX (xSeq 70 166) (
 orX (xCut 137) (
 orX (zrf 131 86) (
 orX (zxc 66 5) (
 orX (z1b 64) (
 orX (xAny 170) (
 orX yb8 (
 noX
 )
 )
 )
 )
 )
 )
 )
 )
 )
 )
 )
noncomputable abbrev C:zal:=zc3 Tryz.prog ioS XS
noncomputable abbrev cx:Ctx:=⟨Tryz.prog,ioS,C⟩
theorem z5b(s t:List UInt8)(h:s.length<4294967281):C 168 [.ro (.str ⟨s.toArray⟩),.ro (.str ⟨t.toArray⟩)] []=some (.one (.ro (.int .i64 (Lib.index s t))),[]):=zca (by simp[XS,orX,zff,h])
theorem z8n(s:List UInt8)(c:UInt8):C 209 [.ro (.str ⟨s.toArray⟩),.ro (.int .u8 c.toNat)] []=some (.one (.ro (.int .i64 (Lib.indexByte s c))),[]):=zca (by simp[XS,orX,zff,zkr])
theorem z5c:C 151 [.ro (.sl 1 [])] []=some (.one (.own (.sl 1 [])),[]):=zca (by simp[XS,orX,zff,zkr,zll,zhh])
theorem z8o(c:Int):C 156 [.ro (.iface 195 (.agg [.int .i64 c]))] []=some (.one (.ro (.int .i64 c)),[]):=zca (by simp[XS,orX,zff,zkr,zll])
theorem zxg(s p:ByteArray):C 70 [.ro (.str s),.ro (.str p)] []=some (.one (.own (.seq 166 s p)),[]):=zca (by simp[XS,orX,zff,zkr,zll,zhh,xSeq])
theorem z5d(s t:List UInt8)(h:s.length<4294967281):C 137 [.ro (.str ⟨s.toArray⟩),.ro (.str ⟨t.toArray⟩)] []=some (.tup [.ro (.str ⟨(Lib.cut s t).1.toArray⟩),.ro (.str ⟨(Lib.cut s t).2.1.toArray⟩),.ro (.bool (Lib.cut s t).2.2)],[]):=zca (by simp[XS,orX,zff,zkr,zll,zhh,xSeq,xCut,h])
theorem z1d(n:Nat)(a1:A)(hn:n<10000):C 131 [.ptr n 0] [(n,[.bnil 86,a1])]=some (.tup [],[(n,[.selfp,a1])]):=zca (by simp[XS,orX,zff,zkr,zll,zhh,xSeq,xCut,zrf,zaf,hn])
theorem zxh(n:Nat)(a1:A)(hn:n<10000):C 131 [.ptr n 0] [(n,[.selfp,a1])]=some (.tup [],[(n,[.selfp,a1])]):=zca (by simp[XS,orX,zff,zkr,zll,zhh,xSeq,xCut,zrf,zaf,hn])
theorem z5e(n:Nat)(a0:A)(s:ByteArray)(hn:n<10000):C 66 [.ptr n 0] [(n,[a0,.own (.bs 5 s)])]=some (.one (.ro (.str s)),[(n,[a0,.dead])]):=zca (by simp[XS,orX,zff,zkr,zll,zhh,xSeq,xCut,zrf,zxc,zaf,hn])
theorem z8p(a b:List UInt8)(h:a.length+(b.length+1)<=1000000000):C 64 [.ro (.sl 1 [.str ⟨a.toArray⟩,.str ⟨b.toArray⟩]),.ro (.str ⟨#[32]⟩)] []=some (.one (.ro (.str ⟨(a++32::b).toArray⟩)),[]):=zca (by
 have e:Lib.join [a,b] [32]=a++32::b:=by rw[Lib.join_cons];simp[Lib.joinTail]
 have hl:a.length+(b.length+1)<=140737488355328:=by omega
 simp[XS,orX,zff,zkr,zll,zhh,xSeq,xCut,zrf,zxc,z1b,zxe,e,hl])
theorem z8q(a b c:List UInt8)(h:a.length+(b.length+(c.length+2))<=1000000000):C 64 [.ro (.sl 1 [.str ⟨a.toArray⟩,.str ⟨b.toArray⟩,.str ⟨c.toArray⟩]),.ro (.str ⟨#[32]⟩)] []=some (.one (.ro (.str ⟨(a++32::(b++32::c)).toArray⟩)),[]):=zca (by
 have e:Lib.join [a,b,c] [32]=a++32::(b++32::c):=by rw[Lib.join_cons];simp[Lib.joinTail]
 have hl:a.length+(b.length+(c.length+1)+1)<=140737488355328:=by omega
 simp[XS,orX,zff,zkr,zll,zhh,xSeq,xCut,zrf,zxc,z1b,zxe,e,hl])
theorem yev(s:List UInt8)(h:s.length<4294967281):C 170 [.ro (.str ⟨s.toArray⟩),.ro (.str ⟨#[61,60,62]⟩)] []=some (.one (.ro (.int .i64 (Lib.indexAny s [61,60,62]))),[]):=zca (by simp[XS,orX,zff,zkr,zll,zhh,xSeq,xCut,zrf,zxc,z1b,xAny,h,show (⟨#[61,60,62]⟩:ByteArray).size=3 from rfl])
end Go.Qz
