import Derived.Test.YtcadiohekccmiaaGreatDoorQr1
import Derived.Test.YtcadiohekccmiaaGreatDoorQw0
import Derived.Test.YtcadiohekccmiaaGreatDoorQp0
namespace Go.Qz
open Go.Proofs
@[simp] def coldS:List FuncId:=[
  11,
  14,
  ]
@[simp] def ioS:FuncId->List Nat:=λf=>
  if coldS.contains f then [999]else
  if f=166 then [998]else
  if f=34 then [999]else
  if f=224 then [997]else
  if f=214 then [997]else
  if f=216 then [997]else
  if f=197 then [997]else
  if f=68 then [0]else
  if f=23 then [0]else
  if f=57 then [0]else
  if f=22 then [0]else
  if f=56 then [0]else
  if f=58 then [0]else
  if f=59 then [0]else
  []
theorem zqu{p:Prop}[Decidable p]{a b:List Nat}{n:Nat}(ha:a.contains n=false)(hb:b.contains n=false):(if p then a else b).contains n=false:=by
 split
 ·exact ha
 ·exact hb
set_option maxHeartbeats 4000000 in
@[simp] theorem yge(f:FuncId):zfj ioS f=(decide (f=34)||coldS.contains f):=by
  unfold zfj ioS
  cases hc:coldS.contains f with
  |true=>rw[if_pos rfl,Bool.or_true];rfl
  |false=>
   by_cases h:f=34
   ·subst h;rfl
   ·simp only[h,if_false,decide_false,Bool.false_eq_true,Bool.or_false]
    repeat refine zqu rfl ?_
    rfl
set_option maxHeartbeats 4000000 in
@[simp] theorem z8k(f:FuncId):zm4 ioS f=decide (f=166):=by
  unfold zm4 ioS;by_cases h:f=166
  ·subst h;rfl
  ·generalize coldS.contains f=c;simp only[h,if_false,decide_false]
   repeat refine zqu rfl ?_
   rfl
set_option maxHeartbeats 4000000 in
@[simp] theorem ygf(f:FuncId):zz4 ioS f=(decide (f=224)||(decide (f=214)||(decide (f=216)||decide (f=197)))):=by
  unfold zz4 ioS;by_cases h1:f=224
  ·subst h1;rfl
  by_cases h2:f=214
  ·subst h2;rfl
  by_cases h3:f=216
  ·subst h3;rfl
  by_cases h4:f=197
  ·subst h4;rfl
  generalize coldS.contains f=c;simp only[h1,h2,h3,h4,if_false,decide_false,Bool.or_false]
  repeat refine zqu rfl ?_
  rfl
def z5v:zam:=λf us bx=>if f=34 then(match us,bx with
    | [.ro (.sl z xs)],[]=>if z=1 then some (.agg [.ro (.sl 1 (xs.take 2000)),.ro (.int .i64 0)],[])else none
    |_,_=>none)else none
def zgb:zam:=λf us bx=>if f=151 then(match us,bx with
    | [.ro (.sl z [])],[]=>if z=1 then some (.one (.own (.sl 1 [])),[])else none
    |_,_=>none)else none
def zkj:zam:=λf us bx=>if f=156 then(match us,bx with
    | [.ro .nili],[]=>some (.one (.ro (.int .i64 0)),[])
    | [.ro (.iface t (.agg [.int k c]))],[]=>if t=195&&k=.i64 then some (.one (.ro (.int .i64 c)),[])else none
    |_,_=>none)else none
def XS:zam:=
 orX (zeh 168) (
 orX (zjl 209) (
 orX zkj (
 orX zgb (
 orX (xSeq 70 166) (
 orX (xCut 137) (
 orX (zos 131 86) (
 orX (zs9 66 5) (
 orX (zv0 64) (
 orX (xAny 170) (
 orX z5v (
 noX
 )
 )
 )
 )
 )
 )
 )
 )
 )
 )
 )
noncomputable abbrev C:zam:=zc3 Tryz.prog ioS XS
noncomputable abbrev cx:Ctx:=⟨Tryz.prog,ioS,C⟩
theorem z2q(s t:List UInt8)(h:s.length<4294967281):C 168 [.ro (.str ⟨s.toArray⟩),.ro (.str ⟨t.toArray⟩)] []=some (.one (.ro (.int .i64 (Lib.index s t))),[]):=zb2 (by simp[XS,orX,zeh,h])
theorem z5w(s:List UInt8)(c:UInt8):C 209 [.ro (.str ⟨s.toArray⟩),.ro (.int .u8 c.toNat)] []=some (.one (.ro (.int .i64 (Lib.indexByte s c))),[]):=zb2 (by simp[XS,orX,zeh,zjl])
theorem z2r:C 151 [.ro (.sl 1 [])] []=some (.one (.own (.sl 1 [])),[]):=zb2 (by simp[XS,orX,zeh,zjl,zkj,zgb])
theorem z5x(c:Int):C 156 [.ro (.iface 195 (.agg [.int .i64 c]))] []=some (.one (.ro (.int .i64 c)),[]):=zb2 (by simp[XS,orX,zeh,zjl,zkj])
theorem zv2(s p:ByteArray):C 70 [.ro (.str s),.ro (.str p)] []=some (.one (.own (.seq 166 s p)),[]):=zb2 (by simp[XS,orX,zeh,zjl,zkj,zgb,xSeq])
theorem z2s(s t:List UInt8)(h:s.length<4294967281):C 137 [.ro (.str ⟨s.toArray⟩),.ro (.str ⟨t.toArray⟩)] []=some (.tup [.ro (.str ⟨(Lib.cut s t).1.toArray⟩),.ro (.str ⟨(Lib.cut s t).2.1.toArray⟩),.ro (.bool (Lib.cut s t).2.2)],[]):=zb2 (by simp[XS,orX,zeh,zjl,zkj,zgb,xSeq,xCut,h])
theorem zzd(n:Nat)(a1:A)(hn:n<10000):C 131 [.ptr n 0] [(n,[.bnil 86,a1])]=some (.tup [],[(n,[.selfp,a1])]):=zb2 (by simp[XS,orX,zeh,zjl,zkj,zgb,xSeq,xCut,zos,zag,hn])
theorem zv3(n:Nat)(a1:A)(hn:n<10000):C 131 [.ptr n 0] [(n,[.selfp,a1])]=some (.tup [],[(n,[.selfp,a1])]):=zb2 (by simp[XS,orX,zeh,zjl,zkj,zgb,xSeq,xCut,zos,zag,hn])
theorem z2t(n:Nat)(a0:A)(s:ByteArray)(hn:n<10000):C 66 [.ptr n 0] [(n,[a0,.own (.bs 5 s)])]=some (.one (.ro (.str s)),[(n,[a0,.dead])]):=zb2 (by simp[XS,orX,zeh,zjl,zkj,zgb,xSeq,xCut,zos,zs9,zag,hn])
theorem z5y(a b:List UInt8)(h:a.length+(b.length+1)<=1000000000):C 64 [.ro (.sl 1 [.str ⟨a.toArray⟩,.str ⟨b.toArray⟩]),.ro (.str ⟨#[32]⟩)] []=some (.one (.ro (.str ⟨(a++32::b).toArray⟩)),[]):=zb2 (by
 have e:Lib.join [a,b] [32]=a++32::b:=by rw[Lib.join_cons];simp[Lib.joinTail]
 have hl:a.length+(b.length+1)<=140737488355328:=by omega
 simp[XS,orX,zeh,zjl,zkj,zgb,xSeq,xCut,zos,zs9,zv0,zvz,e,hl])
theorem z5z(a b c:List UInt8)(h:a.length+(b.length+(c.length+2))<=1000000000):C 64 [.ro (.sl 1 [.str ⟨a.toArray⟩,.str ⟨b.toArray⟩,.str ⟨c.toArray⟩]),.ro (.str ⟨#[32]⟩)] []=some (.one (.ro (.str ⟨(a++32::(b++32::c)).toArray⟩)),[]):=zb2 (by
 have e:Lib.join [a,b,c] [32]=a++32::(b++32::c):=by rw[Lib.join_cons];simp[Lib.joinTail]
 have hl:a.length+(b.length+(c.length+1)+1)<=140737488355328:=by omega
 simp[XS,orX,zeh,zjl,zkj,zgb,xSeq,xCut,zos,zs9,zv0,zvz,e,hl])
theorem yd7(s:List UInt8)(h:s.length<4294967281):C 170 [.ro (.str ⟨s.toArray⟩),.ro (.str ⟨#[61,60,62]⟩)] []=some (.one (.ro (.int .i64 (Lib.indexAny s [61,60,62]))),[]):=zb2 (by simp[XS,orX,zeh,zjl,zkj,zgb,xSeq,xCut,zos,zs9,zv0,xAny,h,show (⟨#[61,60,62]⟩:ByteArray).size=3 from rfl])
theorem z2u(xs:List D):C 34 [.ro (.sl 1 xs)] []=some (.agg [.ro (.sl 1 (xs.take 2000)),.ro (.int .i64 0)],[]):=zb2 (by simp[XS,orX,zeh,zjl,zkj,zgb,xSeq,xCut,zos,zs9,zv0,xAny,z5v])
end Go.Qz
