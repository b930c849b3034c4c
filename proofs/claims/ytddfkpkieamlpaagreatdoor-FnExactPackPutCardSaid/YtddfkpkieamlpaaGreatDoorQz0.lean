import Derived.Test.YtddfkpkieamlpaaGreatDoorQs0
import Derived.Test.YtddfkpkieamlpaaGreatDoorQw0
import Derived.Test.YtddfkpkieamlpaaGreatDoorQy0
import Derived.Test.YtddfkpkieamlpaaGreatDoorQq0
namespace Go.Qz
open Go.Proofs
@[simp] theorem yez:zys Tryz.prog 0=true:=by kernel_rfl
@[simp] def coldS:List FuncId:=[
  ]
@[simp] def spreadS:List FuncId:=[
  ]
@[simp] def ioS:FuncId->List Nat:=λf=>
  if coldS.contains f then [999]else
  if f=202 then [998]else
  if f=52 then [999]else
  if f=48 then [0]else
  if f=30 then [0]else
  if f=47 then [0]else
  if f=29 then [0]else
  []
theorem zvl{p:Prop}[Decidable p]{a b:List Nat}{n:Nat}(ha:a.contains n=false)(hb:b.contains n=false):(if p then a else b).contains n=false:=by
 split
 ·exact ha
 ·exact hb
set_option maxHeartbeats 4000000 in
@[simp] theorem z88(f:FuncId):znh ioS f=(decide (f=52)||(coldS.contains f||spreadS.contains f)):=by
  unfold znh ioS
  cases hc:coldS.contains f with
  |true=>rw[if_pos rfl,Bool.true_or,Bool.or_true];rfl
  |false=>
   by_cases h:f=52
   ·subst h;rfl
   ·
    have hs:spreadS.contains f=false:=rfl;rw[hs];simp only[h,if_false,decide_false,Bool.false_eq_true,Bool.or_false]
    repeat refine zvl rfl ?_
    rfl
set_option maxHeartbeats 4000000 in
@[simp] theorem z8c(f:FuncId):zlf ioS f=decide (f=202):=by
  unfold zlf ioS;by_cases h:f=202
  ·subst h;rfl
  ·generalize coldS.contains f=c;simp only[h,if_false,decide_false]
   repeat refine zvl rfl ?_
   rfl
def z57:zai:=λf us bx=>if f=52 then(match us,bx with
    | [.ro (.sl z xs)],[]=>if z=1 then some (.agg [.ro (.sl 1 (xs.take 2000)),.ro (.int .i64 0)],[])else none
    |_,_=>none)else none
def XS:zai:=
 orX (zi9 135) (
 orX (zpk 200) (
 orX (xSeq 143 202) (
 orX (xCut 43) (
 orX (zgx 139) (
 orX (zkp 44) (
 orX (zrp 182) (
 orX (zt0 126) (
 orX (zxh 125 108) (
 orX (z3v 82 5) (
 orX (xAny 137) (
 orX z57 (
 noX
 )
 )
 )
 )
 )
 )
 )
 )
 )
 )
 )
 )
noncomputable abbrev C:zai:=ze1 Tryz.prog ioS XS
noncomputable abbrev cx:Ctx:=⟨Tryz.prog,ioS,C⟩
theorem z1k(s p:ByteArray):C 143 [.ro (.str s),.ro (.str p)] []=some (.one (.own (.seq 202 s p)),[]):=zfi (by simp[XS,orX,zi9,zpk,xSeq])
theorem z3x(s:ByteArray)(c:Int)(h:s.size<4611686018427387904):C 182 [.ro (.str s),.ro (.int .u8 c)] []=some (.one (.ro (.int .i64 (Lib.lastIndexByte s c))),[]):=zfi (by simp[XS,orX,zi9,zpk,xSeq,xCut,zgx,zkp,zrp,h])
theorem z58(n:Int)(h0:-9223372036854775808<=n)(h1:n<=9223372036854775807):C 126 [.ro (.int .i64 n)] []=some (.one (.ro (.str ⟨(Lib.itoa n).toArray⟩)),[]):=zfi (by simp[XS,orX,zi9,zpk,xSeq,xCut,zgx,zkp,zrp,zt0,h0,h1])
theorem zn9(n:Nat)(a1:A)(hn:n<10000):C 125 [.ptr n 0] [(n,[.bnil 108,a1])]=some (.tup [],[(n,[.selfp,a1])]):=zfi (by simp[XS,orX,zi9,zpk,xSeq,xCut,zgx,zkp,zrp,zt0,zxh,zab,hn])
theorem zmn(n:Nat)(a1:A)(hn:n<10000):C 125 [.ptr n 0] [(n,[.selfp,a1])]=some (.tup [],[(n,[.selfp,a1])]):=zfi (by simp[XS,orX,zi9,zpk,xSeq,xCut,zgx,zkp,zrp,zt0,zxh,zab,hn])
theorem z1l(n:Nat)(a0:A)(s:ByteArray)(hn:n<10000):C 82 [.ptr n 0] [(n,[a0,.own (.bs 5 s)])]=some (.one (.ro (.str s)),[(n,[a0,.dead])]):=zfi (by simp[XS,orX,zi9,zpk,xSeq,xCut,zgx,zkp,zrp,zt0,zxh,z3v,zab,hn])
end Go.Qz
