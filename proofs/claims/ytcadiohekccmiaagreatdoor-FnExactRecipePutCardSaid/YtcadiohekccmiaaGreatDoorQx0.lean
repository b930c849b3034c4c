import Derived.Test.YtcadiohekccmiaaGreatDoorQr1
import Derived.Test.YtcadiohekccmiaaGreatDoorQw0
import Derived.Test.YtcadiohekccmiaaGreatDoorQp0
namespace Go.Qz
open Go.Proofs
@[simp] def coldS : List FuncId := [
  11,
  14,
  ]
@[simp] def ioS : FuncId → List Nat := fun f =>
  if coldS.contains f then [999] else
  if f = 166 then [998] else
  if f = 34 then [999] else
  if f = 224 then [997] else
  if f = 214 then [997] else
  if f = 216 then [997] else
  if f = 197 then [997] else
  if f = 23 then [0] else
  if f = 57 then [0] else
  if f = 22 then [0] else
  if f = 56 then [0] else
  if f = 58 then [0] else
  if f = 59 then [0] else
  []
set_option maxHeartbeats 4000000 in
@[simp] theorem ycz (f : FuncId) : zex ioS f = (decide (f = 34) || coldS.contains f) := by
  unfold zex ioS
  cases hc : coldS.contains f with
  | true => rw [if_pos rfl,Bool.or_true]; rfl
  | false =>
    by_cases h : f = 34
    ·subst h; rfl
    ·simp only [h,if_false,decide_false,Bool.false_eq_true,Bool.or_false]
     repeat (split; rfl)
     rfl
set_option maxHeartbeats 4000000 in
@[simp] theorem z42 (f : FuncId) : zlv ioS f = decide (f = 166) := by
  unfold zlv ioS
  by_cases h : f = 166
  ·subst h; rfl
  ·generalize coldS.contains f = c
   simp only [h,if_false,decide_false]
   repeat (split; rfl)
   rfl
set_option maxHeartbeats 4000000 in
@[simp] theorem yc0 (f : FuncId) : zx8 ioS f = (decide (f = 224) || (decide (f = 214) || (decide (f = 216) || decide (f = 197)))) := by
  unfold zx8 ioS
  by_cases h1 : f = 224
  ·subst h1; rfl
  by_cases h2 : f = 214
  ·subst h2; rfl
  by_cases h3 : f = 216
  ·subst h3; rfl
  by_cases h4 : f = 197
  ·subst h4; rfl
  generalize coldS.contains f = c
  simp only [h1,h2,h3,h4,if_false,decide_false,Bool.or_false]
  repeat (split; rfl)
  rfl
def z6g : zal := fun f us bx => if f = 34 then (match us,bx with
    | [.ro (.sl z xs)],[] => if z = 1 then some (.agg [.ro (.sl 1 (xs.take 2000)),.ro (.int .i64 0)],[]) else none
    | _,_ => none) else none
def zg3 : zal := fun f us bx => if f = 151 then (match us,bx with
    | [.ro (.sl z [])],[] => if z = 1 then some (.one (.own (.sl 1 [])),[]) else none
    | _,_ => none) else none
def zla : zal := fun f us bx => if f = 156 then (match us,bx with
    | [.ro .nili],[] => some (.one (.ro (.int .i64 0)),[])
    | [.ro (.iface t (.agg [.int k c]))],[] => if t = 195 && k = .i64 then some (.one (.ro (.int .i64 c)),[]) else none
    | _,_ => none) else none
def XS : zal :=
 orX (ze1 168) (
 orX (zkf 209) (
 orX zla (
 orX zg3 (
 orX (xSeq 70 166) (
 orX (xCut 137) (
 orX (zru 131 86) (
 orX (zxg 66 5) (
 orX (z0n 64) (
 orX (xAny 170) (
 orX z6g (
 noX
 )
 )
 )
 )
 )
 )
 )
 )
 )
 )
 )
noncomputable abbrev C : zal := zcr Tryz.prog ioS XS
noncomputable abbrev cx : Ctx := ⟨Tryz.prog,ioS,C⟩
theorem z0o (s t : List UInt8) (h : s.length < 4294967281) : C 168 [.ro (.str ⟨s.toArray⟩),.ro (.str ⟨t.toArray⟩)] [] = some (.one (.ro (.int .i64 (Lib.index s t))),[]) := zb9 (by simp [XS,orX,ze1,h])
theorem z3a (s : List UInt8) (c : UInt8) : C 209 [.ro (.str ⟨s.toArray⟩),.ro (.int .u8 c.toNat)] [] = some (.one (.ro (.int .i64 (Lib.indexByte s c))),[]) := zb9 (by simp [XS,orX,ze1,zkf])
theorem z0p : C 151 [.ro (.sl 1 [])] [] = some (.one (.own (.sl 1 [])),[]) := zb9 (by simp [XS,orX,ze1,zkf,zla,zg3])
theorem z3b (c : Int) : C 156 [.ro (.iface 195 (.agg [.int .i64 c]))] [] = some (.one (.ro (.int .i64 c)),[]) := zb9 (by simp [XS,orX,ze1,zkf,zla])
theorem z0q (s p : ByteArray) : C 70 [.ro (.str s),.ro (.str p)] [] = some (.one (.own (.seq 166 s p)),[]) := zb9 (by simp [XS,orX,ze1,zkf,zla,zg3,xSeq])
theorem z6h (s t : List UInt8) (h : s.length < 4294967281) : C 137 [.ro (.str ⟨s.toArray⟩),.ro (.str ⟨t.toArray⟩)] [] = some (.tup [.ro (.str ⟨(Lib.cut s t).1.toArray⟩),.ro (.str ⟨(Lib.cut s t).2.1.toArray⟩),.ro (.bool (Lib.cut s t).2.2)],[]) := zb9 (by simp [XS,orX,ze1,zkf,zla,zg3,xSeq,xCut,h])
theorem zxi (n : Nat) (a1 : A) (hn : n < 10000) : C 131 [.ptr n 0] [(n,[.bnil 86,a1])] = some (.tup [],[(n,[.selfp,a1])]) := zb9 (by simp [XS,orX,ze1,zkf,zla,zg3,xSeq,xCut,zru,zae,hn])
theorem zua (n : Nat) (a1 : A) (hn : n < 10000) : C 131 [.ptr n 0] [(n,[.selfp,a1])] = some (.tup [],[(n,[.selfp,a1])]) := zb9 (by simp [XS,orX,ze1,zkf,zla,zg3,xSeq,xCut,zru,zae,hn])
theorem z0r (n : Nat) (a0 : A) (s : ByteArray) (hn : n < 10000) : C 66 [.ptr n 0] [(n,[a0,.own (.bs 5 s)])] = some (.one (.ro (.str s)),[(n,[a0,.dead])]) := zb9 (by simp [XS,orX,ze1,zkf,zla,zg3,xSeq,xCut,zru,zxg,zae,hn])
theorem z3c (a b : List UInt8) (h : a.length + (b.length + 1) ≤ 1000000000) : C 64 [.ro (.sl 1 [.str ⟨a.toArray⟩,.str ⟨b.toArray⟩]),.ro (.str ⟨#[32]⟩)] [] = some (.one (.ro (.str ⟨(a ++ 32 :: b).toArray⟩)),[]) := zb9 (by
 have e : Lib.join [a,b] [32] = a ++ 32 :: b := by rw [Lib.join_cons]; simp [Lib.joinTail]
 have hl : a.length + (b.length + 1) ≤ 140737488355328 := by omega
 simp [XS,orX,ze1,zkf,zla,zg3,xSeq,xCut,zru,zxg,z0n,zt8,e,hl])
theorem z3d (a b c : List UInt8) (h : a.length + (b.length + (c.length + 2)) ≤ 1000000000) : C 64 [.ro (.sl 1 [.str ⟨a.toArray⟩,.str ⟨b.toArray⟩,.str ⟨c.toArray⟩]),.ro (.str ⟨#[32]⟩)] [] = some (.one (.ro (.str ⟨(a ++ 32 :: (b ++ 32 :: c)).toArray⟩)),[]) := zb9 (by
 have e : Lib.join [a,b,c] [32] = a ++ 32 :: (b ++ 32 :: c) := by rw [Lib.join_cons]; simp [Lib.joinTail]
 have hl : a.length + (b.length + (c.length + 1) + 1) ≤ 140737488355328 := by omega
 simp [XS,orX,ze1,zkf,zla,zg3,xSeq,xCut,zru,zxg,z0n,zt8,e,hl])
end Go.Qz
