import Derived.Test.YtcadiohekccmiaaGreatDoorQq1
import Derived.Test.YtcadiohekccmiaaGreatDoorQt0
import Derived.Test.YtcadiohekccmiaaGreatDoorQo0
namespace Go.Qz
open Go.Proofs
@[simp] def coldS : List FuncId := [
  11,
  14,
  ]
@[simp] def ioS : FuncId → List Nat := fun f =>
  if coldS.contains f then [999] else
  if f = 166 then [998] else
  if f = 34 then [999] else
  if f = 224 then [997] else
  if f = 214 then [997] else
  if f = 216 then [997] else
  if f = 197 then [997] else
  if f = 23 then [0] else
  if f = 57 then [0] else
  if f = 22 then [0] else
  if f = 56 then [0] else
  if f = 58 then [0] else
  if f = 59 then [0] else
  []
set_option maxHeartbeats 4000000 in
@[simp] theorem opens_is (f : FuncId) : opensF ioS f = (decide (f = 34) || coldS.contains f) := by
  unfold opensF ioS
  cases hc : coldS.contains f with
  | true => rw [if_pos rfl, Bool.or_true]; rfl
  | false =>
    by_cases h : f = 34
    ·subst h; rfl
    ·simp only [h, if_false, decide_false, Bool.false_eq_true, Bool.or_false]
     repeat (split; rfl)
     rfl
set_option maxHeartbeats 4000000 in
@[simp] theorem seq_is (f : FuncId) : isSeqF ioS f = decide (f = 166) := by
  unfold isSeqF ioS
  by_cases h : f = 166
  ·subst h; rfl
  ·generalize coldS.contains f = c
   simp only [h, if_false, decide_false]
   repeat (split; rfl)
   rfl
set_option maxHeartbeats 4000000 in
@[simp] theorem hides_is (f : FuncId) : hidesF ioS f = (decide (f = 224) || (decide (f = 214) || (decide (f = 216) || decide (f = 197)))) := by
  unfold hidesF ioS
  by_cases h1 : f = 224
  ·subst h1; rfl
  by_cases h2 : f = 214
  ·subst h2; rfl
  by_cases h3 : f = 216
  ·subst h3; rfl
  by_cases h4 : f = 197
  ·subst h4; rfl
  generalize coldS.contains f = c
  simp only [h1, h2, h3, h4, if_false, decide_false, Bool.or_false]
  repeat (split; rfl)
  rfl
def xOpen : CallF := fun f us bx => if f = 34 then (match us, bx with
    | [.ro (.sl z xs)], [] => if z = 1 then some (.agg [.ro (.sl 1 (xs.take 2000)), .ro (.int .i64 0)], []) else none
    | _, _ => none) else none
def xClone : CallF := fun f us bx => if f = 151 then (match us, bx with
    | [.ro (.sl z [])], [] => if z = 1 then some (.one (.own (.sl 1 [])), []) else none
    | _, _ => none) else none
def xCode : CallF := fun f us bx => if f = 156 then (match us, bx with
    | [.ro .nili], [] => some (.one (.ro (.int .i64 0)), [])
    | [.ro (.iface t (.agg [.int k c]))], [] => if t = 195 && k = .i64 then some (.one (.ro (.int .i64 c)), []) else none
    | _, _ => none) else none
def XS : CallF :=
 orX (xIndex 168) (
 orX (xByte 209) (
 orX xCode (
 orX xClone (
 orX (xSeq 70 166) (
 orX (xCut 137) (
 orX (xCopy 131 86) (
 orX (xText 66 5) (
 orX xOpen (
 noX
 )
 )
 )
 )
 )
 )
 )
 )
 )
noncomputable abbrev C : CallF := callLim Tryz.prog ioS XS
noncomputable abbrev cx : Ctx := ⟨Tryz.prog, ioS, C⟩
theorem index_str (s t : List UInt8) (h : s.length < 4294967281) : C 168 [.ro (.str ⟨s.toArray⟩), .ro (.str ⟨t.toArray⟩)] [] = some (.one (.ro (.int .i64 (Lib.index s t))), []) := callLim_x (by simp [XS, orX, xIndex, h])
theorem byte_str (s : List UInt8) (c : UInt8) : C 209 [.ro (.str ⟨s.toArray⟩), .ro (.int .u8 c.toNat)] [] = some (.one (.ro (.int .i64 (Lib.indexByte s c))), []) := callLim_x (by simp [XS, orX, xIndex, xByte])
theorem clone0_ev : C 151 [.ro (.sl 1 [])] [] = some (.one (.own (.sl 1 [])), []) := callLim_x (by simp [XS, orX, xIndex, xByte, xCode, xClone])
theorem code_err (c : Int) : C 156 [.ro (.iface 195 (.agg [.int .i64 c]))] [] = some (.one (.ro (.int .i64 c)), []) := callLim_x (by simp [XS, orX, xIndex, xByte, xCode])
theorem seq_str (s p : ByteArray) : C 70 [.ro (.str s), .ro (.str p)] [] = some (.one (.own (.seq 166 s p)), []) := callLim_x (by simp [XS, orX, xIndex, xByte, xCode, xClone, xSeq])
theorem cut_str (s t : List UInt8) (h : s.length < 4294967281) : C 137 [.ro (.str ⟨s.toArray⟩), .ro (.str ⟨t.toArray⟩)] [] = some (.tup [.ro (.str ⟨(Lib.cut s t).1.toArray⟩), .ro (.str ⟨(Lib.cut s t).2.1.toArray⟩), .ro (.bool (Lib.cut s t).2.2)], []) := callLim_x (by simp [XS, orX, xIndex, xByte, xCode, xClone, xSeq, xCut, h])
end Go.Qz
