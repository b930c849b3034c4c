/- The evaluator of the claim and what it says, part Qv0 (several texts in one). -/
import Derived.Test.YtlhjljepbdnomaaDoorQq0
import Derived.Test.YtlhjljepbdnomaaDoorQt0
import Derived.Test.YtlhjljepbdnomaaDoorQo0
namespace Go.Qz
open Go.Proofs
@[simp] def ioS : FuncId → List Nat := fun f =>
  if f = 127 then [998] else
  if f = 42 then [999] else
  if f = 9 then [0] else
  []
@[simp] theorem opens_is (f : FuncId) : opensF ioS f = decide (f = 42) := by
  unfold opensF ioS
  by_cases h : f = 42
  · subst h; rfl
  · simp only [h, if_false, decide_false]
    repeat (split; rfl)
    rfl
@[simp] theorem seq_is (f : FuncId) : isSeqF ioS f = decide (f = 127) := by
  unfold isSeqF ioS
  by_cases h : f = 127
  · subst h; rfl
  · simp only [h, if_false, decide_false]
    repeat (split; rfl)
    rfl
def xOpen : CallF := fun f us bx => if f = 42 then (match us, bx with
    | [.ro (.sl z xs)], [] => if z = 1 then some (.agg [.ro (.sl 1 (xs.take 2000)), .ro (.int .i64 0)], []) else none
    | _, _ => none) else none
def XS : CallF :=
  orX (xIndex 109) (
  orX (xSeq 92 127) (
  orX (xCut 52) (
  orX (xSplitN 53) (
  orX (xLast 101) (
  orX (xItoa 43) (
  orX (xCopy 74 69) (
  orX (xText 45 5) (
  orX xOpen (
  noX
  )
  )
  )
  )
  )
  )
  )
  ))
noncomputable abbrev C : CallF := callLim Tryd.prog ioS XS
noncomputable abbrev cx : Ctx := ⟨Tryd.prog, ioS, C⟩
theorem seq_str (s p : ByteArray) : C 92 [.ro (.str s), .ro (.str p)] [] = some (.one (.own (.seq 127 s p)), []) := callLim_x (by simp [XS, orX, xIndex, xSeq])
theorem cut_str (s t : List UInt8) (h : s.length < 4294967281) : C 52 [.ro (.str ⟨s.toArray⟩), .ro (.str ⟨t.toArray⟩)] [] = some (.tup [.ro (.str ⟨(Lib.cut s t).1.toArray⟩), .ro (.str ⟨(Lib.cut s t).2.1.toArray⟩), .ro (.bool (Lib.cut s t).2.2)], []) := callLim_x (by simp [XS, orX, xIndex, xSeq, xCut, h])
theorem splitN_str (s t : ByteArray) (n : Int) (h : s.size < 4294967281) (ht : 1 ≤ t.size) (h1 : 1 ≤ n) (h2 : n ≤ 1000000) : C 53 [.ro (.str s), .ro (.str t), .ro (.int .i64 n)] [] = some (.one (.own (.sl 1 ((Lib.splitB t 0 (min n.toNat (s.size + 1) - 1) s).map .str))), []) := callLim_x (by simp [XS, orX, xIndex, xSeq, xCut, xSplitN, h, ht, h1, h2])
theorem last_str (s : ByteArray) (c : Int) (h : s.size < 4611686018427387904) : C 101 [.ro (.str s), .ro (.int .u8 c)] [] = some (.one (.ro (.int .i64 (Lib.lastIndexByte s c))), []) := callLim_x (by simp [XS, orX, xIndex, xSeq, xCut, xSplitN, xLast, h])
theorem itoa_ev (n : Int) (h0 : -9223372036854775808 ≤ n) (h1 : n ≤ 9223372036854775807) : C 43 [.ro (.int .i64 n)] [] = some (.one (.ro (.str ⟨(Lib.itoa n).toArray⟩)), []) := callLim_x (by simp [XS, orX, xIndex, xSeq, xCut, xSplitN, xLast, xItoa, h0, h1])
theorem copyNil_ev (n : Nat) (a1 : A) (hn : n < 10000) : C 74 [.ptr n 0] [(n, [.bnil 69, a1])] = some (.tup [], [(n, [.selfp, a1])]) := callLim_x (by simp [XS, orX, xIndex, xSeq, xCut, xSplitN, xLast, xItoa, xCopy, ghostFrom, hn])
theorem copySelf_ev (n : Nat) (a1 : A) (hn : n < 10000) : C 74 [.ptr n 0] [(n, [.selfp, a1])] = some (.tup [], [(n, [.selfp, a1])]) := callLim_x (by simp [XS, orX, xIndex, xSeq, xCut, xSplitN, xLast, xItoa, xCopy, ghostFrom, hn])
theorem string_ev (n : Nat) (a0 : A) (s : ByteArray) (hn : n < 10000) : C 45 [.ptr n 0] [(n, [a0, .own (.bs 5 s)])] = some (.one (.ro (.str s)), [(n, [a0, .dead])]) := callLim_x (by simp [XS, orX, xIndex, xSeq, xCut, xSplitN, xLast, xItoa, xCopy, xText, ghostFrom, hn])
theorem open_ev (xs : List D) : C 42 [.ro (.sl 1 xs)] [] = some (.agg [.ro (.sl 1 (xs.take 2000)), .ro (.int .i64 0)], []) := callLim_x (by simp [XS, orX, xIndex, xSeq, xCut, xSplitN, xLast, xItoa, xCopy, xText, xOpen])
end Go.Qz
