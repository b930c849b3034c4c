/- The evaluator of the claim and what it says, part Qv0 (several texts in one). -/
import Derived.Test.YtikdjbagodebiaaDoorQq0
import Derived.Test.YtikdjbagodebiaaDoorQt0
import Derived.Test.YtikdjbagodebiaaDoorQo0
namespace Go.Qz
open Go.Proofs
@[simp] def ioS : FuncId → List Nat := fun f =>
  if f = 14 then [999] else
  []
@[simp] theorem opens_is (f : FuncId) : opensF ioS f = decide (f = 14) := by
  unfold opensF ioS
  by_cases h : f = 14
  · subst h; rfl
  · simp only [h, if_false, decide_false]
    repeat (split; rfl)
    rfl
@[simp] theorem hides_is (f : FuncId) : hidesF ioS f = false := by
  unfold hidesF ioS
  repeat (split; rfl)
  rfl
@[simp] theorem seq_is (f : FuncId) : isSeqF ioS f = false := by
  unfold isSeqF ioS
  repeat (split; rfl)
  rfl
def xOpen : CallF := fun f us bx => if f = 14 then (match us, bx with
    | [.ro (.sl z xs)], [] => if z = 1 then some (.agg [.ro (.sl 1 (xs.take 2000)), .ro (.int .i64 0)], []) else none
    | _, _ => none) else none
def XS : CallF :=
  orX (xIndex 60) (
  orX (xCut 48) (
  orX (xSplitN 35) (
  orX (xItoa 16) (
  orX (xCopy 32 37) (
  orX (xText 17 5) (
  orX xOpen (
  noX
  )
  )
  )
  )
  )
  )
  )
noncomputable abbrev C : CallF := callLim Tryd.prog ioS XS
noncomputable abbrev cx : Ctx := ⟨Tryd.prog, ioS, C⟩
theorem cut_str (s t : List UInt8) (h : s.length < 4294967281) : C 48 [.ro (.str ⟨s.toArray⟩), .ro (.str ⟨t.toArray⟩)] [] = some (.tup [.ro (.str ⟨(Lib.cut s t).1.toArray⟩), .ro (.str ⟨(Lib.cut s t).2.1.toArray⟩), .ro (.bool (Lib.cut s t).2.2)], []) := callLim_x (by simp [XS, orX, xIndex, xCut, h])
theorem splitN_str (s t : ByteArray) (n : Int) (h : s.size < 4294967281) (ht : 1 ≤ t.size) (h1 : 1 ≤ n) (h2 : n ≤ 1000000) : C 35 [.ro (.str s), .ro (.str t), .ro (.int .i64 n)] [] = some (.one (.own (.sl 1 ((Lib.splitB t 0 (min n.toNat (s.size + 1) - 1) s).map .str))), []) := callLim_x (by simp [XS, orX, xIndex, xCut, xSplitN, h, ht, h1, h2])
theorem itoa_ev (n : Int) (h0 : -9223372036854775808 ≤ n) (h1 : n ≤ 9223372036854775807) : C 16 [.ro (.int .i64 n)] [] = some (.one (.ro (.str ⟨(Lib.itoa n).toArray⟩)), []) := callLim_x (by simp [XS, orX, xIndex, xCut, xSplitN, xItoa, h0, h1])
theorem copyNil_ev (n : Nat) (a1 : A) (hn : n < 10000) : C 32 [.ptr n 0] [(n, [.bnil 37, a1])] = some (.tup [], [(n, [.selfp, a1])]) := callLim_x (by simp [XS, orX, xIndex, xCut, xSplitN, xItoa, xCopy, ghostFrom, hn])
theorem copySelf_ev (n : Nat) (a1 : A) (hn : n < 10000) : C 32 [.ptr n 0] [(n, [.selfp, a1])] = some (.tup [], [(n, [.selfp, a1])]) := callLim_x (by simp [XS, orX, xIndex, xCut, xSplitN, xItoa, xCopy, ghostFrom, hn])
theorem string_ev (n : Nat) (a0 : A) (s : ByteArray) (hn : n < 10000) : C 17 [.ptr n 0] [(n, [a0, .own (.bs 5 s)])] = some (.one (.ro (.str s)), [(n, [a0, .dead])]) := callLim_x (by simp [XS, orX, xIndex, xCut, xSplitN, xItoa, xCopy, xText, ghostFrom, hn])
theorem open_ev (xs : List D) : C 14 [.ro (.sl 1 xs)] [] = some (.agg [.ro (.sl 1 (xs.take 2000)), .ro (.int .i64 0)], []) := callLim_x (by simp [XS, orX, xIndex, xCut, xSplitN, xItoa, xCopy, xText, xOpen])
end Go.Qz
