/-
  No cell of these rows narrows 'for every input' (looked for: loops, veiled, ifaces, maps, wideKeys, modest, calm, conditions, laid).
  DERIVED. THE GIVEN ROWS OF THIS SEAT. 6 by the template 'for every input the law returns true; each argument reads behind the call as it read before'; 0 by the template 'total and deterministic' (their statements: YtikdjbagodebiaaTotals.lean).
  GIVEN WITH THE SEED: the statements are not yours to turn. If you find one false, say at which input.
  Laid BY PROGRAM, IN A SANDBOX (cutbox-rows.mjs): the forced cells as the released guide's own fill.sh prints them over the translation 627db30bef48c7e4… (all of the seat's roots in one cut). By AI agents, Wed Nov 11 2026. No macro, syntax, notation, axiom, sorry.
-/
import Derived.Test.YtikdjbagodebiaaChecked
import GoSem.Claim
import GoSem.ClaimJoined
import GoSem.ClaimMapViews
import Derived.JoinedTies
import Derived.KernelRfl
namespace Go.Proofs.Ytikdjbagodebiaa
/- THE CELL 'sum', in the pinned program and in every row, IS THE sha256 OF THE DUMP (.gsa) THAT YtikdjbagodebiaaProg.lean LOADS. Nothing in Lean hashes anything: it is a label: what it is worth is what the hold of that sum in a sandbox is worth. -/
noncomputable def Try.pinned : Pinned := { name := "ytikdjbagodebiaa", sum := "627db30bef48c7e4458abae161266754388487c0e31b94755989ed35bdc42ec5", checked := Try.checked }
namespace Rows
def none {H : Type} : Left H := { results := [], args := [] }

/-- 'laws.FnDiffOf': WHATEVER THE INPUT: true; the input reads as it did. -/
def fnDiffOfSpec : ChangeSpec := { name := "fnDiffOf", fn := fun _ => fun
  | [d] => { results := [.lit (.bool true)], args := [d] }
  | _ => none }
def fnDiffOfRow : OpenClaim := { program := "ytikdjbagodebiaa", sum := "627db30bef48c7e4458abae161266754388487c0e31b94755989ed35bdc42ec5", func := "loop.example/jackstay/laws.FnDiffOf", spec := "fnDiffOf", inPlace := ["slices.overlaps[string]"], unfollowed := true, recurses := true, apart := false }
def FnDiffOfSaid : Prop := fnDiffOfRow.holds Try.pinned (OpenSpec.ofChange fnDiffOfSpec)

/-- ITS FALSE NEIGHBOUR: 'it returns false'. Refute it at one input. -/
def fnDiffOfWrong : ChangeSpec := { name := "fnDiffOf", fn := fun _ => fun
  | [d] => { results := [.lit (.bool false)], args := [d] }
  | _ => none }
def FnDiffOfWrongFalsely : Prop := fnDiffOfRow.holds Try.pinned (OpenSpec.ofChange fnDiffOfWrong)

/-- 'laws.FnPatchNone': WHATEVER THE INPUT: true; the input reads as it did. -/
def fnPatchNoneSpec : ChangeSpec := { name := "fnPatchNone", fn := fun _ => fun
  | [d] => { results := [.lit (.bool true)], args := [d] }
  | _ => none }
def fnPatchNoneRow : OpenClaim := { program := "ytikdjbagodebiaa", sum := "627db30bef48c7e4458abae161266754388487c0e31b94755989ed35bdc42ec5", func := "loop.example/jackstay/laws.FnPatchNone", spec := "fnPatchNone", inPlace := ["slices.overlaps[string]"], unfollowed := true, recurses := true, apart := false }
def FnPatchNoneSaid : Prop := fnPatchNoneRow.holds Try.pinned (OpenSpec.ofChange fnPatchNoneSpec)

/-- ITS FALSE NEIGHBOUR: 'it returns false'. Refute it at one input. -/
def fnPatchNoneWrong : ChangeSpec := { name := "fnPatchNone", fn := fun _ => fun
  | [d] => { results := [.lit (.bool false)], args := [d] }
  | _ => none }
def FnPatchNoneWrongFalsely : Prop := fnPatchNoneRow.holds Try.pinned (OpenSpec.ofChange fnPatchNoneWrong)

/-- 'laws.FnHunksLess': WHATEVER THE INPUT: true; the input reads as it did. -/
def fnHunksLessSpec : ChangeSpec := { name := "fnHunksLess", fn := fun _ => fun
  | [d1, d2] => { results := [.lit (.bool true)], args := [d1, d2] }
  | _ => none }
def fnHunksLessRow : OpenClaim := { program := "ytikdjbagodebiaa", sum := "627db30bef48c7e4458abae161266754388487c0e31b94755989ed35bdc42ec5", func := "loop.example/jackstay/laws.FnHunksLess", spec := "fnHunksLess", inPlace := ["slices.overlaps[string]"], unfollowed := true, recurses := true, apart := false }
def FnHunksLessSaid : Prop := fnHunksLessRow.holds Try.pinned (OpenSpec.ofChange fnHunksLessSpec)

/-- ITS FALSE NEIGHBOUR: 'it returns false'. Refute it at one input. -/
def fnHunksLessWrong : ChangeSpec := { name := "fnHunksLess", fn := fun _ => fun
  | [d1, d2] => { results := [.lit (.bool false)], args := [d1, d2] }
  | _ => none }
def FnHunksLessWrongFalsely : Prop := fnHunksLessRow.holds Try.pinned (OpenSpec.ofChange fnHunksLessWrong)

/-- 'laws.FnPatch': WHATEVER THE INPUT: true; the input reads as it did. -/
def fnPatchSpec : ChangeSpec := { name := "fnPatch", fn := fun _ => fun
  | [d] => { results := [.lit (.bool true)], args := [d] }
  | _ => none }
def fnPatchRow : OpenClaim := { program := "ytikdjbagodebiaa", sum := "627db30bef48c7e4458abae161266754388487c0e31b94755989ed35bdc42ec5", func := "loop.example/jackstay/laws.FnPatch", spec := "fnPatch", inPlace := ["slices.overlaps[string]"], unfollowed := true, recurses := true, apart := false }
def FnPatchSaid : Prop := fnPatchRow.holds Try.pinned (OpenSpec.ofChange fnPatchSpec)

/-- ITS FALSE NEIGHBOUR: 'it returns false'. Refute it at one input. -/
def fnPatchWrong : ChangeSpec := { name := "fnPatch", fn := fun _ => fun
  | [d] => { results := [.lit (.bool false)], args := [d] }
  | _ => none }
def FnPatchWrongFalsely : Prop := fnPatchRow.holds Try.pinned (OpenSpec.ofChange fnPatchWrong)

/-- 'laws.FnPatchFuzz': WHATEVER THE INPUT: true; the input reads as it did. -/
def fnPatchFuzzSpec : ChangeSpec := { name := "fnPatchFuzz", fn := fun _ => fun
  | [d] => { results := [.lit (.bool true)], args := [d] }
  | _ => none }
def fnPatchFuzzRow : OpenClaim := { program := "ytikdjbagodebiaa", sum := "627db30bef48c7e4458abae161266754388487c0e31b94755989ed35bdc42ec5", func := "loop.example/jackstay/laws.FnPatchFuzz", spec := "fnPatchFuzz", inPlace := ["slices.overlaps[string]"], unfollowed := true, recurses := true, apart := false }
def FnPatchFuzzSaid : Prop := fnPatchFuzzRow.holds Try.pinned (OpenSpec.ofChange fnPatchFuzzSpec)

/-- ITS FALSE NEIGHBOUR: 'it returns false'. Refute it at one input. -/
def fnPatchFuzzWrong : ChangeSpec := { name := "fnPatchFuzz", fn := fun _ => fun
  | [d] => { results := [.lit (.bool false)], args := [d] }
  | _ => none }
def FnPatchFuzzWrongFalsely : Prop := fnPatchFuzzRow.holds Try.pinned (OpenSpec.ofChange fnPatchFuzzWrong)

/-- 'laws.FnPatchTwice': WHATEVER THE INPUT: true; the input reads as it did. -/
def fnPatchTwiceSpec : ChangeSpec := { name := "fnPatchTwice", fn := fun _ => fun
  | [d] => { results := [.lit (.bool true)], args := [d] }
  | _ => none }
def fnPatchTwiceRow : OpenClaim := { program := "ytikdjbagodebiaa", sum := "627db30bef48c7e4458abae161266754388487c0e31b94755989ed35bdc42ec5", func := "loop.example/jackstay/laws.FnPatchTwice", spec := "fnPatchTwice", inPlace := ["slices.overlaps[string]"], unfollowed := true, recurses := true, apart := false }
def FnPatchTwiceSaid : Prop := fnPatchTwiceRow.holds Try.pinned (OpenSpec.ofChange fnPatchTwiceSpec)

/-- ITS FALSE NEIGHBOUR: 'it returns false'. Refute it at one input. -/
def fnPatchTwiceWrong : ChangeSpec := { name := "fnPatchTwice", fn := fun _ => fun
  | [d] => { results := [.lit (.bool false)], args := [d] }
  | _ => none }
def FnPatchTwiceWrongFalsely : Prop := fnPatchTwiceRow.holds Try.pinned (OpenSpec.ofChange fnPatchTwiceWrong)

/- THE SECOND FORM. 'bulk': how many values and letters a reading holds, each counted each time it is reached (what is shared counts as often as it is met; a slice's spare places count too). A statement '..UptoSaid' is the law's where the arguments, and the package variables that the reading takes, are together of bulk at most 1048576: NARROWER than '..Said'. Prove '..Said' where nothing that the law and all that it calls make is longer than what came in: it says more and counts as full. Else prove '..UptoSaid'. A law counts once. -/
mutual
def uptoBulk {H : Type} : DataW H → Nat
  | .lit (.string bytes) => bytes.length + 1
  | .lit _ => 1
  | .nil => 1
  | .ptr d => uptoBulk d + 1
  | .slice elems spare => uptoBulkAll elems + uptoBulkAll spare + 1
  | .agg parts => uptoBulkAll parts + 1
  | .iface _ d => uptoBulk d + 1
  | .map entries => uptoBulkEntries entries + 1
  | .held _ => 1
def uptoBulkAll {H : Type} : List (DataW H) → Nat
  | [] => 0
  | d :: r => uptoBulk d + uptoBulkAll r
def uptoBulkEntries {H : Type} : List (Lit × DataW H) → Nat
  | [] => 0
  | x :: r => uptoBulkEntry x + uptoBulkEntries r
def uptoBulkEntry {H : Type} : Lit × DataW H → Nat
  | (.string bytes, d) => bytes.length + uptoBulk d + 1
  | (_, d) => uptoBulk d + 1
 end
def uptoSmall : (H : Type) → List (DataW H) → Bool := fun _ ds => decide (uptoBulkAll ds ≤ 1048576)
def OpenSpec.upto (s : _root_.Go.ChangeSpec) : _root_.Go.OpenSpec := { _root_.Go.OpenSpec.ofChange s with cond := some uptoSmall }

/-- 'laws.FnDiffOf', WHERE WHAT IT READS IS OF BULK AT MOST 1048576: true; the input reads as it did. -/
def fnDiffOfUptoRow : OpenClaim := { program := "ytikdjbagodebiaa", sum := "627db30bef48c7e4458abae161266754388487c0e31b94755989ed35bdc42ec5", func := "loop.example/jackstay/laws.FnDiffOf", spec := "fnDiffOf", inPlace := ["slices.overlaps[string]"], unfollowed := true, recurses := true, apart := false, narrowed := true }
def FnDiffOfUptoSaid : Prop := fnDiffOfUptoRow.holds Try.pinned (OpenSpec.upto fnDiffOfSpec)

/-- 'laws.FnPatchNone', WHERE WHAT IT READS IS OF BULK AT MOST 1048576: true; the input reads as it did. -/
def fnPatchNoneUptoRow : OpenClaim := { program := "ytikdjbagodebiaa", sum := "627db30bef48c7e4458abae161266754388487c0e31b94755989ed35bdc42ec5", func := "loop.example/jackstay/laws.FnPatchNone", spec := "fnPatchNone", inPlace := ["slices.overlaps[string]"], unfollowed := true, recurses := true, apart := false, narrowed := true }
def FnPatchNoneUptoSaid : Prop := fnPatchNoneUptoRow.holds Try.pinned (OpenSpec.upto fnPatchNoneSpec)

/-- 'laws.FnHunksLess', WHERE WHAT IT READS IS OF BULK AT MOST 1048576: true; the input reads as it did. -/
def fnHunksLessUptoRow : OpenClaim := { program := "ytikdjbagodebiaa", sum := "627db30bef48c7e4458abae161266754388487c0e31b94755989ed35bdc42ec5", func := "loop.example/jackstay/laws.FnHunksLess", spec := "fnHunksLess", inPlace := ["slices.overlaps[string]"], unfollowed := true, recurses := true, apart := false, narrowed := true }
def FnHunksLessUptoSaid : Prop := fnHunksLessUptoRow.holds Try.pinned (OpenSpec.upto fnHunksLessSpec)

/-- 'laws.FnPatch', WHERE WHAT IT READS IS OF BULK AT MOST 1048576: true; the input reads as it did. -/
def fnPatchUptoRow : OpenClaim := { program := "ytikdjbagodebiaa", sum := "627db30bef48c7e4458abae161266754388487c0e31b94755989ed35bdc42ec5", func := "loop.example/jackstay/laws.FnPatch", spec := "fnPatch", inPlace := ["slices.overlaps[string]"], unfollowed := true, recurses := true, apart := false, narrowed := true }
def FnPatchUptoSaid : Prop := fnPatchUptoRow.holds Try.pinned (OpenSpec.upto fnPatchSpec)

/-- 'laws.FnPatchFuzz', WHERE WHAT IT READS IS OF BULK AT MOST 1048576: true; the input reads as it did. -/
def fnPatchFuzzUptoRow : OpenClaim := { program := "ytikdjbagodebiaa", sum := "627db30bef48c7e4458abae161266754388487c0e31b94755989ed35bdc42ec5", func := "loop.example/jackstay/laws.FnPatchFuzz", spec := "fnPatchFuzz", inPlace := ["slices.overlaps[string]"], unfollowed := true, recurses := true, apart := false, narrowed := true }
def FnPatchFuzzUptoSaid : Prop := fnPatchFuzzUptoRow.holds Try.pinned (OpenSpec.upto fnPatchFuzzSpec)

/-- 'laws.FnPatchTwice', WHERE WHAT IT READS IS OF BULK AT MOST 1048576: true; the input reads as it did. -/
def fnPatchTwiceUptoRow : OpenClaim := { program := "ytikdjbagodebiaa", sum := "627db30bef48c7e4458abae161266754388487c0e31b94755989ed35bdc42ec5", func := "loop.example/jackstay/laws.FnPatchTwice", spec := "fnPatchTwice", inPlace := ["slices.overlaps[string]"], unfollowed := true, recurses := true, apart := false, narrowed := true }
def FnPatchTwiceUptoSaid : Prop := fnPatchTwiceUptoRow.holds Try.pinned (OpenSpec.upto fnPatchTwiceSpec)

end Rows
end Go.Proofs.Ytikdjbagodebiaa
