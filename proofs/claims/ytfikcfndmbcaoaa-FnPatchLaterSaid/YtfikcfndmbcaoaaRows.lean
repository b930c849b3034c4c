/-
  No cell of these rows narrows 'for every input' (looked for: loops, veiled, ifaces, maps, wideKeys, modest, calm, conditions, laid).
  DERIVED. THE GIVEN ROWS OF THIS SEAT. 6 by the template 'for every input the law returns true; each argument reads behind the call as it read before'; 0 by the template 'total and deterministic' (their statements: YtfikcfndmbcaoaaTotals.lean).
  GIVEN WITH THE SEED: the statements are not yours to turn. If you find one false, say at which input.
  Laid BY PROGRAM, IN A SANDBOX (cutbox-rows.mjs): the forced cells as the released guide's own fill.sh prints them over the translation 9b11fe68952be762… (all of the seat's roots in one cut). By AI agents, Wed Nov 11 2026. No macro, syntax, notation, axiom, sorry.
-/
import Derived.Test.YtfikcfndmbcaoaaChecked
import GoSem.Claim
import GoSem.ClaimJoined
import GoSem.ClaimMapViews
import Derived.JoinedTies
import Derived.KernelRfl
namespace Go.Proofs.Ytfikcfndmbcaoaa
/- THE CELL 'sum', in the pinned program and in every row, IS THE sha256 OF THE DUMP (.gsa) THAT YtfikcfndmbcaoaaProg.lean LOADS. Nothing in Lean hashes anything: it is a label: what it is worth is what the hold of that sum in a sandbox is worth. -/
noncomputable def Try.pinned : Pinned := { name := "ytfikcfndmbcaoaa", sum := "9b11fe68952be762179c061769658c7782248212c80da0011f5a072e4cce8afe", checked := Try.checked }
namespace Rows
def none {H : Type} : Left H := { results := [], args := [] }

/-- 'laws.FnExactFilesOk': WHATEVER THE INPUT: true; the input reads as it did. -/
def fnExactFilesOkSpec : ChangeSpec := { name := "fnExactFilesOk", fn := fun _ => fun
  | [d] => { results := [.lit (.bool true)], args := [d] }
  | _ => none }
def fnExactFilesOkRow : OpenClaim := { program := "ytfikcfndmbcaoaa", sum := "9b11fe68952be762179c061769658c7782248212c80da0011f5a072e4cce8afe", func := "loop.example/jackstay/laws.FnExactFilesOk", spec := "fnExactFilesOk", unfollowed := true, recurses := true, apart := false }
def FnExactFilesOkSaid : Prop := fnExactFilesOkRow.holds Try.pinned (OpenSpec.ofChange fnExactFilesOkSpec)

/-- ITS FALSE NEIGHBOUR: 'it returns false'. Refute it at one input. -/
def fnExactFilesOkWrong : ChangeSpec := { name := "fnExactFilesOk", fn := fun _ => fun
  | [d] => { results := [.lit (.bool false)], args := [d] }
  | _ => none }
def FnExactFilesOkWrongFalsely : Prop := fnExactFilesOkRow.holds Try.pinned (OpenSpec.ofChange fnExactFilesOkWrong)

/-- 'laws.FnExactHunksOk': WHATEVER THE INPUT: true; the input reads as it did. -/
def fnExactHunksOkSpec : ChangeSpec := { name := "fnExactHunksOk", fn := fun _ => fun
  | [d] => { results := [.lit (.bool true)], args := [d] }
  | _ => none }
def fnExactHunksOkRow : OpenClaim := { program := "ytfikcfndmbcaoaa", sum := "9b11fe68952be762179c061769658c7782248212c80da0011f5a072e4cce8afe", func := "loop.example/jackstay/laws.FnExactHunksOk", spec := "fnExactHunksOk", unfollowed := true, recurses := true, apart := false }
def FnExactHunksOkSaid : Prop := fnExactHunksOkRow.holds Try.pinned (OpenSpec.ofChange fnExactHunksOkSpec)

/-- ITS FALSE NEIGHBOUR: 'it returns false'. Refute it at one input. -/
def fnExactHunksOkWrong : ChangeSpec := { name := "fnExactHunksOk", fn := fun _ => fun
  | [d] => { results := [.lit (.bool false)], args := [d] }
  | _ => none }
def FnExactHunksOkWrongFalsely : Prop := fnExactHunksOkRow.holds Try.pinned (OpenSpec.ofChange fnExactHunksOkWrong)

/-- 'laws.FnExactDiffOf': WHATEVER THE INPUT: true; the input reads as it did. -/
def fnExactDiffOfSpec : ChangeSpec := { name := "fnExactDiffOf", fn := fun _ => fun
  | [d1, d2] => { results := [.lit (.bool true)], args := [d1, d2] }
  | _ => none }
def fnExactDiffOfRow : OpenClaim := { program := "ytfikcfndmbcaoaa", sum := "9b11fe68952be762179c061769658c7782248212c80da0011f5a072e4cce8afe", func := "loop.example/jackstay/laws.FnExactDiffOf", spec := "fnExactDiffOf", unfollowed := true, recurses := true, apart := false }
def FnExactDiffOfSaid : Prop := fnExactDiffOfRow.holds Try.pinned (OpenSpec.ofChange fnExactDiffOfSpec)

/-- ITS FALSE NEIGHBOUR: 'it returns false'. Refute it at one input. -/
def fnExactDiffOfWrong : ChangeSpec := { name := "fnExactDiffOf", fn := fun _ => fun
  | [d1, d2] => { results := [.lit (.bool false)], args := [d1, d2] }
  | _ => none }
def FnExactDiffOfWrongFalsely : Prop := fnExactDiffOfRow.holds Try.pinned (OpenSpec.ofChange fnExactDiffOfWrong)

/-- 'laws.FnDiffBack': WHATEVER THE INPUT: true; the input reads as it did. -/
def fnDiffBackSpec : ChangeSpec := { name := "fnDiffBack", fn := fun _ => fun
  | [d] => { results := [.lit (.bool true)], args := [d] }
  | _ => none }
def fnDiffBackRow : OpenClaim := { program := "ytfikcfndmbcaoaa", sum := "9b11fe68952be762179c061769658c7782248212c80da0011f5a072e4cce8afe", func := "loop.example/jackstay/laws.FnDiffBack", spec := "fnDiffBack", inPlace := ["slices.overlaps[string]"], unfollowed := true, recurses := true, apart := false }
def FnDiffBackSaid : Prop := fnDiffBackRow.holds Try.pinned (OpenSpec.ofChange fnDiffBackSpec)

/-- ITS FALSE NEIGHBOUR: 'it returns false'. Refute it at one input. -/
def fnDiffBackWrong : ChangeSpec := { name := "fnDiffBack", fn := fun _ => fun
  | [d] => { results := [.lit (.bool false)], args := [d] }
  | _ => none }
def FnDiffBackWrongFalsely : Prop := fnDiffBackRow.holds Try.pinned (OpenSpec.ofChange fnDiffBackWrong)

/-- 'laws.FnPatchLater': WHATEVER THE INPUT: true; the input reads as it did. -/
def fnPatchLaterSpec : ChangeSpec := { name := "fnPatchLater", fn := fun _ => fun
  | [d1, d2] => { results := [.lit (.bool true)], args := [d1, d2] }
  | _ => none }
def fnPatchLaterRow : OpenClaim := { program := "ytfikcfndmbcaoaa", sum := "9b11fe68952be762179c061769658c7782248212c80da0011f5a072e4cce8afe", func := "loop.example/jackstay/laws.FnPatchLater", spec := "fnPatchLater", inPlace := ["slices.overlaps[string]"], unfollowed := true, recurses := true, apart := false }
def FnPatchLaterSaid : Prop := fnPatchLaterRow.holds Try.pinned (OpenSpec.ofChange fnPatchLaterSpec)

/-- ITS FALSE NEIGHBOUR: 'it returns false'. Refute it at one input. -/
def fnPatchLaterWrong : ChangeSpec := { name := "fnPatchLater", fn := fun _ => fun
  | [d1, d2] => { results := [.lit (.bool false)], args := [d1, d2] }
  | _ => none }
def FnPatchLaterWrongFalsely : Prop := fnPatchLaterRow.holds Try.pinned (OpenSpec.ofChange fnPatchLaterWrong)

/-- 'laws.FnExactPatch': WHATEVER THE INPUT: true; the input reads as it did. -/
def fnExactPatchSpec : ChangeSpec := { name := "fnExactPatch", fn := fun _ => fun
  | [d1, d2, d3] => { results := [.lit (.bool true)], args := [d1, d2, d3] }
  | _ => none }
def fnExactPatchRow : OpenClaim := { program := "ytfikcfndmbcaoaa", sum := "9b11fe68952be762179c061769658c7782248212c80da0011f5a072e4cce8afe", func := "loop.example/jackstay/laws.FnExactPatch", spec := "fnExactPatch", inPlace := ["slices.overlaps[string]"], unfollowed := true, recurses := true, apart := false }
def FnExactPatchSaid : Prop := fnExactPatchRow.holds Try.pinned (OpenSpec.ofChange fnExactPatchSpec)

/-- ITS FALSE NEIGHBOUR: 'it returns false'. Refute it at one input. -/
def fnExactPatchWrong : ChangeSpec := { name := "fnExactPatch", fn := fun _ => fun
  | [d1, d2, d3] => { results := [.lit (.bool false)], args := [d1, d2, d3] }
  | _ => none }
def FnExactPatchWrongFalsely : Prop := fnExactPatchRow.holds Try.pinned (OpenSpec.ofChange fnExactPatchWrong)

/- THE SECOND FORM. 'bulk': how many values and letters a reading holds, each counted each time it is reached (what is shared counts as often as it is met; a slice's spare places count too). A statement '..UptoSaid' is the law's where the arguments, and the package variables that the reading takes, are together of bulk at most 1048576: NARROWER than '..Said'. Prove '..Said' where nothing that the law and all that it calls make is longer than what came in: it says more and counts as full. Else prove '..UptoSaid'. A law counts once. -/
mutual
def uptoBulk {H : Type} : DataW H → Nat
  | .lit (.string bytes) => bytes.length + 1
  | .lit _ => 1
  | .nil => 1
  | .ptr d => uptoBulk d + 1
  | .slice elems spare => uptoBulkAll elems + uptoBulkAll spare + 1
  | .agg parts => uptoBulkAll parts + 1
  | .iface _ d => uptoBulk d + 1
  | .map entries => uptoBulkEntries entries + 1
  | .held _ => 1
def uptoBulkAll {H : Type} : List (DataW H) → Nat
  | [] => 0
  | d :: r => uptoBulk d + uptoBulkAll r
def uptoBulkEntries {H : Type} : List (Lit × DataW H) → Nat
  | [] => 0
  | x :: r => uptoBulkEntry x + uptoBulkEntries r
def uptoBulkEntry {H : Type} : Lit × DataW H → Nat
  | (.string bytes, d) => bytes.length + uptoBulk d + 1
  | (_, d) => uptoBulk d + 1
 end
def uptoSmall : (H : Type) → List (DataW H) → Bool := fun _ ds => decide (uptoBulkAll ds ≤ 1048576)
def OpenSpec.upto (s : _root_.Go.ChangeSpec) : _root_.Go.OpenSpec := { _root_.Go.OpenSpec.ofChange s with cond := some uptoSmall }

/-- 'laws.FnExactFilesOk', WHERE WHAT IT READS IS OF BULK AT MOST 1048576: true; the input reads as it did. -/
def fnExactFilesOkUptoRow : OpenClaim := { program := "ytfikcfndmbcaoaa", sum := "9b11fe68952be762179c061769658c7782248212c80da0011f5a072e4cce8afe", func := "loop.example/jackstay/laws.FnExactFilesOk", spec := "fnExactFilesOk", unfollowed := true, recurses := true, apart := false, narrowed := true }
def FnExactFilesOkUptoSaid : Prop := fnExactFilesOkUptoRow.holds Try.pinned (OpenSpec.upto fnExactFilesOkSpec)

/-- 'laws.FnExactHunksOk', WHERE WHAT IT READS IS OF BULK AT MOST 1048576: true; the input reads as it did. -/
def fnExactHunksOkUptoRow : OpenClaim := { program := "ytfikcfndmbcaoaa", sum := "9b11fe68952be762179c061769658c7782248212c80da0011f5a072e4cce8afe", func := "loop.example/jackstay/laws.FnExactHunksOk", spec := "fnExactHunksOk", unfollowed := true, recurses := true, apart := false, narrowed := true }
def FnExactHunksOkUptoSaid : Prop := fnExactHunksOkUptoRow.holds Try.pinned (OpenSpec.upto fnExactHunksOkSpec)

/-- 'laws.FnExactDiffOf', WHERE WHAT IT READS IS OF BULK AT MOST 1048576: true; the input reads as it did. -/
def fnExactDiffOfUptoRow : OpenClaim := { program := "ytfikcfndmbcaoaa", sum := "9b11fe68952be762179c061769658c7782248212c80da0011f5a072e4cce8afe", func := "loop.example/jackstay/laws.FnExactDiffOf", spec := "fnExactDiffOf", unfollowed := true, recurses := true, apart := false, narrowed := true }
def FnExactDiffOfUptoSaid : Prop := fnExactDiffOfUptoRow.holds Try.pinned (OpenSpec.upto fnExactDiffOfSpec)

/-- 'laws.FnDiffBack', WHERE WHAT IT READS IS OF BULK AT MOST 1048576: true; the input reads as it did. -/
def fnDiffBackUptoRow : OpenClaim := { program := "ytfikcfndmbcaoaa", sum := "9b11fe68952be762179c061769658c7782248212c80da0011f5a072e4cce8afe", func := "loop.example/jackstay/laws.FnDiffBack", spec := "fnDiffBack", inPlace := ["slices.overlaps[string]"], unfollowed := true, recurses := true, apart := false, narrowed := true }
def FnDiffBackUptoSaid : Prop := fnDiffBackUptoRow.holds Try.pinned (OpenSpec.upto fnDiffBackSpec)

/-- 'laws.FnPatchLater', WHERE WHAT IT READS IS OF BULK AT MOST 1048576: true; the input reads as it did. -/
def fnPatchLaterUptoRow : OpenClaim := { program := "ytfikcfndmbcaoaa", sum := "9b11fe68952be762179c061769658c7782248212c80da0011f5a072e4cce8afe", func := "loop.example/jackstay/laws.FnPatchLater", spec := "fnPatchLater", inPlace := ["slices.overlaps[string]"], unfollowed := true, recurses := true, apart := false, narrowed := true }
def FnPatchLaterUptoSaid : Prop := fnPatchLaterUptoRow.holds Try.pinned (OpenSpec.upto fnPatchLaterSpec)

/-- 'laws.FnExactPatch', WHERE WHAT IT READS IS OF BULK AT MOST 1048576: true; the input reads as it did. -/
def fnExactPatchUptoRow : OpenClaim := { program := "ytfikcfndmbcaoaa", sum := "9b11fe68952be762179c061769658c7782248212c80da0011f5a072e4cce8afe", func := "loop.example/jackstay/laws.FnExactPatch", spec := "fnExactPatch", inPlace := ["slices.overlaps[string]"], unfollowed := true, recurses := true, apart := false, narrowed := true }
def FnExactPatchUptoSaid : Prop := fnExactPatchUptoRow.holds Try.pinned (OpenSpec.upto fnExactPatchSpec)

end Rows
end Go.Proofs.Ytfikcfndmbcaoaa
