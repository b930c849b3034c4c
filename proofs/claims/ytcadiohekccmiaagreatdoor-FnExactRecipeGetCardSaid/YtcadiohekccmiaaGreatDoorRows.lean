/-
  NARROWER THAN 'FOR EVERY INPUT', by the rows' own cells (each row's printed sentence says how): FnRecipeTwice: laid · FnRecipeMore: laid · FnRecipeSteps: laid · FnExactRecipeCheck: laid · FnExactRecipeSteps: laid · FnExactRecipePut: laid · FnExactRecipeGet: laid · FnRecipeText: laid.
  DERIVED. THE GIVEN ROWS OF THIS SEAT. 8 by the template 'for every input the law returns true; each argument reads behind the call as it read before'; 0 by the template 'total and deterministic' (their statements: YtcadiohekccmiaaGreatDoorTotals.lean).
  GIVEN WITH THE SEED: the statements are not yours to turn. If you find one false, say at which input.
  Laid BY PROGRAM, IN A SANDBOX (cutbox-rows.mjs): the forced cells as the released guide's own fill.sh prints them over the translation 31ccaedc7ac01b54… (all of the seat's roots in one cut). By AI agents, Wed Nov 11 2026. No macro, syntax, notation, axiom, sorry.
-/
import Derived.Test.YtcadiohekccmiaaGreatDoorChecked
import GoSem.PinnedTables
import GoSem.Claim
import GoSem.ClaimJoined
import GoSem.ClaimMapViews
import Derived.JoinedTies
import Derived.KernelRfl
namespace Go.Proofs.YtcadiohekccmiaaGreatDoor
/- THE CELL 'sum', in the pinned program and in every row, IS THE sha256 OF THE DUMP (.gsa) THAT YtcadiohekccmiaaGreatDoorProg.lean LOADS. Nothing in Lean hashes anything: it is a label: what it is worth is what the hold of that sum in a sandbox is worth. -/
noncomputable def Tryz.pinned : Pinned := { name := "ytcadiohekccmiaagreatdoor", sum := "31ccaedc7ac01b54d14bbc3c7b85654b4157d69c31e3b1e4dce0e4f6a549c27d", checked := Tryz.checked }
namespace Rows
def none {H : Type} : Left H := { results := [], args := [] }

/- WHAT THE LISTED PACKAGE-LEVEL VARIABLES READ AS WHEN THE CALL BEGINS. Each datum BY PROGRAM (the guide's laid-datum.mjs) off the statement by which the dump's own 'gosem.cut.vars' lays the variable. In a bare row this is a premise. The card (YtcadiohekccmiaaGreatDoorCards.lean) ties it to the program's text. -/
def laid_unicode_utf8_acceptRanges {H : Type} : DataW H := .agg [.agg [.lit (.int .u8 128), .lit (.int .u8 191)], .agg [.lit (.int .u8 160), .lit (.int .u8 191)], .agg [.lit (.int .u8 128), .lit (.int .u8 159)], .agg [.lit (.int .u8 144), .lit (.int .u8 191)], .agg [.lit (.int .u8 128), .lit (.int .u8 143)], .agg [.lit (.int .u8 0), .lit (.int .u8 0)], .agg [.lit (.int .u8 0), .lit (.int .u8 0)], .agg [.lit (.int .u8 0), .lit (.int .u8 0)], .agg [.lit (.int .u8 0), .lit (.int .u8 0)], .agg [.lit (.int .u8 0), .lit (.int .u8 0)], .agg [.lit (.int .u8 0), .lit (.int .u8 0)], .agg [.lit (.int .u8 0), .lit (.int .u8 0)], .agg [.lit (.int .u8 0), .lit (.int .u8 0)], .agg [.lit (.int .u8 0), .lit (.int .u8 0)], .agg [.lit (.int .u8 0), .lit (.int .u8 0)], .agg [.lit (.int .u8 0), .lit (.int .u8 0)]]
def laid_errors_errorType {H : Type} : DataW H := .iface "internal/reflectlite.rtype" (.agg [.ptr (.lit (.string [101, 114, 114, 111, 114]))])
/-- One of Go's own tables, pinned by name: the form's constant. -/
def laid_unicode_utf8_first : DataW Unit := Go.Pinned.utf8First

/-- 'laws.FnRecipeTwice': WHATEVER THE INPUT: true; the input reads as it did. -/
def fnRecipeTwiceSpec : ChangeSpec := { name := "fnRecipeTwice", fn := fun _ => fun
  | [d] => { results := [.lit (.bool true)], args := [d] }
  | _ => none }
def fnRecipeTwiceRow : OpenClaim := { program := "ytcadiohekccmiaagreatdoor", sum := "31ccaedc7ac01b54d14bbc3c7b85654b4157d69c31e3b1e4dce0e4f6a549c27d", func := "loop.example/jackstay/laws.FnRecipeTwice", spec := "fnRecipeTwice", inPlace := ["internal/bytealg.IndexByteString", "internal/bytealg.IndexString", "internal/reflectlite.ValueOf", "(internal/reflectlite.Value).Type", "(internal/reflectlite.Value).IsNil", "internal/reflectlite.TypeOf", "(internal/reflectlite.Value).Elem", "(internal/reflectlite.Value).Set"], unfollowed := true, recurses := true, named := ["unicode/utf8.first", "unicode/utf8.acceptRanges", "internal/bytealg.MaxLen", "errors.errorType"], apart := false, laid := [("unicode/utf8.acceptRanges", laid_unicode_utf8_acceptRanges), ("errors.errorType", laid_errors_errorType), ("unicode/utf8.first", laid_unicode_utf8_first)] }
def FnRecipeTwiceSaid : Prop := fnRecipeTwiceRow.holds Tryz.pinned (OpenSpec.ofChange fnRecipeTwiceSpec)

/-- ITS FALSE NEIGHBOUR: 'it returns false'. Refute it at one input. -/
def fnRecipeTwiceWrong : ChangeSpec := { name := "fnRecipeTwice", fn := fun _ => fun
  | [d] => { results := [.lit (.bool false)], args := [d] }
  | _ => none }
def FnRecipeTwiceWrongFalsely : Prop := fnRecipeTwiceRow.holds Tryz.pinned (OpenSpec.ofChange fnRecipeTwiceWrong)

/-- 'laws.FnRecipeMore': WHATEVER THE INPUT: true; the input reads as it did. -/
def fnRecipeMoreSpec : ChangeSpec := { name := "fnRecipeMore", fn := fun _ => fun
  | [d] => { results := [.lit (.bool true)], args := [d] }
  | _ => none }
def fnRecipeMoreRow : OpenClaim := { program := "ytcadiohekccmiaagreatdoor", sum := "31ccaedc7ac01b54d14bbc3c7b85654b4157d69c31e3b1e4dce0e4f6a549c27d", func := "loop.example/jackstay/laws.FnRecipeMore", spec := "fnRecipeMore", inPlace := ["internal/bytealg.IndexByteString", "internal/bytealg.IndexString", "internal/reflectlite.ValueOf", "(internal/reflectlite.Value).Type", "(internal/reflectlite.Value).IsNil", "internal/reflectlite.TypeOf", "(internal/reflectlite.Value).Elem", "(internal/reflectlite.Value).Set"], unfollowed := true, recurses := true, named := ["unicode/utf8.first", "unicode/utf8.acceptRanges", "internal/bytealg.MaxLen", "errors.errorType"], apart := false, laid := [("unicode/utf8.acceptRanges", laid_unicode_utf8_acceptRanges), ("errors.errorType", laid_errors_errorType), ("unicode/utf8.first", laid_unicode_utf8_first)] }
def FnRecipeMoreSaid : Prop := fnRecipeMoreRow.holds Tryz.pinned (OpenSpec.ofChange fnRecipeMoreSpec)

/-- ITS FALSE NEIGHBOUR: 'it returns false'. Refute it at one input. -/
def fnRecipeMoreWrong : ChangeSpec := { name := "fnRecipeMore", fn := fun _ => fun
  | [d] => { results := [.lit (.bool false)], args := [d] }
  | _ => none }
def FnRecipeMoreWrongFalsely : Prop := fnRecipeMoreRow.holds Tryz.pinned (OpenSpec.ofChange fnRecipeMoreWrong)

/-- 'laws.FnRecipeSteps': WHATEVER THE INPUT: true; the input reads as it did. -/
def fnRecipeStepsSpec : ChangeSpec := { name := "fnRecipeSteps", fn := fun _ => fun
  | [d] => { results := [.lit (.bool true)], args := [d] }
  | _ => none }
def fnRecipeStepsRow : OpenClaim := { program := "ytcadiohekccmiaagreatdoor", sum := "31ccaedc7ac01b54d14bbc3c7b85654b4157d69c31e3b1e4dce0e4f6a549c27d", func := "loop.example/jackstay/laws.FnRecipeSteps", spec := "fnRecipeSteps", inPlace := ["internal/bytealg.IndexByteString", "internal/bytealg.IndexString", "internal/reflectlite.ValueOf", "(internal/reflectlite.Value).Type", "(internal/reflectlite.Value).IsNil", "internal/reflectlite.TypeOf", "(internal/reflectlite.Value).Elem", "(internal/reflectlite.Value).Set"], unfollowed := true, recurses := true, named := ["unicode/utf8.first", "unicode/utf8.acceptRanges", "internal/bytealg.MaxLen", "errors.errorType"], apart := false, laid := [("unicode/utf8.acceptRanges", laid_unicode_utf8_acceptRanges), ("errors.errorType", laid_errors_errorType), ("unicode/utf8.first", laid_unicode_utf8_first)] }
def FnRecipeStepsSaid : Prop := fnRecipeStepsRow.holds Tryz.pinned (OpenSpec.ofChange fnRecipeStepsSpec)

/-- ITS FALSE NEIGHBOUR: 'it returns false'. Refute it at one input. -/
def fnRecipeStepsWrong : ChangeSpec := { name := "fnRecipeSteps", fn := fun _ => fun
  | [d] => { results := [.lit (.bool false)], args := [d] }
  | _ => none }
def FnRecipeStepsWrongFalsely : Prop := fnRecipeStepsRow.holds Tryz.pinned (OpenSpec.ofChange fnRecipeStepsWrong)

/-- 'laws.FnExactRecipeCheck': WHATEVER THE INPUT: true; the input reads as it did. -/
def fnExactRecipeCheckSpec : ChangeSpec := { name := "fnExactRecipeCheck", fn := fun _ => fun
  | [d] => { results := [.lit (.bool true)], args := [d] }
  | _ => none }
def fnExactRecipeCheckRow : OpenClaim := { program := "ytcadiohekccmiaagreatdoor", sum := "31ccaedc7ac01b54d14bbc3c7b85654b4157d69c31e3b1e4dce0e4f6a549c27d", func := "loop.example/jackstay/laws.FnExactRecipeCheck", spec := "fnExactRecipeCheck", inPlace := ["internal/bytealg.IndexByteString", "internal/bytealg.IndexString", "internal/reflectlite.ValueOf", "(internal/reflectlite.Value).Type", "(internal/reflectlite.Value).IsNil", "internal/reflectlite.TypeOf", "(internal/reflectlite.Value).Elem", "(internal/reflectlite.Value).Set"], unfollowed := true, recurses := true, named := ["unicode/utf8.first", "unicode/utf8.acceptRanges", "internal/bytealg.MaxLen", "errors.errorType"], apart := false, laid := [("unicode/utf8.acceptRanges", laid_unicode_utf8_acceptRanges), ("errors.errorType", laid_errors_errorType), ("unicode/utf8.first", laid_unicode_utf8_first)] }
def FnExactRecipeCheckSaid : Prop := fnExactRecipeCheckRow.holds Tryz.pinned (OpenSpec.ofChange fnExactRecipeCheckSpec)

/-- ITS FALSE NEIGHBOUR: 'it returns false'. Refute it at one input. -/
def fnExactRecipeCheckWrong : ChangeSpec := { name := "fnExactRecipeCheck", fn := fun _ => fun
  | [d] => { results := [.lit (.bool false)], args := [d] }
  | _ => none }
def FnExactRecipeCheckWrongFalsely : Prop := fnExactRecipeCheckRow.holds Tryz.pinned (OpenSpec.ofChange fnExactRecipeCheckWrong)

/-- 'laws.FnExactRecipeSteps': WHATEVER THE INPUT: true; the input reads as it did. -/
def fnExactRecipeStepsSpec : ChangeSpec := { name := "fnExactRecipeSteps", fn := fun _ => fun
  | [d] => { results := [.lit (.bool true)], args := [d] }
  | _ => none }
def fnExactRecipeStepsRow : OpenClaim := { program := "ytcadiohekccmiaagreatdoor", sum := "31ccaedc7ac01b54d14bbc3c7b85654b4157d69c31e3b1e4dce0e4f6a549c27d", func := "loop.example/jackstay/laws.FnExactRecipeSteps", spec := "fnExactRecipeSteps", inPlace := ["internal/bytealg.IndexByteString", "internal/bytealg.IndexString", "internal/reflectlite.ValueOf", "(internal/reflectlite.Value).Type", "(internal/reflectlite.Value).IsNil", "internal/reflectlite.TypeOf", "(internal/reflectlite.Value).Elem", "(internal/reflectlite.Value).Set"], unfollowed := true, recurses := true, named := ["unicode/utf8.first", "unicode/utf8.acceptRanges", "internal/bytealg.MaxLen", "errors.errorType"], apart := false, laid := [("unicode/utf8.acceptRanges", laid_unicode_utf8_acceptRanges), ("errors.errorType", laid_errors_errorType), ("unicode/utf8.first", laid_unicode_utf8_first)] }
def FnExactRecipeStepsSaid : Prop := fnExactRecipeStepsRow.holds Tryz.pinned (OpenSpec.ofChange fnExactRecipeStepsSpec)

/-- ITS FALSE NEIGHBOUR: 'it returns false'. Refute it at one input. -/
def fnExactRecipeStepsWrong : ChangeSpec := { name := "fnExactRecipeSteps", fn := fun _ => fun
  | [d] => { results := [.lit (.bool false)], args := [d] }
  | _ => none }
def FnExactRecipeStepsWrongFalsely : Prop := fnExactRecipeStepsRow.holds Tryz.pinned (OpenSpec.ofChange fnExactRecipeStepsWrong)

/-- 'laws.FnExactRecipePut': WHATEVER THE INPUT: true; the input reads as it did. -/
def fnExactRecipePutSpec : ChangeSpec := { name := "fnExactRecipePut", fn := fun _ => fun
  | [d] => { results := [.lit (.bool true)], args := [d] }
  | _ => none }
def fnExactRecipePutRow : OpenClaim := { program := "ytcadiohekccmiaagreatdoor", sum := "31ccaedc7ac01b54d14bbc3c7b85654b4157d69c31e3b1e4dce0e4f6a549c27d", func := "loop.example/jackstay/laws.FnExactRecipePut", spec := "fnExactRecipePut", inPlace := ["internal/bytealg.IndexByteString", "internal/bytealg.IndexString", "internal/reflectlite.ValueOf", "(internal/reflectlite.Value).Type", "(internal/reflectlite.Value).IsNil", "internal/reflectlite.TypeOf", "(internal/reflectlite.Value).Elem", "(internal/reflectlite.Value).Set", "internal/abi.NoEscape", "internal/bytealg.MakeNoZero"], unfollowed := true, recurses := true, named := ["unicode/utf8.first", "unicode/utf8.acceptRanges", "internal/bytealg.MaxLen", "errors.errorType"], apart := false, laid := [("unicode/utf8.acceptRanges", laid_unicode_utf8_acceptRanges), ("errors.errorType", laid_errors_errorType), ("unicode/utf8.first", laid_unicode_utf8_first)] }
def FnExactRecipePutSaid : Prop := fnExactRecipePutRow.holds Tryz.pinned (OpenSpec.ofChange fnExactRecipePutSpec)

/-- ITS FALSE NEIGHBOUR: 'it returns false'. Refute it at one input. -/
def fnExactRecipePutWrong : ChangeSpec := { name := "fnExactRecipePut", fn := fun _ => fun
  | [d] => { results := [.lit (.bool false)], args := [d] }
  | _ => none }
def FnExactRecipePutWrongFalsely : Prop := fnExactRecipePutRow.holds Tryz.pinned (OpenSpec.ofChange fnExactRecipePutWrong)

/-- 'laws.FnExactRecipeGet': WHATEVER THE INPUT: true; the input reads as it did. -/
def fnExactRecipeGetSpec : ChangeSpec := { name := "fnExactRecipeGet", fn := fun _ => fun
  | [d] => { results := [.lit (.bool true)], args := [d] }
  | _ => none }
def fnExactRecipeGetRow : OpenClaim := { program := "ytcadiohekccmiaagreatdoor", sum := "31ccaedc7ac01b54d14bbc3c7b85654b4157d69c31e3b1e4dce0e4f6a549c27d", func := "loop.example/jackstay/laws.FnExactRecipeGet", spec := "fnExactRecipeGet", inPlace := ["internal/bytealg.IndexByteString", "internal/bytealg.IndexString", "internal/reflectlite.ValueOf", "(internal/reflectlite.Value).Type", "(internal/reflectlite.Value).IsNil", "internal/reflectlite.TypeOf", "(internal/reflectlite.Value).Elem", "(internal/reflectlite.Value).Set", "internal/abi.NoEscape", "internal/bytealg.MakeNoZero"], unfollowed := true, recurses := true, named := ["unicode/utf8.first", "unicode/utf8.acceptRanges", "internal/bytealg.MaxLen", "errors.errorType"], apart := false, laid := [("unicode/utf8.acceptRanges", laid_unicode_utf8_acceptRanges), ("errors.errorType", laid_errors_errorType), ("unicode/utf8.first", laid_unicode_utf8_first)] }
def FnExactRecipeGetSaid : Prop := fnExactRecipeGetRow.holds Tryz.pinned (OpenSpec.ofChange fnExactRecipeGetSpec)

/-- ITS FALSE NEIGHBOUR: 'it returns false'. Refute it at one input. -/
def fnExactRecipeGetWrong : ChangeSpec := { name := "fnExactRecipeGet", fn := fun _ => fun
  | [d] => { results := [.lit (.bool false)], args := [d] }
  | _ => none }
def FnExactRecipeGetWrongFalsely : Prop := fnExactRecipeGetRow.holds Tryz.pinned (OpenSpec.ofChange fnExactRecipeGetWrong)

/-- 'laws.FnRecipeText': WHATEVER THE INPUT: true; the input reads as it did. -/
def fnRecipeTextSpec : ChangeSpec := { name := "fnRecipeText", fn := fun _ => fun
  | [d1, d2] => { results := [.lit (.bool true)], args := [d1, d2] }
  | _ => none }
def fnRecipeTextRow : OpenClaim := { program := "ytcadiohekccmiaagreatdoor", sum := "31ccaedc7ac01b54d14bbc3c7b85654b4157d69c31e3b1e4dce0e4f6a549c27d", func := "loop.example/jackstay/laws.FnRecipeText", spec := "fnRecipeText", inPlace := ["internal/bytealg.IndexByteString", "internal/bytealg.IndexString", "internal/reflectlite.ValueOf", "(internal/reflectlite.Value).Type", "(internal/reflectlite.Value).IsNil", "internal/reflectlite.TypeOf", "(internal/reflectlite.Value).Elem", "(internal/reflectlite.Value).Set", "internal/abi.NoEscape", "internal/bytealg.MakeNoZero"], unfollowed := true, recurses := true, named := ["unicode/utf8.first", "unicode/utf8.acceptRanges", "internal/bytealg.MaxLen", "errors.errorType"], apart := false, laid := [("unicode/utf8.acceptRanges", laid_unicode_utf8_acceptRanges), ("errors.errorType", laid_errors_errorType), ("unicode/utf8.first", laid_unicode_utf8_first)] }
def FnRecipeTextSaid : Prop := fnRecipeTextRow.holds Tryz.pinned (OpenSpec.ofChange fnRecipeTextSpec)

/-- ITS FALSE NEIGHBOUR: 'it returns false'. Refute it at one input. -/
def fnRecipeTextWrong : ChangeSpec := { name := "fnRecipeText", fn := fun _ => fun
  | [d1, d2] => { results := [.lit (.bool false)], args := [d1, d2] }
  | _ => none }
def FnRecipeTextWrongFalsely : Prop := fnRecipeTextRow.holds Tryz.pinned (OpenSpec.ofChange fnRecipeTextWrong)

/- THE SECOND FORM. 'bulk': how many values and letters a reading holds, each counted each time it is reached (what is shared counts as often as it is met; a slice's spare places count too). A statement '..UptoSaid' is the law's where the arguments, and the package variables that the reading takes, are together of bulk at most 1048576: NARROWER than '..Said'. Prove '..Said' where nothing that the law and all that it calls make is longer than what came in: it says more and counts as full. Else prove '..UptoSaid'. A law counts once. -/
mutual
def uptoBulk {H : Type} : DataW H → Nat
  | .lit (.string bytes) => bytes.length + 1
  | .lit _ => 1
  | .nil => 1
  | .ptr d => uptoBulk d + 1
  | .slice elems spare => uptoBulkAll elems + uptoBulkAll spare + 1
  | .agg parts => uptoBulkAll parts + 1
  | .iface _ d => uptoBulk d + 1
  | .map entries => uptoBulkEntries entries + 1
  | .held _ => 1
def uptoBulkAll {H : Type} : List (DataW H) → Nat
  | [] => 0
  | d :: r => uptoBulk d + uptoBulkAll r
def uptoBulkEntries {H : Type} : List (Lit × DataW H) → Nat
  | [] => 0
  | x :: r => uptoBulkEntry x + uptoBulkEntries r
def uptoBulkEntry {H : Type} : Lit × DataW H → Nat
  | (.string bytes, d) => bytes.length + uptoBulk d + 1
  | (_, d) => uptoBulk d + 1
 end
def uptoSmall : (H : Type) → List (DataW H) → Bool := fun _ ds => decide (uptoBulkAll ds ≤ 1048576)
def OpenSpec.upto (s : _root_.Go.ChangeSpec) : _root_.Go.OpenSpec := { _root_.Go.OpenSpec.ofChange s with cond := some uptoSmall }

/-- 'laws.FnRecipeTwice', WHERE WHAT IT READS IS OF BULK AT MOST 1048576: true; the input reads as it did. -/
def fnRecipeTwiceUptoRow : OpenClaim := { program := "ytcadiohekccmiaagreatdoor", sum := "31ccaedc7ac01b54d14bbc3c7b85654b4157d69c31e3b1e4dce0e4f6a549c27d", func := "loop.example/jackstay/laws.FnRecipeTwice", spec := "fnRecipeTwice", inPlace := ["internal/bytealg.IndexByteString", "internal/bytealg.IndexString", "internal/reflectlite.ValueOf", "(internal/reflectlite.Value).Type", "(internal/reflectlite.Value).IsNil", "internal/reflectlite.TypeOf", "(internal/reflectlite.Value).Elem", "(internal/reflectlite.Value).Set"], unfollowed := true, recurses := true, named := ["unicode/utf8.first", "unicode/utf8.acceptRanges", "internal/bytealg.MaxLen", "errors.errorType"], apart := false, laid := [("unicode/utf8.acceptRanges", laid_unicode_utf8_acceptRanges), ("errors.errorType", laid_errors_errorType), ("unicode/utf8.first", laid_unicode_utf8_first)], narrowed := true }
def FnRecipeTwiceUptoSaid : Prop := fnRecipeTwiceUptoRow.holds Tryz.pinned (OpenSpec.upto fnRecipeTwiceSpec)

/-- 'laws.FnRecipeMore', WHERE WHAT IT READS IS OF BULK AT MOST 1048576: true; the input reads as it did. -/
def fnRecipeMoreUptoRow : OpenClaim := { program := "ytcadiohekccmiaagreatdoor", sum := "31ccaedc7ac01b54d14bbc3c7b85654b4157d69c31e3b1e4dce0e4f6a549c27d", func := "loop.example/jackstay/laws.FnRecipeMore", spec := "fnRecipeMore", inPlace := ["internal/bytealg.IndexByteString", "internal/bytealg.IndexString", "internal/reflectlite.ValueOf", "(internal/reflectlite.Value).Type", "(internal/reflectlite.Value).IsNil", "internal/reflectlite.TypeOf", "(internal/reflectlite.Value).Elem", "(internal/reflectlite.Value).Set"], unfollowed := true, recurses := true, named := ["unicode/utf8.first", "unicode/utf8.acceptRanges", "internal/bytealg.MaxLen", "errors.errorType"], apart := false, laid := [("unicode/utf8.acceptRanges", laid_unicode_utf8_acceptRanges), ("errors.errorType", laid_errors_errorType), ("unicode/utf8.first", laid_unicode_utf8_first)], narrowed := true }
def FnRecipeMoreUptoSaid : Prop := fnRecipeMoreUptoRow.holds Tryz.pinned (OpenSpec.upto fnRecipeMoreSpec)

/-- 'laws.FnRecipeSteps', WHERE WHAT IT READS IS OF BULK AT MOST 1048576: true; the input reads as it did. -/
def fnRecipeStepsUptoRow : OpenClaim := { program := "ytcadiohekccmiaagreatdoor", sum := "31ccaedc7ac01b54d14bbc3c7b85654b4157d69c31e3b1e4dce0e4f6a549c27d", func := "loop.example/jackstay/laws.FnRecipeSteps", spec := "fnRecipeSteps", inPlace := ["internal/bytealg.IndexByteString", "internal/bytealg.IndexString", "internal/reflectlite.ValueOf", "(internal/reflectlite.Value).Type", "(internal/reflectlite.Value).IsNil", "internal/reflectlite.TypeOf", "(internal/reflectlite.Value).Elem", "(internal/reflectlite.Value).Set"], unfollowed := true, recurses := true, named := ["unicode/utf8.first", "unicode/utf8.acceptRanges", "internal/bytealg.MaxLen", "errors.errorType"], apart := false, laid := [("unicode/utf8.acceptRanges", laid_unicode_utf8_acceptRanges), ("errors.errorType", laid_errors_errorType), ("unicode/utf8.first", laid_unicode_utf8_first)], narrowed := true }
def FnRecipeStepsUptoSaid : Prop := fnRecipeStepsUptoRow.holds Tryz.pinned (OpenSpec.upto fnRecipeStepsSpec)

/-- 'laws.FnExactRecipeCheck', WHERE WHAT IT READS IS OF BULK AT MOST 1048576: true; the input reads as it did. -/
def fnExactRecipeCheckUptoRow : OpenClaim := { program := "ytcadiohekccmiaagreatdoor", sum := "31ccaedc7ac01b54d14bbc3c7b85654b4157d69c31e3b1e4dce0e4f6a549c27d", func := "loop.example/jackstay/laws.FnExactRecipeCheck", spec := "fnExactRecipeCheck", inPlace := ["internal/bytealg.IndexByteString", "internal/bytealg.IndexString", "internal/reflectlite.ValueOf", "(internal/reflectlite.Value).Type", "(internal/reflectlite.Value).IsNil", "internal/reflectlite.TypeOf", "(internal/reflectlite.Value).Elem", "(internal/reflectlite.Value).Set"], unfollowed := true, recurses := true, named := ["unicode/utf8.first", "unicode/utf8.acceptRanges", "internal/bytealg.MaxLen", "errors.errorType"], apart := false, laid := [("unicode/utf8.acceptRanges", laid_unicode_utf8_acceptRanges), ("errors.errorType", laid_errors_errorType), ("unicode/utf8.first", laid_unicode_utf8_first)], narrowed := true }
def FnExactRecipeCheckUptoSaid : Prop := fnExactRecipeCheckUptoRow.holds Tryz.pinned (OpenSpec.upto fnExactRecipeCheckSpec)

/-- 'laws.FnExactRecipeSteps', WHERE WHAT IT READS IS OF BULK AT MOST 1048576: true; the input reads as it did. -/
def fnExactRecipeStepsUptoRow : OpenClaim := { program := "ytcadiohekccmiaagreatdoor", sum := "31ccaedc7ac01b54d14bbc3c7b85654b4157d69c31e3b1e4dce0e4f6a549c27d", func := "loop.example/jackstay/laws.FnExactRecipeSteps", spec := "fnExactRecipeSteps", inPlace := ["internal/bytealg.IndexByteString", "internal/bytealg.IndexString", "internal/reflectlite.ValueOf", "(internal/reflectlite.Value).Type", "(internal/reflectlite.Value).IsNil", "internal/reflectlite.TypeOf", "(internal/reflectlite.Value).Elem", "(internal/reflectlite.Value).Set"], unfollowed := true, recurses := true, named := ["unicode/utf8.first", "unicode/utf8.acceptRanges", "internal/bytealg.MaxLen", "errors.errorType"], apart := false, laid := [("unicode/utf8.acceptRanges", laid_unicode_utf8_acceptRanges), ("errors.errorType", laid_errors_errorType), ("unicode/utf8.first", laid_unicode_utf8_first)], narrowed := true }
def FnExactRecipeStepsUptoSaid : Prop := fnExactRecipeStepsUptoRow.holds Tryz.pinned (OpenSpec.upto fnExactRecipeStepsSpec)

/-- 'laws.FnExactRecipePut', WHERE WHAT IT READS IS OF BULK AT MOST 1048576: true; the input reads as it did. -/
def fnExactRecipePutUptoRow : OpenClaim := { program := "ytcadiohekccmiaagreatdoor", sum := "31ccaedc7ac01b54d14bbc3c7b85654b4157d69c31e3b1e4dce0e4f6a549c27d", func := "loop.example/jackstay/laws.FnExactRecipePut", spec := "fnExactRecipePut", inPlace := ["internal/bytealg.IndexByteString", "internal/bytealg.IndexString", "internal/reflectlite.ValueOf", "(internal/reflectlite.Value).Type", "(internal/reflectlite.Value).IsNil", "internal/reflectlite.TypeOf", "(internal/reflectlite.Value).Elem", "(internal/reflectlite.Value).Set", "internal/abi.NoEscape", "internal/bytealg.MakeNoZero"], unfollowed := true, recurses := true, named := ["unicode/utf8.first", "unicode/utf8.acceptRanges", "internal/bytealg.MaxLen", "errors.errorType"], apart := false, laid := [("unicode/utf8.acceptRanges", laid_unicode_utf8_acceptRanges), ("errors.errorType", laid_errors_errorType), ("unicode/utf8.first", laid_unicode_utf8_first)], narrowed := true }
def FnExactRecipePutUptoSaid : Prop := fnExactRecipePutUptoRow.holds Tryz.pinned (OpenSpec.upto fnExactRecipePutSpec)

/-- 'laws.FnExactRecipeGet', WHERE WHAT IT READS IS OF BULK AT MOST 1048576: true; the input reads as it did. -/
def fnExactRecipeGetUptoRow : OpenClaim := { program := "ytcadiohekccmiaagreatdoor", sum := "31ccaedc7ac01b54d14bbc3c7b85654b4157d69c31e3b1e4dce0e4f6a549c27d", func := "loop.example/jackstay/laws.FnExactRecipeGet", spec := "fnExactRecipeGet", inPlace := ["internal/bytealg.IndexByteString", "internal/bytealg.IndexString", "internal/reflectlite.ValueOf", "(internal/reflectlite.Value).Type", "(internal/reflectlite.Value).IsNil", "internal/reflectlite.TypeOf", "(internal/reflectlite.Value).Elem", "(internal/reflectlite.Value).Set", "internal/abi.NoEscape", "internal/bytealg.MakeNoZero"], unfollowed := true, recurses := true, named := ["unicode/utf8.first", "unicode/utf8.acceptRanges", "internal/bytealg.MaxLen", "errors.errorType"], apart := false, laid := [("unicode/utf8.acceptRanges", laid_unicode_utf8_acceptRanges), ("errors.errorType", laid_errors_errorType), ("unicode/utf8.first", laid_unicode_utf8_first)], narrowed := true }
def FnExactRecipeGetUptoSaid : Prop := fnExactRecipeGetUptoRow.holds Tryz.pinned (OpenSpec.upto fnExactRecipeGetSpec)

/-- 'laws.FnRecipeText', WHERE WHAT IT READS IS OF BULK AT MOST 1048576: true; the input reads as it did. -/
def fnRecipeTextUptoRow : OpenClaim := { program := "ytcadiohekccmiaagreatdoor", sum := "31ccaedc7ac01b54d14bbc3c7b85654b4157d69c31e3b1e4dce0e4f6a549c27d", func := "loop.example/jackstay/laws.FnRecipeText", spec := "fnRecipeText", inPlace := ["internal/bytealg.IndexByteString", "internal/bytealg.IndexString", "internal/reflectlite.ValueOf", "(internal/reflectlite.Value).Type", "(internal/reflectlite.Value).IsNil", "internal/reflectlite.TypeOf", "(internal/reflectlite.Value).Elem", "(internal/reflectlite.Value).Set", "internal/abi.NoEscape", "internal/bytealg.MakeNoZero"], unfollowed := true, recurses := true, named := ["unicode/utf8.first", "unicode/utf8.acceptRanges", "internal/bytealg.MaxLen", "errors.errorType"], apart := false, laid := [("unicode/utf8.acceptRanges", laid_unicode_utf8_acceptRanges), ("errors.errorType", laid_errors_errorType), ("unicode/utf8.first", laid_unicode_utf8_first)], narrowed := true }
def FnRecipeTextUptoSaid : Prop := fnRecipeTextUptoRow.holds Tryz.pinned (OpenSpec.upto fnRecipeTextSpec)

end Rows
end Go.Proofs.YtcadiohekccmiaaGreatDoor
