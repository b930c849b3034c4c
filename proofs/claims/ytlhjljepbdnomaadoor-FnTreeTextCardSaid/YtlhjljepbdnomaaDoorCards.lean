/-
  DERIVED. GIVEN WITH THE SEED: THE CARDS: each row of YtlhjljepbdnomaaDoorRows.lean that lists a variable, with what it lists TIED to the program's text (the seventh form; the later family's looks); each row that meets fmt, with fmt's text TOLD by the authors' own Lean function (tested against real Go, not proved from fmt's source: count such statements apart). THE CARD IS WHAT COUNTS. Prove the row's statement (the work); the ties are given (YtlhjljepbdnomaaDoorTie.lean); close each card by the builder's one call (the guide's Derived/Test/ToyasCard.lean, 'card_holds'). Laid BY PROGRAM, IN A SANDBOX (cutbox-door.mjs). By AI agents, Wed Nov 11 2026. No macro, syntax, notation, axiom, sorry.
-/
import Derived.Test.YtlhjljepbdnomaaDoorRows
import GoSem.ClaimSeven
namespace Go.Proofs.YtlhjljepbdnomaaDoor
namespace Rows

/-- THE TIED CARD OF 'laws.FnExactTreeRead'. -/
def fnExactTreeReadCard : Claim7 := { stood := { row := fnExactTreeReadRow, standIns := [], harness := (true, "cd1350f9c2b98e93a286b15ce08297809c7e4442ac30e31d6ab43276450ed17e"), looks := false }, kinds := [], alts := [], laidByText := true, laidKinds := [.data, .pinned], laidTests := true, laidLooks := .later }
def FnExactTreeReadCardSaid : Prop := Claim7.holds Tryd.pinned (.plain (OpenSpec.ofChange fnExactTreeReadSpec)) fnExactTreeReadCard

/-- THE TIED CARD OF 'laws.FnExactPackOk'. -/
def fnExactPackOkCard : Claim7 := { stood := { row := fnExactPackOkRow, standIns := [], harness := (true, "cd1350f9c2b98e93a286b15ce08297809c7e4442ac30e31d6ab43276450ed17e"), looks := false }, kinds := [], alts := [], laidByText := true, laidKinds := [.data, .pinned], laidTests := true, laidLooks := .later }
def FnExactPackOkCardSaid : Prop := Claim7.holds Tryd.pinned (.plain (OpenSpec.ofChange fnExactPackOkSpec)) fnExactPackOkCard

/-- THE TIED CARD OF 'laws.FnTreeText'. -/
def fnTreeTextCard : Claim7 := { stood := { row := fnTreeTextRow, standIns := [], harness := (true, "cd1350f9c2b98e93a286b15ce08297809c7e4442ac30e31d6ab43276450ed17e"), looks := false }, kinds := [], alts := [], laidByText := true, laidKinds := [.data, .data, .data, .data, .pinned], laidTests := true, laidLooks := .later }
def FnTreeTextCardSaid : Prop := Claim7.holds Tryd.pinned (.plain (OpenSpec.ofChange fnTreeTextSpec)) fnTreeTextCard

/-- THE SECOND FORM's CARD OF 'laws.FnExactTreeRead'. -/
def fnExactTreeReadUptoCard : Claim7 := { stood := { row := fnExactTreeReadUptoRow, standIns := [], harness := (true, "cd1350f9c2b98e93a286b15ce08297809c7e4442ac30e31d6ab43276450ed17e"), looks := false }, kinds := [], alts := [], laidByText := true, laidKinds := [.data, .pinned], laidTests := true, laidLooks := .later }
def FnExactTreeReadUptoCardSaid : Prop := Claim7.holds Tryd.pinned (.plain (OpenSpec.upto fnExactTreeReadSpec)) fnExactTreeReadUptoCard

/-- THE SECOND FORM's CARD OF 'laws.FnExactPackOk'. -/
def fnExactPackOkUptoCard : Claim7 := { stood := { row := fnExactPackOkUptoRow, standIns := [], harness := (true, "cd1350f9c2b98e93a286b15ce08297809c7e4442ac30e31d6ab43276450ed17e"), looks := false }, kinds := [], alts := [], laidByText := true, laidKinds := [.data, .pinned], laidTests := true, laidLooks := .later }
def FnExactPackOkUptoCardSaid : Prop := Claim7.holds Tryd.pinned (.plain (OpenSpec.upto fnExactPackOkSpec)) fnExactPackOkUptoCard

/-- THE SECOND FORM's CARD OF 'laws.FnTreeText'. -/
def fnTreeTextUptoCard : Claim7 := { stood := { row := fnTreeTextUptoRow, standIns := [], harness := (true, "cd1350f9c2b98e93a286b15ce08297809c7e4442ac30e31d6ab43276450ed17e"), looks := false }, kinds := [], alts := [], laidByText := true, laidKinds := [.data, .data, .data, .data, .pinned], laidTests := true, laidLooks := .later }
def FnTreeTextUptoCardSaid : Prop := Claim7.holds Tryd.pinned (.plain (OpenSpec.upto fnTreeTextSpec)) fnTreeTextUptoCard
end Rows
end Go.Proofs.YtlhjljepbdnomaaDoor
