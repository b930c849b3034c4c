/-
  DERIVED. GIVEN WITH THE SEED: THE CARDS: each row of YtddfkpkieamlpaaGreatDoorRows.lean that lists a variable, with what it lists TIED to the program's text (the seventh form; the later family's looks); each row that meets fmt, with fmt's text TOLD by the authors' own Lean function (tested against real Go, not proved from fmt's source: count such statements apart). THE CARD IS WHAT COUNTS. Prove the row's statement (the work); the ties are given (YtddfkpkieamlpaaGreatDoorTie.lean); close each card by the builder's one call (the guide's Derived/Test/ToyasCard.lean, 'card_holds'). Laid BY PROGRAM, IN A SANDBOX (cutbox-door.mjs). By AI agents, Wed Nov 11 2026. No macro, syntax, notation, axiom, sorry.
-/
import Derived.Test.YtddfkpkieamlpaaGreatDoorRows
import GoSem.ClaimSeven
namespace Go.Proofs.YtddfkpkieamlpaaGreatDoor
namespace Rows

/-- THE TIED CARD OF 'laws.FnExactPackPut'. -/
def fnExactPackPutCard : Claim7 := { stood := { row := fnExactPackPutRow, standIns := [], harness := (true, "4e6c49acff9326653f063c2909e8080f9d3f51a38fa82888cccce7cb06914052"), looks := false }, kinds := [], alts := [], laidByText := true, laidKinds := [.data, .data, .data, .data, .data, .pinned], laidTests := true, laidLooks := .later }
def FnExactPackPutCardSaid : Prop := Claim7.holds Tryz.pinned (.plain (OpenSpec.ofChange fnExactPackPutSpec)) fnExactPackPutCard

/-- THE TIED CARD OF 'laws.FnExactPackGet'. -/
def fnExactPackGetCard : Claim7 := { stood := { row := fnExactPackGetRow, standIns := [], harness := (true, "4e6c49acff9326653f063c2909e8080f9d3f51a38fa82888cccce7cb06914052"), looks := false }, kinds := [], alts := [], laidByText := true, laidKinds := [.data, .data, .data, .data, .data, .pinned], laidTests := true, laidLooks := .later }
def FnExactPackGetCardSaid : Prop := Claim7.holds Tryz.pinned (.plain (OpenSpec.ofChange fnExactPackGetSpec)) fnExactPackGetCard

/-- THE TIED CARD OF 'laws.FnPackText'. -/
def fnPackTextCard : Claim7 := { stood := { row := fnPackTextRow, standIns := [], harness := (true, "4e6c49acff9326653f063c2909e8080f9d3f51a38fa82888cccce7cb06914052"), looks := false }, kinds := [], alts := [], laidByText := true, laidKinds := [.data, .data, .data, .data, .data, .pinned], laidTests := true, laidLooks := .later }
def FnPackTextCardSaid : Prop := Claim7.holds Tryz.pinned (.plain (OpenSpec.ofChange fnPackTextSpec)) fnPackTextCard

/-- THE TIED CARD OF 'laws.FnExactClosure'. -/
def fnExactClosureCard : Claim7 := { stood := { row := fnExactClosureRow, standIns := [], harness := (true, "4e6c49acff9326653f063c2909e8080f9d3f51a38fa82888cccce7cb06914052"), looks := false }, kinds := [], alts := [], laidByText := true, laidKinds := [.data, .pinned], laidTests := true, laidLooks := .later }
def FnExactClosureCardSaid : Prop := Claim7.holds Tryz.pinned (.plain (OpenSpec.ofChange fnExactClosureSpec)) fnExactClosureCard

/-- THE SECOND FORM's CARD OF 'laws.FnExactPackPut'. -/
def fnExactPackPutUptoCard : Claim7 := { stood := { row := fnExactPackPutUptoRow, standIns := [], harness := (true, "4e6c49acff9326653f063c2909e8080f9d3f51a38fa82888cccce7cb06914052"), looks := false }, kinds := [], alts := [], laidByText := true, laidKinds := [.data, .data, .data, .data, .data, .pinned], laidTests := true, laidLooks := .later }
def FnExactPackPutUptoCardSaid : Prop := Claim7.holds Tryz.pinned (.plain (OpenSpec.upto fnExactPackPutSpec)) fnExactPackPutUptoCard

/-- THE SECOND FORM's CARD OF 'laws.FnExactPackGet'. -/
def fnExactPackGetUptoCard : Claim7 := { stood := { row := fnExactPackGetUptoRow, standIns := [], harness := (true, "4e6c49acff9326653f063c2909e8080f9d3f51a38fa82888cccce7cb06914052"), looks := false }, kinds := [], alts := [], laidByText := true, laidKinds := [.data, .data, .data, .data, .data, .pinned], laidTests := true, laidLooks := .later }
def FnExactPackGetUptoCardSaid : Prop := Claim7.holds Tryz.pinned (.plain (OpenSpec.upto fnExactPackGetSpec)) fnExactPackGetUptoCard

/-- THE SECOND FORM's CARD OF 'laws.FnPackText'. -/
def fnPackTextUptoCard : Claim7 := { stood := { row := fnPackTextUptoRow, standIns := [], harness := (true, "4e6c49acff9326653f063c2909e8080f9d3f51a38fa82888cccce7cb06914052"), looks := false }, kinds := [], alts := [], laidByText := true, laidKinds := [.data, .data, .data, .data, .data, .pinned], laidTests := true, laidLooks := .later }
def FnPackTextUptoCardSaid : Prop := Claim7.holds Tryz.pinned (.plain (OpenSpec.upto fnPackTextSpec)) fnPackTextUptoCard

/-- THE SECOND FORM's CARD OF 'laws.FnExactClosure'. -/
def fnExactClosureUptoCard : Claim7 := { stood := { row := fnExactClosureUptoRow, standIns := [], harness := (true, "4e6c49acff9326653f063c2909e8080f9d3f51a38fa82888cccce7cb06914052"), looks := false }, kinds := [], alts := [], laidByText := true, laidKinds := [.data, .pinned], laidTests := true, laidLooks := .later }
def FnExactClosureUptoCardSaid : Prop := Claim7.holds Tryz.pinned (.plain (OpenSpec.upto fnExactClosureSpec)) fnExactClosureUptoCard
end Rows
end Go.Proofs.YtddfkpkieamlpaaGreatDoor
