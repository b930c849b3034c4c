/-
  DERIVED. GIVEN WITH THE SEED: THE CARDS: each row of YtfikcfndmbcaoaaDoorRows.lean that lists a variable, with what it lists TIED to the program's text (the seventh form; the later family's looks); each row that meets fmt, with fmt's text TOLD by the authors' own Lean function (tested against real Go, not proved from fmt's source: count such statements apart). THE CARD IS WHAT COUNTS. Prove the row's statement (the work); the ties are given (YtfikcfndmbcaoaaDoorTie.lean); close each card by the builder's one call (the guide's Derived/Test/ToyasCard.lean, 'card_holds'). Laid BY PROGRAM, IN A SANDBOX (cutbox-door.mjs). By AI agents, Wed Nov 11 2026. No macro, syntax, notation, axiom, sorry.
-/
import Derived.Test.YtfikcfndmbcaoaaDoorRows
import GoSem.ClaimSeven
namespace Go.Proofs.YtfikcfndmbcaoaaDoor
namespace Rows

/-- THE TIED CARD OF 'laws.FnExactHunksPut'. -/
def fnExactHunksPutCard : Claim7 := { stood := { row := fnExactHunksPutRow, standIns := [], harness := (true, "d851578d29b108c082581744c5512724c79e0d0ca4ead4391a80d6cc1b735720"), looks := true }, kinds := [], alts := [], laidByText := true, laidKinds := [.data, .data, .data], laidTests := true, laidLooks := .later }
def FnExactHunksPutCardSaid : Prop := Claim7.holds Tryd.pinned (.plain (OpenSpec.ofChange fnExactHunksPutSpec)) fnExactHunksPutCard

/-- THE TIED CARD OF 'laws.FnExpand'. -/
def fnExpandCard : Claim7 := { stood := { row := fnExpandRow, standIns := [], harness := (true, "d851578d29b108c082581744c5512724c79e0d0ca4ead4391a80d6cc1b735720"), looks := true }, kinds := [], alts := [], laidByText := true, laidKinds := [.handle], laidTests := true, laidLooks := .later }
def FnExpandCardSaid : Prop := Claim7.holds Tryd.pinned (.plain (OpenSpec.ofChange fnExpandSpec)) fnExpandCard

/-- THE TIED CARD OF 'laws.FnExpandNone'. -/
def fnExpandNoneCard : Claim7 := { stood := { row := fnExpandNoneRow, standIns := [], harness := (true, "d851578d29b108c082581744c5512724c79e0d0ca4ead4391a80d6cc1b735720"), looks := true }, kinds := [], alts := [], laidByText := true, laidKinds := [.handle], laidTests := true, laidLooks := .later }
def FnExpandNoneCardSaid : Prop := Claim7.holds Tryd.pinned (.plain (OpenSpec.ofChange fnExpandNoneSpec)) fnExpandNoneCard

/-- THE TIED CARD OF 'laws.FnExpandOne'. -/
def fnExpandOneCard : Claim7 := { stood := { row := fnExpandOneRow, standIns := [], harness := (true, "d851578d29b108c082581744c5512724c79e0d0ca4ead4391a80d6cc1b735720"), looks := true }, kinds := [], alts := [], laidByText := true, laidKinds := [.handle], laidTests := true, laidLooks := .later }
def FnExpandOneCardSaid : Prop := Claim7.holds Tryd.pinned (.plain (OpenSpec.ofChange fnExpandOneSpec)) fnExpandOneCard

/-- THE TIED CARD OF 'laws.FnExactExpand'. -/
def fnExactExpandCard : Claim7 := { stood := { row := fnExactExpandRow, standIns := [], harness := (true, "d851578d29b108c082581744c5512724c79e0d0ca4ead4391a80d6cc1b735720"), looks := true }, kinds := [], alts := [], laidByText := true, laidKinds := [.handle], laidTests := true, laidLooks := .later }
def FnExactExpandCardSaid : Prop := Claim7.holds Tryd.pinned (.plain (OpenSpec.ofChange fnExactExpandSpec)) fnExactExpandCard

/-- THE TIED CARD OF 'laws.FnExactHunksGet'. -/
def fnExactHunksGetCard : Claim7 := { stood := { row := fnExactHunksGetRow, standIns := [], harness := (true, "d851578d29b108c082581744c5512724c79e0d0ca4ead4391a80d6cc1b735720"), looks := true }, kinds := [], alts := [], laidByText := true, laidKinds := [.data, .pinned], laidTests := true, laidLooks := .later }
def FnExactHunksGetCardSaid : Prop := Claim7.holds Tryd.pinned (.plain (OpenSpec.ofChange fnExactHunksGetSpec)) fnExactHunksGetCard

/-- THE SECOND FORM's CARD OF 'laws.FnExactHunksPut'. -/
def fnExactHunksPutUptoCard : Claim7 := { stood := { row := fnExactHunksPutUptoRow, standIns := [], harness := (true, "d851578d29b108c082581744c5512724c79e0d0ca4ead4391a80d6cc1b735720"), looks := true }, kinds := [], alts := [], laidByText := true, laidKinds := [.data, .data, .data], laidTests := true, laidLooks := .later }
def FnExactHunksPutUptoCardSaid : Prop := Claim7.holds Tryd.pinned (.plain (OpenSpec.upto fnExactHunksPutSpec)) fnExactHunksPutUptoCard

/-- THE SECOND FORM's CARD OF 'laws.FnExpand'. -/
def fnExpandUptoCard : Claim7 := { stood := { row := fnExpandUptoRow, standIns := [], harness := (true, "d851578d29b108c082581744c5512724c79e0d0ca4ead4391a80d6cc1b735720"), looks := true }, kinds := [], alts := [], laidByText := true, laidKinds := [.handle], laidTests := true, laidLooks := .later }
def FnExpandUptoCardSaid : Prop := Claim7.holds Tryd.pinned (.plain (OpenSpec.upto fnExpandSpec)) fnExpandUptoCard

/-- THE SECOND FORM's CARD OF 'laws.FnExpandNone'. -/
def fnExpandNoneUptoCard : Claim7 := { stood := { row := fnExpandNoneUptoRow, standIns := [], harness := (true, "d851578d29b108c082581744c5512724c79e0d0ca4ead4391a80d6cc1b735720"), looks := true }, kinds := [], alts := [], laidByText := true, laidKinds := [.handle], laidTests := true, laidLooks := .later }
def FnExpandNoneUptoCardSaid : Prop := Claim7.holds Tryd.pinned (.plain (OpenSpec.upto fnExpandNoneSpec)) fnExpandNoneUptoCard

/-- THE SECOND FORM's CARD OF 'laws.FnExpandOne'. -/
def fnExpandOneUptoCard : Claim7 := { stood := { row := fnExpandOneUptoRow, standIns := [], harness := (true, "d851578d29b108c082581744c5512724c79e0d0ca4ead4391a80d6cc1b735720"), looks := true }, kinds := [], alts := [], laidByText := true, laidKinds := [.handle], laidTests := true, laidLooks := .later }
def FnExpandOneUptoCardSaid : Prop := Claim7.holds Tryd.pinned (.plain (OpenSpec.upto fnExpandOneSpec)) fnExpandOneUptoCard

/-- THE SECOND FORM's CARD OF 'laws.FnExactExpand'. -/
def fnExactExpandUptoCard : Claim7 := { stood := { row := fnExactExpandUptoRow, standIns := [], harness := (true, "d851578d29b108c082581744c5512724c79e0d0ca4ead4391a80d6cc1b735720"), looks := true }, kinds := [], alts := [], laidByText := true, laidKinds := [.handle], laidTests := true, laidLooks := .later }
def FnExactExpandUptoCardSaid : Prop := Claim7.holds Tryd.pinned (.plain (OpenSpec.upto fnExactExpandSpec)) fnExactExpandUptoCard

/-- THE SECOND FORM's CARD OF 'laws.FnExactHunksGet'. -/
def fnExactHunksGetUptoCard : Claim7 := { stood := { row := fnExactHunksGetUptoRow, standIns := [], harness := (true, "d851578d29b108c082581744c5512724c79e0d0ca4ead4391a80d6cc1b735720"), looks := true }, kinds := [], alts := [], laidByText := true, laidKinds := [.data, .pinned], laidTests := true, laidLooks := .later }
def FnExactHunksGetUptoCardSaid : Prop := Claim7.holds Tryd.pinned (.plain (OpenSpec.upto fnExactHunksGetSpec)) fnExactHunksGetUptoCard
end Rows
end Go.Proofs.YtfikcfndmbcaoaaDoor
