/-
  DERIVED. GIVEN WITH THE SEED: THE CARDS: each row of YtcadiohekccmiaaGreatDoorRows.lean that lists a variable, with what it lists TIED to the program's text (the seventh form; the later family's looks); each row that meets fmt, with fmt's text TOLD by the authors' own Lean function (tested against real Go, not proved from fmt's source: count such statements apart). THE CARD IS WHAT COUNTS. Prove the row's statement (the work); the ties are given (YtcadiohekccmiaaGreatDoorTie.lean); close each card by the builder's one call (the guide's Derived/Test/ToyasCard.lean, 'card_holds'). Laid BY PROGRAM, IN A SANDBOX (cutbox-door.mjs). By AI agents, Wed Nov 11 2026. No macro, syntax, notation, axiom, sorry.
-/
import Derived.Test.YtcadiohekccmiaaGreatDoorRows
import GoSem.ClaimSeven
namespace Go.Proofs.YtcadiohekccmiaaGreatDoor
namespace Rows

/-- THE TIED CARD OF 'laws.FnRecipeTwice'. -/
def fnRecipeTwiceCard : Claim7 := { stood := { row := fnRecipeTwiceRow, standIns := [], harness := (true, "6320ae87338c1d52878772a8195b605eb6f4daf42e70b8c9fada2c09c0d09ac3"), looks := true }, kinds := [], alts := [], laidByText := true, laidKinds := [.data, .handle, .pinned], laidTests := true, laidLooks := .later }
def FnRecipeTwiceCardSaid : Prop := Claim7.holds Tryz.pinned (.plain (OpenSpec.ofChange fnRecipeTwiceSpec)) fnRecipeTwiceCard

/-- THE TIED CARD OF 'laws.FnRecipeMore'. -/
def fnRecipeMoreCard : Claim7 := { stood := { row := fnRecipeMoreRow, standIns := [], harness := (true, "6320ae87338c1d52878772a8195b605eb6f4daf42e70b8c9fada2c09c0d09ac3"), looks := true }, kinds := [], alts := [], laidByText := true, laidKinds := [.data, .handle, .pinned], laidTests := true, laidLooks := .later }
def FnRecipeMoreCardSaid : Prop := Claim7.holds Tryz.pinned (.plain (OpenSpec.ofChange fnRecipeMoreSpec)) fnRecipeMoreCard

/-- THE TIED CARD OF 'laws.FnRecipeSteps'. -/
def fnRecipeStepsCard : Claim7 := { stood := { row := fnRecipeStepsRow, standIns := [], harness := (true, "6320ae87338c1d52878772a8195b605eb6f4daf42e70b8c9fada2c09c0d09ac3"), looks := true }, kinds := [], alts := [], laidByText := true, laidKinds := [.data, .handle, .pinned], laidTests := true, laidLooks := .later }
def FnRecipeStepsCardSaid : Prop := Claim7.holds Tryz.pinned (.plain (OpenSpec.ofChange fnRecipeStepsSpec)) fnRecipeStepsCard

/-- THE TIED CARD OF 'laws.FnExactRecipeCheck'. -/
def fnExactRecipeCheckCard : Claim7 := { stood := { row := fnExactRecipeCheckRow, standIns := [], harness := (true, "6320ae87338c1d52878772a8195b605eb6f4daf42e70b8c9fada2c09c0d09ac3"), looks := true }, kinds := [], alts := [], laidByText := true, laidKinds := [.data, .handle, .pinned], laidTests := true, laidLooks := .later }
def FnExactRecipeCheckCardSaid : Prop := Claim7.holds Tryz.pinned (.plain (OpenSpec.ofChange fnExactRecipeCheckSpec)) fnExactRecipeCheckCard

/-- THE TIED CARD OF 'laws.FnExactRecipeSteps'. -/
def fnExactRecipeStepsCard : Claim7 := { stood := { row := fnExactRecipeStepsRow, standIns := [], harness := (true, "6320ae87338c1d52878772a8195b605eb6f4daf42e70b8c9fada2c09c0d09ac3"), looks := true }, kinds := [], alts := [], laidByText := true, laidKinds := [.data, .handle, .pinned], laidTests := true, laidLooks := .later }
def FnExactRecipeStepsCardSaid : Prop := Claim7.holds Tryz.pinned (.plain (OpenSpec.ofChange fnExactRecipeStepsSpec)) fnExactRecipeStepsCard

/-- THE TIED CARD OF 'laws.FnExactRecipePut'. -/
def fnExactRecipePutCard : Claim7 := { stood := { row := fnExactRecipePutRow, standIns := [], harness := (true, "6320ae87338c1d52878772a8195b605eb6f4daf42e70b8c9fada2c09c0d09ac3"), looks := true }, kinds := [], alts := [], laidByText := true, laidKinds := [.data, .handle, .pinned], laidTests := true, laidLooks := .later }
def FnExactRecipePutCardSaid : Prop := Claim7.holds Tryz.pinned (.plain (OpenSpec.ofChange fnExactRecipePutSpec)) fnExactRecipePutCard

/-- THE TIED CARD OF 'laws.FnExactRecipeGet'. -/
def fnExactRecipeGetCard : Claim7 := { stood := { row := fnExactRecipeGetRow, standIns := [], harness := (true, "6320ae87338c1d52878772a8195b605eb6f4daf42e70b8c9fada2c09c0d09ac3"), looks := true }, kinds := [], alts := [], laidByText := true, laidKinds := [.data, .handle, .pinned], laidTests := true, laidLooks := .later }
def FnExactRecipeGetCardSaid : Prop := Claim7.holds Tryz.pinned (.plain (OpenSpec.ofChange fnExactRecipeGetSpec)) fnExactRecipeGetCard

/-- THE TIED CARD OF 'laws.FnRecipeText'. -/
def fnRecipeTextCard : Claim7 := { stood := { row := fnRecipeTextRow, standIns := [], harness := (true, "6320ae87338c1d52878772a8195b605eb6f4daf42e70b8c9fada2c09c0d09ac3"), looks := true }, kinds := [], alts := [], laidByText := true, laidKinds := [.data, .handle, .pinned], laidTests := true, laidLooks := .later }
def FnRecipeTextCardSaid : Prop := Claim7.holds Tryz.pinned (.plain (OpenSpec.ofChange fnRecipeTextSpec)) fnRecipeTextCard

/-- THE SECOND FORM's CARD OF 'laws.FnRecipeTwice'. -/
def fnRecipeTwiceUptoCard : Claim7 := { stood := { row := fnRecipeTwiceUptoRow, standIns := [], harness := (true, "6320ae87338c1d52878772a8195b605eb6f4daf42e70b8c9fada2c09c0d09ac3"), looks := true }, kinds := [], alts := [], laidByText := true, laidKinds := [.data, .handle, .pinned], laidTests := true, laidLooks := .later }
def FnRecipeTwiceUptoCardSaid : Prop := Claim7.holds Tryz.pinned (.plain (OpenSpec.upto fnRecipeTwiceSpec)) fnRecipeTwiceUptoCard

/-- THE SECOND FORM's CARD OF 'laws.FnRecipeMore'. -/
def fnRecipeMoreUptoCard : Claim7 := { stood := { row := fnRecipeMoreUptoRow, standIns := [], harness := (true, "6320ae87338c1d52878772a8195b605eb6f4daf42e70b8c9fada2c09c0d09ac3"), looks := true }, kinds := [], alts := [], laidByText := true, laidKinds := [.data, .handle, .pinned], laidTests := true, laidLooks := .later }
def FnRecipeMoreUptoCardSaid : Prop := Claim7.holds Tryz.pinned (.plain (OpenSpec.upto fnRecipeMoreSpec)) fnRecipeMoreUptoCard

/-- THE SECOND FORM's CARD OF 'laws.FnRecipeSteps'. -/
def fnRecipeStepsUptoCard : Claim7 := { stood := { row := fnRecipeStepsUptoRow, standIns := [], harness := (true, "6320ae87338c1d52878772a8195b605eb6f4daf42e70b8c9fada2c09c0d09ac3"), looks := true }, kinds := [], alts := [], laidByText := true, laidKinds := [.data, .handle, .pinned], laidTests := true, laidLooks := .later }
def FnRecipeStepsUptoCardSaid : Prop := Claim7.holds Tryz.pinned (.plain (OpenSpec.upto fnRecipeStepsSpec)) fnRecipeStepsUptoCard

/-- THE SECOND FORM's CARD OF 'laws.FnExactRecipeCheck'. -/
def fnExactRecipeCheckUptoCard : Claim7 := { stood := { row := fnExactRecipeCheckUptoRow, standIns := [], harness := (true, "6320ae87338c1d52878772a8195b605eb6f4daf42e70b8c9fada2c09c0d09ac3"), looks := true }, kinds := [], alts := [], laidByText := true, laidKinds := [.data, .handle, .pinned], laidTests := true, laidLooks := .later }
def FnExactRecipeCheckUptoCardSaid : Prop := Claim7.holds Tryz.pinned (.plain (OpenSpec.upto fnExactRecipeCheckSpec)) fnExactRecipeCheckUptoCard

/-- THE SECOND FORM's CARD OF 'laws.FnExactRecipeSteps'. -/
def fnExactRecipeStepsUptoCard : Claim7 := { stood := { row := fnExactRecipeStepsUptoRow, standIns := [], harness := (true, "6320ae87338c1d52878772a8195b605eb6f4daf42e70b8c9fada2c09c0d09ac3"), looks := true }, kinds := [], alts := [], laidByText := true, laidKinds := [.data, .handle, .pinned], laidTests := true, laidLooks := .later }
def FnExactRecipeStepsUptoCardSaid : Prop := Claim7.holds Tryz.pinned (.plain (OpenSpec.upto fnExactRecipeStepsSpec)) fnExactRecipeStepsUptoCard

/-- THE SECOND FORM's CARD OF 'laws.FnExactRecipePut'. -/
def fnExactRecipePutUptoCard : Claim7 := { stood := { row := fnExactRecipePutUptoRow, standIns := [], harness := (true, "6320ae87338c1d52878772a8195b605eb6f4daf42e70b8c9fada2c09c0d09ac3"), looks := true }, kinds := [], alts := [], laidByText := true, laidKinds := [.data, .handle, .pinned], laidTests := true, laidLooks := .later }
def FnExactRecipePutUptoCardSaid : Prop := Claim7.holds Tryz.pinned (.plain (OpenSpec.upto fnExactRecipePutSpec)) fnExactRecipePutUptoCard

/-- THE SECOND FORM's CARD OF 'laws.FnExactRecipeGet'. -/
def fnExactRecipeGetUptoCard : Claim7 := { stood := { row := fnExactRecipeGetUptoRow, standIns := [], harness := (true, "6320ae87338c1d52878772a8195b605eb6f4daf42e70b8c9fada2c09c0d09ac3"), looks := true }, kinds := [], alts := [], laidByText := true, laidKinds := [.data, .handle, .pinned], laidTests := true, laidLooks := .later }
def FnExactRecipeGetUptoCardSaid : Prop := Claim7.holds Tryz.pinned (.plain (OpenSpec.upto fnExactRecipeGetSpec)) fnExactRecipeGetUptoCard

/-- THE SECOND FORM's CARD OF 'laws.FnRecipeText'. -/
def fnRecipeTextUptoCard : Claim7 := { stood := { row := fnRecipeTextUptoRow, standIns := [], harness := (true, "6320ae87338c1d52878772a8195b605eb6f4daf42e70b8c9fada2c09c0d09ac3"), looks := true }, kinds := [], alts := [], laidByText := true, laidKinds := [.data, .handle, .pinned], laidTests := true, laidLooks := .later }
def FnRecipeTextUptoCardSaid : Prop := Claim7.holds Tryz.pinned (.plain (OpenSpec.upto fnRecipeTextSpec)) fnRecipeTextUptoCard
end Rows
end Go.Proofs.YtcadiohekccmiaaGreatDoor
