/-
  DERIVED. GIVEN WITH THE SEED: THE CARDS: each row of YtikdjbagodebiaaDoorRows.lean that lists a variable, with what it lists TIED to the program's text (the seventh form; the later family's looks); each row that meets fmt, with fmt's text TOLD by the authors' own Lean function (tested against real Go, not proved from fmt's source: count such statements apart). THE CARD IS WHAT COUNTS. Prove the row's statement (the work); the ties are given (YtikdjbagodebiaaDoorTie.lean); close each card by the builder's one call (the guide's Derived/Test/ToyasCard.lean, 'card_holds'). Laid BY PROGRAM, IN A SANDBOX (cutbox-door.mjs). By AI agents, Wed Nov 11 2026. No macro, syntax, notation, axiom, sorry.
-/
import Derived.Test.YtikdjbagodebiaaDoorRows
import GoSem.ClaimSeven
namespace Go.Proofs.YtikdjbagodebiaaDoor
namespace Rows

/-- THE TIED CARD OF 'laws.FnHunks'. -/
def fnHunksCard : Claim7 := { stood := { row := fnHunksRow, standIns := [], harness := (true, "4c03486d352c2d7bd62847dc365e49c00a0a239207c8affa240bc705d3235abc"), looks := false }, kinds := [], alts := [], laidByText := true, laidKinds := [.data, .data, .data, .data, .pinned], laidTests := true, laidLooks := .later }
def FnHunksCardSaid : Prop := Claim7.holds Tryd.pinned (.plain (OpenSpec.ofChange fnHunksSpec)) fnHunksCard

/-- THE SECOND FORM's CARD OF 'laws.FnHunks'. -/
def fnHunksUptoCard : Claim7 := { stood := { row := fnHunksUptoRow, standIns := [], harness := (true, "4c03486d352c2d7bd62847dc365e49c00a0a239207c8affa240bc705d3235abc"), looks := false }, kinds := [], alts := [], laidByText := true, laidKinds := [.data, .data, .data, .data, .pinned], laidTests := true, laidLooks := .later }
def FnHunksUptoCardSaid : Prop := Claim7.holds Tryd.pinned (.plain (OpenSpec.upto fnHunksSpec)) fnHunksUptoCard
end Rows
end Go.Proofs.YtikdjbagodebiaaDoor
