/-
  DERIVED. GIVEN WITH THE SEED: THE CARDS: each row of YtnpjppnahfehnaaDoorRows.lean that lists a variable, with what it lists TIED to the program's text (the seventh form; the later family's looks); each row that meets fmt, with fmt's text TOLD by the authors' own Lean function (tested against real Go, not proved from fmt's source: count such statements apart). THE CARD IS WHAT COUNTS. Prove the row's statement (the work); the ties are given (YtnpjppnahfehnaaDoorTie.lean); close each card by the builder's one call (the guide's Derived/Test/ToyasCard.lean, 'card_holds'). Laid BY PROGRAM, IN A SANDBOX (cutbox-door.mjs). By AI agents, Wed Nov 11 2026. No macro, syntax, notation, axiom, sorry.
-/
import Derived.Test.YtnpjppnahfehnaaDoorRows
import GoSem.ClaimSeven
namespace Go.Proofs.YtnpjppnahfehnaaDoor
namespace Rows

/-- THE TIED CARD OF 'vellumlaw12.SkipHeights'. -/
def skipHeightsCard : Claim7 := { stood := { row := skipHeightsRow, standIns := [], harness := (true, "a9f3a3bf29865aafb157323a57bbde56c993f3205a5d39b73a912438e3d9de96"), looks := false }, kinds := [], alts := [], laidByText := true, laidKinds := [.data], laidTests := true, laidLooks := .later }
def SkipHeightsCardSaid : Prop := Claim7.holds Tryd.pinned (.plain (OpenSpec.ofChange skipHeightsSpec)) skipHeightsCard

/-- THE SECOND FORM's CARD OF 'vellumlaw12.SkipHeights'. -/
def skipHeightsUptoCard : Claim7 := { stood := { row := skipHeightsUptoRow, standIns := [], harness := (true, "a9f3a3bf29865aafb157323a57bbde56c993f3205a5d39b73a912438e3d9de96"), looks := false }, kinds := [], alts := [], laidByText := true, laidKinds := [.data], laidTests := true, laidLooks := .later }
def SkipHeightsUptoCardSaid : Prop := Claim7.holds Tryd.pinned (.plain (OpenSpec.upto skipHeightsSpec)) skipHeightsUptoCard
end Rows
end Go.Proofs.YtnpjppnahfehnaaDoor
