/-
  DERIVED. GIVEN WITH THE SEED: THE CARDS: each row of YtpjdbmhcpcmakaaGreatDoorRows.lean that lists a variable, with what it lists TIED to the program's text (the seventh form; the later family's looks); each row that meets fmt, with fmt's text TOLD by the authors' own Lean function (tested against real Go, not proved from fmt's source: count such statements apart). THE CARD IS WHAT COUNTS. Prove the row's statement (the work); the ties are given (YtpjdbmhcpcmakaaGreatDoorTie.lean); close each card by the builder's one call (the guide's Derived/Test/ToyasCard.lean, 'card_holds'). Laid BY PROGRAM, IN A SANDBOX (cutbox-door.mjs). By AI agents, Wed Nov 11 2026. No macro, syntax, notation, axiom, sorry.
-/
import Derived.Test.YtpjdbmhcpcmakaaGreatDoorRows
import GoSem.ClaimSeven
namespace Go.Proofs.YtpjdbmhcpcmakaaGreatDoor
namespace Rows

/-- THE TIED CARD OF 'vellumlaw22.VacuumNobody'. -/
def vacuumNobodyCard : Claim7 := { stood := { row := vacuumNobodyRow, standIns := [], harness := (true, "0397a68333f14692fe4174d08cd86dc0503ae92470ba09e29f169a11429df1bc"), looks := false }, kinds := [], alts := [], laidByText := true, laidKinds := [.data, .pinned], laidTests := true, laidLooks := .later }
def VacuumNobodyCardSaid : Prop := Claim7.holds Tryz.pinned (.plain (OpenSpec.ofChange vacuumNobodySpec)) vacuumNobodyCard

/-- THE SECOND FORM's CARD OF 'vellumlaw22.VacuumNobody'. -/
def vacuumNobodyUptoCard : Claim7 := { stood := { row := vacuumNobodyUptoRow, standIns := [], harness := (true, "0397a68333f14692fe4174d08cd86dc0503ae92470ba09e29f169a11429df1bc"), looks := false }, kinds := [], alts := [], laidByText := true, laidKinds := [.data, .pinned], laidTests := true, laidLooks := .later }
def VacuumNobodyUptoCardSaid : Prop := Claim7.holds Tryz.pinned (.plain (OpenSpec.upto vacuumNobodySpec)) vacuumNobodyUptoCard
end Rows
end Go.Proofs.YtpjdbmhcpcmakaaGreatDoor
