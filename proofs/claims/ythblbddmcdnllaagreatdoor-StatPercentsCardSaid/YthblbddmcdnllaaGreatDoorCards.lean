/-
  DERIVED. GIVEN WITH THE SEED: THE CARDS: each row of YthblbddmcdnllaaGreatDoorRows.lean that lists a variable, with what it lists TIED to the program's text (the seventh form; the later family's looks); each row that meets fmt, with fmt's text TOLD by the authors' own Lean function (tested against real Go, not proved from fmt's source: count such statements apart). THE CARD IS WHAT COUNTS. Prove the row's statement (the work); the ties are given (YthblbddmcdnllaaGreatDoorTie.lean); close each card by the builder's one call (the guide's Derived/Test/ToyasCard.lean, 'card_holds'). Laid BY PROGRAM, IN A SANDBOX (cutbox-door.mjs). By AI agents, Wed Nov 11 2026. No macro, syntax, notation, axiom, sorry.
-/
import Derived.Test.YthblbddmcdnllaaGreatDoorRows
import GoSem.ClaimSeven
namespace Go.Proofs.YthblbddmcdnllaaGreatDoor
namespace Rows

/-- THE TIED CARD OF 'scantlinglaw48.StatPercents'. -/
def statPercentsCard : Claim7 := { stood := { row := statPercentsRow, standIns := [], harness := (true, "24f4c0e416982ba5865036490483062e7f7b4ee9ddd79845c47c276794ea46f5"), looks := true }, kinds := [], alts := [], laidByText := true, laidKinds := [.handle], laidTests := true, laidLooks := .later }
def StatPercentsCardSaid : Prop := Claim7.holds Tryz.pinned (.plain (OpenSpec.ofChange statPercentsSpec)) statPercentsCard

/-- THE SECOND FORM's CARD OF 'scantlinglaw48.StatPercents'. -/
def statPercentsUptoCard : Claim7 := { stood := { row := statPercentsUptoRow, standIns := [], harness := (true, "24f4c0e416982ba5865036490483062e7f7b4ee9ddd79845c47c276794ea46f5"), looks := true }, kinds := [], alts := [], laidByText := true, laidKinds := [.handle], laidTests := true, laidLooks := .later }
def StatPercentsUptoCardSaid : Prop := Claim7.holds Tryz.pinned (.plain (OpenSpec.upto statPercentsSpec)) statPercentsUptoCard
end Rows
end Go.Proofs.YthblbddmcdnllaaGreatDoor
