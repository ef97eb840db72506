/-
  DERIVED. GIVEN WITH THE SEED: THE CARDS: each row of YticgbdeoiihbmaaDoorRows.lean that lists a variable, with what it lists TIED to the program's text (the seventh form; the later family's looks); each row that meets fmt, with fmt's text TOLD by the authors' own Lean function (tested against real Go, not proved from fmt's source: count such statements apart). THE CARD IS WHAT COUNTS. Prove the row's statement (the work); the ties are given (YticgbdeoiihbmaaDoorTie.lean); close each card by the builder's one call (the guide's Derived/Test/ToyasCard.lean, 'card_holds'). Laid BY PROGRAM, IN A SANDBOX (cutbox-door.mjs). By AI agents, Wed Nov 11 2026. No macro, syntax, notation, axiom, sorry.
-/
import Derived.Test.YticgbdeoiihbmaaDoorRows
import GoSem.ClaimSeven
namespace Go.Proofs.YticgbdeoiihbmaaDoor
namespace Rows

/-- THE TIED CARD OF 'hanselaw27.ShellReads'. -/
def shellReadsCard : Claim7 := { stood := { row := shellReadsRow, standIns := [], harness := (true, "7118f04d7b88309ce2efe27d3d247494d3da633f8ba1eca7b40d873c138f2438"), looks := false }, kinds := [], alts := [], laidByText := true, laidKinds := [.data, .data, .data, .data, .pinned], laidTests := true, laidLooks := .later }
def ShellReadsCardSaid : Prop := Claim7.holds Tryd.pinned (.plain (OpenSpec.ofChange shellReadsSpec)) shellReadsCard

/-- THE SECOND FORM's CARD OF 'hanselaw27.ShellReads'. -/
def shellReadsUptoCard : Claim7 := { stood := { row := shellReadsUptoRow, standIns := [], harness := (true, "7118f04d7b88309ce2efe27d3d247494d3da633f8ba1eca7b40d873c138f2438"), looks := false }, kinds := [], alts := [], laidByText := true, laidKinds := [.data, .data, .data, .data, .pinned], laidTests := true, laidLooks := .later }
def ShellReadsUptoCardSaid : Prop := Claim7.holds Tryd.pinned (.plain (OpenSpec.upto shellReadsSpec)) shellReadsUptoCard
end Rows
end Go.Proofs.YticgbdeoiihbmaaDoor
