/-
  DERIVED. GIVEN WITH THE SEED: THE CARDS: each row of YthfnlmedelfbnaaDoorRows.lean that lists a variable, with what it lists TIED to the program's text (the seventh form; the later family's looks); each row that meets fmt, with fmt's text TOLD by the authors' own Lean function (tested against real Go, not proved from fmt's source: count such statements apart). THE CARD IS WHAT COUNTS. Prove the row's statement (the work); the ties are given (YthfnlmedelfbnaaDoorTie.lean); close each card by the builder's one call (the guide's Derived/Test/ToyasCard.lean, 'card_holds'). Laid BY PROGRAM, IN A SANDBOX (cutbox-door.mjs). By AI agents, Wed Nov 11 2026. No macro, syntax, notation, axiom, sorry.
-/
import Derived.Test.YthfnlmedelfbnaaDoorRows
import GoSem.ClaimSeven
namespace Go.Proofs.YthfnlmedelfbnaaDoor
namespace Rows

/-- THE TIED CARD OF 'arrearslaw13.CollectExact'. -/
def collectExactCard : Claim7 := { stood := { row := collectExactRow, standIns := [], harness := (true, "618b60a4378d095714f5a08334917596ef39591bcaf255c9739e4e8e34bfb7b4"), looks := false }, kinds := [], alts := [], laidByText := true, laidKinds := [.data], laidTests := true, laidLooks := .later }
def CollectExactCardSaid : Prop := Claim7.holds Tryd.pinned (.plain (OpenSpec.ofChange collectExactSpec)) collectExactCard

/-- THE SECOND FORM's CARD OF 'arrearslaw13.CollectExact'. -/
def collectExactUptoCard : Claim7 := { stood := { row := collectExactUptoRow, standIns := [], harness := (true, "618b60a4378d095714f5a08334917596ef39591bcaf255c9739e4e8e34bfb7b4"), looks := false }, kinds := [], alts := [], laidByText := true, laidKinds := [.data], laidTests := true, laidLooks := .later }
def CollectExactUptoCardSaid : Prop := Claim7.holds Tryd.pinned (.plain (OpenSpec.upto collectExactSpec)) collectExactUptoCard
end Rows
end Go.Proofs.YthfnlmedelfbnaaDoor
