/-
  DERIVED. GIVEN WITH THE SEED: THE CARDS: each row of YtmdfnelcgobpkaaDoorRows.lean that lists a variable, with what it lists TIED to the program's text (the seventh form; the later family's looks); each row that meets fmt, with fmt's text TOLD by the authors' own Lean function (tested against real Go, not proved from fmt's source: count such statements apart). THE CARD IS WHAT COUNTS. Prove the row's statement (the work); the ties are given (YtmdfnelcgobpkaaDoorTie.lean); close each card by the builder's one call (the guide's Derived/Test/ToyasCard.lean, 'card_holds'). Laid BY PROGRAM, IN A SANDBOX (cutbox-door.mjs). By AI agents, Wed Nov 11 2026. No macro, syntax, notation, axiom, sorry.
-/
import Derived.Test.YtmdfnelcgobpkaaDoorRows
import GoSem.ClaimSeven
namespace Go.Proofs.YtmdfnelcgobpkaaDoor
namespace Rows

/-- THE TIED CARD OF 'stevedorelaw24.PaxPuts'. -/
def paxPutsCard : Claim7 := { stood := { row := paxPutsRow, standIns := [], harness := (true, "e25715c2e68d3fce5c84b274a994f90b40123a647cbf684b1a3bc866e9e16c71"), looks := false }, kinds := [], alts := [], laidByText := true, laidKinds := [.data, .data, .data], laidTests := true, laidLooks := .later }
def PaxPutsCardSaid : Prop := Claim7.holds Tryd.pinned (.plain (OpenSpec.ofChange paxPutsSpec)) paxPutsCard

/-- THE TIED CARD OF 'stevedorelaw24.PaxMerges'. -/
def paxMergesCard : Claim7 := { stood := { row := paxMergesRow, standIns := [], harness := (true, "e25715c2e68d3fce5c84b274a994f90b40123a647cbf684b1a3bc866e9e16c71"), looks := false }, kinds := [], alts := [], laidByText := true, laidKinds := [.data, .data, .data], laidTests := true, laidLooks := .later }
def PaxMergesCardSaid : Prop := Claim7.holds Tryd.pinned (.plain (OpenSpec.ofChange paxMergesSpec)) paxMergesCard

/-- THE SECOND FORM's CARD OF 'stevedorelaw24.PaxPuts'. -/
def paxPutsUptoCard : Claim7 := { stood := { row := paxPutsUptoRow, standIns := [], harness := (true, "e25715c2e68d3fce5c84b274a994f90b40123a647cbf684b1a3bc866e9e16c71"), looks := false }, kinds := [], alts := [], laidByText := true, laidKinds := [.data, .data, .data], laidTests := true, laidLooks := .later }
def PaxPutsUptoCardSaid : Prop := Claim7.holds Tryd.pinned (.plain (OpenSpec.upto paxPutsSpec)) paxPutsUptoCard

/-- THE SECOND FORM's CARD OF 'stevedorelaw24.PaxMerges'. -/
def paxMergesUptoCard : Claim7 := { stood := { row := paxMergesUptoRow, standIns := [], harness := (true, "e25715c2e68d3fce5c84b274a994f90b40123a647cbf684b1a3bc866e9e16c71"), looks := false }, kinds := [], alts := [], laidByText := true, laidKinds := [.data, .data, .data], laidTests := true, laidLooks := .later }
def PaxMergesUptoCardSaid : Prop := Claim7.holds Tryd.pinned (.plain (OpenSpec.upto paxMergesSpec)) paxMergesUptoCard
end Rows
end Go.Proofs.YtmdfnelcgobpkaaDoor
