/-
  DERIVED. GIVEN WITH THE SEED: THE CARDS: each row of YtbhdehkdnenigaaDoorRows.lean that lists a variable, with what it lists TIED to the program's text (the seventh form; the later family's looks); each row that meets fmt, with fmt's text TOLD by the authors' own Lean function (tested against real Go, not proved from fmt's source: count such statements apart). THE CARD IS WHAT COUNTS. Prove the row's statement (the work); the ties are given (YtbhdehkdnenigaaDoorTie.lean); close each card by the builder's one call (the guide's Derived/Test/ToyasCard.lean, 'card_holds'). Laid BY PROGRAM, IN A SANDBOX (cutbox-door.mjs). By AI agents, Wed Nov 11 2026. No macro, syntax, notation, axiom, sorry.
-/
import Derived.Test.YtbhdehkdnenigaaDoorRows
import GoSem.ClaimSeven
namespace Go.Proofs.YtbhdehkdnenigaaDoor
namespace Rows

/-- THE TIED CARD OF 'cofferlaw04.PaxWrites'. -/
def paxWritesCard : Claim7 := { stood := { row := paxWritesRow, standIns := [], harness := (true, "cad683b90f78527b5c2be823933e75a6944a9ef7f591f78a9e14eef11d18fb0b"), looks := true }, kinds := [], alts := [], laidByText := true, laidKinds := [.data, .data, .data], laidTests := true, laidLooks := .later }
def PaxWritesCardSaid : Prop := Claim7.holds Tryd.pinned (.plain (OpenSpec.ofChange paxWritesSpec)) paxWritesCard

/-- THE TIED CARD OF 'cofferlaw04.PaxReads'. -/
def paxReadsCard : Claim7 := { stood := { row := paxReadsRow, standIns := [], harness := (true, "cad683b90f78527b5c2be823933e75a6944a9ef7f591f78a9e14eef11d18fb0b"), looks := true }, kinds := [], alts := [], laidByText := true, laidKinds := [.data, .data, .data], laidTests := true, laidLooks := .later }
def PaxReadsCardSaid : Prop := Claim7.holds Tryd.pinned (.plain (OpenSpec.ofChange paxReadsSpec)) paxReadsCard

/-- THE TIED CARD OF 'cofferlaw04.PaxBack'. -/
def paxBackCard : Claim7 := { stood := { row := paxBackRow, standIns := [], harness := (true, "cad683b90f78527b5c2be823933e75a6944a9ef7f591f78a9e14eef11d18fb0b"), looks := true }, kinds := [], alts := [], laidByText := true, laidKinds := [.data, .data, .data], laidTests := true, laidLooks := .later }
def PaxBackCardSaid : Prop := Claim7.holds Tryd.pinned (.plain (OpenSpec.ofChange paxBackSpec)) paxBackCard

/-- THE TIED CARD OF 'cofferlaw04.PaxOne'. -/
def paxOneCard : Claim7 := { stood := { row := paxOneRow, standIns := [], harness := (true, "cad683b90f78527b5c2be823933e75a6944a9ef7f591f78a9e14eef11d18fb0b"), looks := true }, kinds := [], alts := [], laidByText := true, laidKinds := [.data, .data, .data], laidTests := true, laidLooks := .later }
def PaxOneCardSaid : Prop := Claim7.holds Tryd.pinned (.plain (OpenSpec.ofChange paxOneSpec)) paxOneCard

/-- THE TIED CARD OF 'cofferlaw04.PaxCounts'. -/
def paxCountsCard : Claim7 := { stood := { row := paxCountsRow, standIns := [], harness := (true, "cad683b90f78527b5c2be823933e75a6944a9ef7f591f78a9e14eef11d18fb0b"), looks := true }, kinds := [], alts := [], laidByText := true, laidKinds := [.data, .data, .data], laidTests := true, laidLooks := .later }
def PaxCountsCardSaid : Prop := Claim7.holds Tryd.pinned (.plain (OpenSpec.ofChange paxCountsSpec)) paxCountsCard

/-- THE SECOND FORM's CARD OF 'cofferlaw04.PaxWrites'. -/
def paxWritesUptoCard : Claim7 := { stood := { row := paxWritesUptoRow, standIns := [], harness := (true, "cad683b90f78527b5c2be823933e75a6944a9ef7f591f78a9e14eef11d18fb0b"), looks := true }, kinds := [], alts := [], laidByText := true, laidKinds := [.data, .data, .data], laidTests := true, laidLooks := .later }
def PaxWritesUptoCardSaid : Prop := Claim7.holds Tryd.pinned (.plain (OpenSpec.upto paxWritesSpec)) paxWritesUptoCard

/-- THE SECOND FORM's CARD OF 'cofferlaw04.PaxReads'. -/
def paxReadsUptoCard : Claim7 := { stood := { row := paxReadsUptoRow, standIns := [], harness := (true, "cad683b90f78527b5c2be823933e75a6944a9ef7f591f78a9e14eef11d18fb0b"), looks := true }, kinds := [], alts := [], laidByText := true, laidKinds := [.data, .data, .data], laidTests := true, laidLooks := .later }
def PaxReadsUptoCardSaid : Prop := Claim7.holds Tryd.pinned (.plain (OpenSpec.upto paxReadsSpec)) paxReadsUptoCard

/-- THE SECOND FORM's CARD OF 'cofferlaw04.PaxBack'. -/
def paxBackUptoCard : Claim7 := { stood := { row := paxBackUptoRow, standIns := [], harness := (true, "cad683b90f78527b5c2be823933e75a6944a9ef7f591f78a9e14eef11d18fb0b"), looks := true }, kinds := [], alts := [], laidByText := true, laidKinds := [.data, .data, .data], laidTests := true, laidLooks := .later }
def PaxBackUptoCardSaid : Prop := Claim7.holds Tryd.pinned (.plain (OpenSpec.upto paxBackSpec)) paxBackUptoCard

/-- THE SECOND FORM's CARD OF 'cofferlaw04.PaxOne'. -/
def paxOneUptoCard : Claim7 := { stood := { row := paxOneUptoRow, standIns := [], harness := (true, "cad683b90f78527b5c2be823933e75a6944a9ef7f591f78a9e14eef11d18fb0b"), looks := true }, kinds := [], alts := [], laidByText := true, laidKinds := [.data, .data, .data], laidTests := true, laidLooks := .later }
def PaxOneUptoCardSaid : Prop := Claim7.holds Tryd.pinned (.plain (OpenSpec.upto paxOneSpec)) paxOneUptoCard

/-- THE SECOND FORM's CARD OF 'cofferlaw04.PaxCounts'. -/
def paxCountsUptoCard : Claim7 := { stood := { row := paxCountsUptoRow, standIns := [], harness := (true, "cad683b90f78527b5c2be823933e75a6944a9ef7f591f78a9e14eef11d18fb0b"), looks := true }, kinds := [], alts := [], laidByText := true, laidKinds := [.data, .data, .data], laidTests := true, laidLooks := .later }
def PaxCountsUptoCardSaid : Prop := Claim7.holds Tryd.pinned (.plain (OpenSpec.upto paxCountsSpec)) paxCountsUptoCard
end Rows
end Go.Proofs.YtbhdehkdnenigaaDoor
