/-
  DERIVED. GIVEN WITH THE SEED: THE CARDS: each row of YtojielokkpmjeaaDoorRows.lean that lists a variable, with what it lists TIED to the program's text (the seventh form; the later family's looks); each row that meets fmt, with fmt's text TOLD by the authors' own Lean function (tested against real Go, not proved from fmt's source: count such statements apart). THE CARD IS WHAT COUNTS. Prove the row's statement (the work); the ties are given (YtojielokkpmjeaaDoorTie.lean); close each card by the builder's one call (the guide's Derived/Test/ToyasCard.lean, 'card_holds'). Laid BY PROGRAM, IN A SANDBOX (cutbox-door.mjs). By AI agents, Wed Nov 11 2026. No macro, syntax, notation, axiom, sorry.
-/
import Derived.Test.YtojielokkpmjeaaDoorRows
import GoSem.ClaimSeven
namespace Go.Proofs.YtojielokkpmjeaaDoor
namespace Rows

/-- THE TIED CARD OF 'citadellaw28.TrialBusy'. -/
def trialBusyCard : Claim7 := { stood := { row := trialBusyRow, standIns := [], harness := (true, "6b9704b33fb7b999db521ea38d1880e23ceb63dde1ca18630d138d66fd4b1a21"), looks := false }, kinds := [], alts := [], laidByText := true, laidKinds := [.data, .data, .data], laidTests := true, laidLooks := .later }
def TrialBusyCardSaid : Prop := Claim7.holds Tryd.pinned (.plain (OpenSpec.ofChange trialBusySpec)) trialBusyCard

/-- THE TIED CARD OF 'citadellaw28.TrialBudget'. -/
def trialBudgetCard : Claim7 := { stood := { row := trialBudgetRow, standIns := [], harness := (true, "6b9704b33fb7b999db521ea38d1880e23ceb63dde1ca18630d138d66fd4b1a21"), looks := false }, kinds := [], alts := [], laidByText := true, laidKinds := [.data, .data, .data], laidTests := true, laidLooks := .later }
def TrialBudgetCardSaid : Prop := Claim7.holds Tryd.pinned (.plain (OpenSpec.ofChange trialBudgetSpec)) trialBudgetCard

/-- THE TIED CARD OF 'citadellaw28.TrialPhases'. -/
def trialPhasesCard : Claim7 := { stood := { row := trialPhasesRow, standIns := [], harness := (true, "6b9704b33fb7b999db521ea38d1880e23ceb63dde1ca18630d138d66fd4b1a21"), looks := false }, kinds := [], alts := [], laidByText := true, laidKinds := [.data, .data, .data], laidTests := true, laidLooks := .later }
def TrialPhasesCardSaid : Prop := Claim7.holds Tryd.pinned (.plain (OpenSpec.ofChange trialPhasesSpec)) trialPhasesCard

/-- THE TIED CARD OF 'citadellaw28.TrialTime'. -/
def trialTimeCard : Claim7 := { stood := { row := trialTimeRow, standIns := [], harness := (true, "6b9704b33fb7b999db521ea38d1880e23ceb63dde1ca18630d138d66fd4b1a21"), looks := false }, kinds := [], alts := [], laidByText := true, laidKinds := [.data, .data, .data], laidTests := true, laidLooks := .later }
def TrialTimeCardSaid : Prop := Claim7.holds Tryd.pinned (.plain (OpenSpec.ofChange trialTimeSpec)) trialTimeCard

/-- THE SECOND FORM's CARD OF 'citadellaw28.TrialBusy'. -/
def trialBusyUptoCard : Claim7 := { stood := { row := trialBusyUptoRow, standIns := [], harness := (true, "6b9704b33fb7b999db521ea38d1880e23ceb63dde1ca18630d138d66fd4b1a21"), looks := false }, kinds := [], alts := [], laidByText := true, laidKinds := [.data, .data, .data], laidTests := true, laidLooks := .later }
def TrialBusyUptoCardSaid : Prop := Claim7.holds Tryd.pinned (.plain (OpenSpec.upto trialBusySpec)) trialBusyUptoCard

/-- THE SECOND FORM's CARD OF 'citadellaw28.TrialBudget'. -/
def trialBudgetUptoCard : Claim7 := { stood := { row := trialBudgetUptoRow, standIns := [], harness := (true, "6b9704b33fb7b999db521ea38d1880e23ceb63dde1ca18630d138d66fd4b1a21"), looks := false }, kinds := [], alts := [], laidByText := true, laidKinds := [.data, .data, .data], laidTests := true, laidLooks := .later }
def TrialBudgetUptoCardSaid : Prop := Claim7.holds Tryd.pinned (.plain (OpenSpec.upto trialBudgetSpec)) trialBudgetUptoCard

/-- THE SECOND FORM's CARD OF 'citadellaw28.TrialPhases'. -/
def trialPhasesUptoCard : Claim7 := { stood := { row := trialPhasesUptoRow, standIns := [], harness := (true, "6b9704b33fb7b999db521ea38d1880e23ceb63dde1ca18630d138d66fd4b1a21"), looks := false }, kinds := [], alts := [], laidByText := true, laidKinds := [.data, .data, .data], laidTests := true, laidLooks := .later }
def TrialPhasesUptoCardSaid : Prop := Claim7.holds Tryd.pinned (.plain (OpenSpec.upto trialPhasesSpec)) trialPhasesUptoCard

/-- THE SECOND FORM's CARD OF 'citadellaw28.TrialTime'. -/
def trialTimeUptoCard : Claim7 := { stood := { row := trialTimeUptoRow, standIns := [], harness := (true, "6b9704b33fb7b999db521ea38d1880e23ceb63dde1ca18630d138d66fd4b1a21"), looks := false }, kinds := [], alts := [], laidByText := true, laidKinds := [.data, .data, .data], laidTests := true, laidLooks := .later }
def TrialTimeUptoCardSaid : Prop := Claim7.holds Tryd.pinned (.plain (OpenSpec.upto trialTimeSpec)) trialTimeUptoCard
end Rows
end Go.Proofs.YtojielokkpmjeaaDoor
