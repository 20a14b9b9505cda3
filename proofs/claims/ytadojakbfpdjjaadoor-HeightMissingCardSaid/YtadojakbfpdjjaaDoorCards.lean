/-
  DERIVED. GIVEN WITH THE SEED: THE CARDS: each row of YtadojakbfpdjjaaDoorRows.lean that lists a variable, with what it lists TIED to the program's text (the seventh form; the later family's looks); each row that meets fmt, with fmt's text TOLD by the authors' own Lean function (tested against real Go, not proved from fmt's source: count such statements apart). THE CARD IS WHAT COUNTS. Prove the row's statement (the work); the ties are given (YtadojakbfpdjjaaDoorTie.lean); close each card by the builder's one call (the guide's Derived/Test/ToyasCard.lean, 'card_holds'). Laid BY PROGRAM, IN A SANDBOX (cutbox-door.mjs). By AI agents, Wed Nov 11 2026. No macro, syntax, notation, axiom, sorry.
-/
import Derived.Test.YtadojakbfpdjjaaDoorRows
import GoSem.ClaimSeven
namespace Go.Proofs.YtadojakbfpdjjaaDoor
namespace Rows

/-- THE TIED CARD OF 'letterbaglaw21.HeightReads'. -/
def heightReadsCard : Claim7 := { stood := { row := heightReadsRow, standIns := [], harness := (true, "651ed978138bb60b43e091613a77846b5b7126abc1d5fc09a0e5496950cffb09"), looks := false }, kinds := [], alts := [], laidByText := true, laidKinds := [.data], laidTests := true, laidLooks := .later }
def HeightReadsCardSaid : Prop := Claim7.holds Tryd.pinned (.plain (OpenSpec.ofChange heightReadsSpec)) heightReadsCard

/-- THE TIED CARD OF 'letterbaglaw21.HeightDraws'. -/
def heightDrawsCard : Claim7 := { stood := { row := heightDrawsRow, standIns := [], harness := (true, "651ed978138bb60b43e091613a77846b5b7126abc1d5fc09a0e5496950cffb09"), looks := false }, kinds := [], alts := [], laidByText := true, laidKinds := [.data], laidTests := true, laidLooks := .later }
def HeightDrawsCardSaid : Prop := Claim7.holds Tryd.pinned (.plain (OpenSpec.ofChange heightDrawsSpec)) heightDrawsCard

/-- THE TIED CARD OF 'letterbaglaw21.HeightBack'. -/
def heightBackCard : Claim7 := { stood := { row := heightBackRow, standIns := [], harness := (true, "651ed978138bb60b43e091613a77846b5b7126abc1d5fc09a0e5496950cffb09"), looks := false }, kinds := [], alts := [], laidByText := true, laidKinds := [.data], laidTests := true, laidLooks := .later }
def HeightBackCardSaid : Prop := Claim7.holds Tryd.pinned (.plain (OpenSpec.ofChange heightBackSpec)) heightBackCard

/-- THE TIED CARD OF 'letterbaglaw21.HeightMissing'. -/
def heightMissingCard : Claim7 := { stood := { row := heightMissingRow, standIns := [], harness := (true, "651ed978138bb60b43e091613a77846b5b7126abc1d5fc09a0e5496950cffb09"), looks := false }, kinds := [], alts := [], laidByText := true, laidKinds := [.data], laidTests := true, laidLooks := .later }
def HeightMissingCardSaid : Prop := Claim7.holds Tryd.pinned (.plain (OpenSpec.ofChange heightMissingSpec)) heightMissingCard

/-- THE TIED CARD OF 'letterbaglaw21.HeightWrong'. -/
def heightWrongCard : Claim7 := { stood := { row := heightWrongRow, standIns := [], harness := (true, "651ed978138bb60b43e091613a77846b5b7126abc1d5fc09a0e5496950cffb09"), looks := false }, kinds := [], alts := [], laidByText := true, laidKinds := [.data], laidTests := true, laidLooks := .later }
def HeightWrongCardSaid : Prop := Claim7.holds Tryd.pinned (.plain (OpenSpec.ofChange heightWrongSpec)) heightWrongCard

/-- THE TIED CARD OF 'letterbaglaw21.HeightMargin'. -/
def heightMarginCard : Claim7 := { stood := { row := heightMarginRow, standIns := [], harness := (true, "651ed978138bb60b43e091613a77846b5b7126abc1d5fc09a0e5496950cffb09"), looks := false }, kinds := [], alts := [], laidByText := true, laidKinds := [.data], laidTests := true, laidLooks := .later }
def HeightMarginCardSaid : Prop := Claim7.holds Tryd.pinned (.plain (OpenSpec.ofChange heightMarginSpec)) heightMarginCard

/-- THE SECOND FORM's CARD OF 'letterbaglaw21.HeightReads'. -/
def heightReadsUptoCard : Claim7 := { stood := { row := heightReadsUptoRow, standIns := [], harness := (true, "651ed978138bb60b43e091613a77846b5b7126abc1d5fc09a0e5496950cffb09"), looks := false }, kinds := [], alts := [], laidByText := true, laidKinds := [.data], laidTests := true, laidLooks := .later }
def HeightReadsUptoCardSaid : Prop := Claim7.holds Tryd.pinned (.plain (OpenSpec.upto heightReadsSpec)) heightReadsUptoCard

/-- THE SECOND FORM's CARD OF 'letterbaglaw21.HeightDraws'. -/
def heightDrawsUptoCard : Claim7 := { stood := { row := heightDrawsUptoRow, standIns := [], harness := (true, "651ed978138bb60b43e091613a77846b5b7126abc1d5fc09a0e5496950cffb09"), looks := false }, kinds := [], alts := [], laidByText := true, laidKinds := [.data], laidTests := true, laidLooks := .later }
def HeightDrawsUptoCardSaid : Prop := Claim7.holds Tryd.pinned (.plain (OpenSpec.upto heightDrawsSpec)) heightDrawsUptoCard

/-- THE SECOND FORM's CARD OF 'letterbaglaw21.HeightBack'. -/
def heightBackUptoCard : Claim7 := { stood := { row := heightBackUptoRow, standIns := [], harness := (true, "651ed978138bb60b43e091613a77846b5b7126abc1d5fc09a0e5496950cffb09"), looks := false }, kinds := [], alts := [], laidByText := true, laidKinds := [.data], laidTests := true, laidLooks := .later }
def HeightBackUptoCardSaid : Prop := Claim7.holds Tryd.pinned (.plain (OpenSpec.upto heightBackSpec)) heightBackUptoCard

/-- THE SECOND FORM's CARD OF 'letterbaglaw21.HeightMissing'. -/
def heightMissingUptoCard : Claim7 := { stood := { row := heightMissingUptoRow, standIns := [], harness := (true, "651ed978138bb60b43e091613a77846b5b7126abc1d5fc09a0e5496950cffb09"), looks := false }, kinds := [], alts := [], laidByText := true, laidKinds := [.data], laidTests := true, laidLooks := .later }
def HeightMissingUptoCardSaid : Prop := Claim7.holds Tryd.pinned (.plain (OpenSpec.upto heightMissingSpec)) heightMissingUptoCard

/-- THE SECOND FORM's CARD OF 'letterbaglaw21.HeightWrong'. -/
def heightWrongUptoCard : Claim7 := { stood := { row := heightWrongUptoRow, standIns := [], harness := (true, "651ed978138bb60b43e091613a77846b5b7126abc1d5fc09a0e5496950cffb09"), looks := false }, kinds := [], alts := [], laidByText := true, laidKinds := [.data], laidTests := true, laidLooks := .later }
def HeightWrongUptoCardSaid : Prop := Claim7.holds Tryd.pinned (.plain (OpenSpec.upto heightWrongSpec)) heightWrongUptoCard

/-- THE SECOND FORM's CARD OF 'letterbaglaw21.HeightMargin'. -/
def heightMarginUptoCard : Claim7 := { stood := { row := heightMarginUptoRow, standIns := [], harness := (true, "651ed978138bb60b43e091613a77846b5b7126abc1d5fc09a0e5496950cffb09"), looks := false }, kinds := [], alts := [], laidByText := true, laidKinds := [.data], laidTests := true, laidLooks := .later }
def HeightMarginUptoCardSaid : Prop := Claim7.holds Tryd.pinned (.plain (OpenSpec.upto heightMarginSpec)) heightMarginUptoCard
end Rows
end Go.Proofs.YtadojakbfpdjjaaDoor
