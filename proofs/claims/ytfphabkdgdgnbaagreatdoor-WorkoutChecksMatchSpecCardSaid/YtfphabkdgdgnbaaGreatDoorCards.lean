/-
  DERIVED. GIVEN WITH THE SEED: THE CARDS: each row of YtfphabkdgdgnbaaGreatDoorRows.lean that lists a variable, with what it lists TIED to the program's text (the seventh form; the later family's looks); each row that meets fmt, with fmt's text TOLD by the authors' own Lean function (tested against real Go, not proved from fmt's source: count such statements apart). THE CARD IS WHAT COUNTS. Prove the row's statement (the work); the ties are given (YtfphabkdgdgnbaaGreatDoorTie.lean); close each card by the builder's one call (the guide's Derived/Test/ToyasCard.lean, 'card_holds'). Laid BY PROGRAM, IN A SANDBOX (cutbox-door.mjs). By AI agents, Wed Nov 11 2026. No macro, syntax, notation, axiom, sorry.
-/
import Derived.Test.YtfphabkdgdgnbaaGreatDoorRows
import GoSem.ClaimSeven
namespace Go.Proofs.YtfphabkdgdgnbaaGreatDoor
namespace Rows

/-- THE TIED CARD OF 'harrierlaw7.WorkoutChecksMatchSpec'. -/
def workoutChecksMatchSpecCard : Claim7 := { stood := { row := workoutChecksMatchSpecRow, standIns := [], harness := (true, "a38613385797ee3e9e7c5299d6f1271e22bc2b929638d5c7126e9c68d3cdf4f9"), looks := true }, kinds := [], alts := [], laidByText := true, laidKinds := [.data, .data, .data, .data, .sentinel, .sentinel, .pinned], laidTests := true, laidLooks := .later }
def WorkoutChecksMatchSpecCardSaid : Prop := Claim7.holds Tryz.pinned (.plain (OpenSpec.ofChange workoutChecksMatchSpecSpec)) workoutChecksMatchSpecCard

/-- THE TIED CARD OF 'harrierlaw7.WorkoutReadMatchesSpec'. -/
def workoutReadMatchesSpecCard : Claim7 := { stood := { row := workoutReadMatchesSpecRow, standIns := [], harness := (true, "a38613385797ee3e9e7c5299d6f1271e22bc2b929638d5c7126e9c68d3cdf4f9"), looks := true }, kinds := [], alts := [], laidByText := true, laidKinds := [.data, .data, .data, .data, .sentinel, .sentinel, .pinned], laidTests := true, laidLooks := .later }
def WorkoutReadMatchesSpecCardSaid : Prop := Claim7.holds Tryz.pinned (.plain (OpenSpec.ofChange workoutReadMatchesSpecSpec)) workoutReadMatchesSpecCard

/-- THE TIED CARD OF 'harrierlaw7.WorkoutTimelineMatchesSpec'. -/
def workoutTimelineMatchesSpecCard : Claim7 := { stood := { row := workoutTimelineMatchesSpecRow, standIns := [], harness := (true, "a38613385797ee3e9e7c5299d6f1271e22bc2b929638d5c7126e9c68d3cdf4f9"), looks := true }, kinds := [], alts := [], laidByText := true, laidKinds := [.data, .data, .data, .data, .sentinel, .sentinel, .pinned], laidTests := true, laidLooks := .later }
def WorkoutTimelineMatchesSpecCardSaid : Prop := Claim7.holds Tryz.pinned (.plain (OpenSpec.ofChange workoutTimelineMatchesSpecSpec)) workoutTimelineMatchesSpecCard

/-- THE TIED CARD OF 'harrierlaw7.WorkoutCostsGrow'. -/
def workoutCostsGrowCard : Claim7 := { stood := { row := workoutCostsGrowRow, standIns := [], harness := (true, "a38613385797ee3e9e7c5299d6f1271e22bc2b929638d5c7126e9c68d3cdf4f9"), looks := true }, kinds := [], alts := [], laidByText := true, laidKinds := [.data, .data, .data, .data, .sentinel, .sentinel, .pinned], laidTests := true, laidLooks := .later }
def WorkoutCostsGrowCardSaid : Prop := Claim7.holds Tryz.pinned (.plain (OpenSpec.ofChange workoutCostsGrowSpec)) workoutCostsGrowCard

/-- THE TIED CARD OF 'harrierlaw7.WorkoutCostsMatchSpec'. -/
def workoutCostsMatchSpecCard : Claim7 := { stood := { row := workoutCostsMatchSpecRow, standIns := [], harness := (true, "a38613385797ee3e9e7c5299d6f1271e22bc2b929638d5c7126e9c68d3cdf4f9"), looks := true }, kinds := [], alts := [], laidByText := true, laidKinds := [.data, .data, .data, .data, .sentinel, .sentinel, .pinned], laidTests := true, laidLooks := .later }
def WorkoutCostsMatchSpecCardSaid : Prop := Claim7.holds Tryz.pinned (.plain (OpenSpec.ofChange workoutCostsMatchSpecSpec)) workoutCostsMatchSpecCard

/-- THE TIED CARD OF 'harrierlaw7.WorkoutFoldsMatchSpec'. -/
def workoutFoldsMatchSpecCard : Claim7 := { stood := { row := workoutFoldsMatchSpecRow, standIns := [], harness := (true, "a38613385797ee3e9e7c5299d6f1271e22bc2b929638d5c7126e9c68d3cdf4f9"), looks := true }, kinds := [], alts := [], laidByText := true, laidKinds := [.data, .data, .data, .data, .sentinel, .sentinel, .pinned], laidTests := true, laidLooks := .later }
def WorkoutFoldsMatchSpecCardSaid : Prop := Claim7.holds Tryz.pinned (.plain (OpenSpec.ofChange workoutFoldsMatchSpecSpec)) workoutFoldsMatchSpecCard

/-- THE TIED CARD OF 'harrierlaw7.WorkoutFoldsUnfold'. -/
def workoutFoldsUnfoldCard : Claim7 := { stood := { row := workoutFoldsUnfoldRow, standIns := [], harness := (true, "a38613385797ee3e9e7c5299d6f1271e22bc2b929638d5c7126e9c68d3cdf4f9"), looks := true }, kinds := [], alts := [], laidByText := true, laidKinds := [.data, .data, .data, .data, .sentinel, .sentinel, .pinned], laidTests := true, laidLooks := .later }
def WorkoutFoldsUnfoldCardSaid : Prop := Claim7.holds Tryz.pinned (.plain (OpenSpec.ofChange workoutFoldsUnfoldSpec)) workoutFoldsUnfoldCard

/-- THE TIED CARD OF 'harrierlaw7.WorkoutTimelineIsWhole'. -/
def workoutTimelineIsWholeCard : Claim7 := { stood := { row := workoutTimelineIsWholeRow, standIns := [], harness := (true, "a38613385797ee3e9e7c5299d6f1271e22bc2b929638d5c7126e9c68d3cdf4f9"), looks := true }, kinds := [], alts := [], laidByText := true, laidKinds := [.data, .data, .data, .data, .sentinel, .sentinel, .pinned], laidTests := true, laidLooks := .later }
def WorkoutTimelineIsWholeCardSaid : Prop := Claim7.holds Tryz.pinned (.plain (OpenSpec.ofChange workoutTimelineIsWholeSpec)) workoutTimelineIsWholeCard

/-- THE TIED CARD OF 'harrierlaw7.WorkoutHoldMatchesSpec'. -/
def workoutHoldMatchesSpecCard : Claim7 := { stood := { row := workoutHoldMatchesSpecRow, standIns := [], harness := (true, "a38613385797ee3e9e7c5299d6f1271e22bc2b929638d5c7126e9c68d3cdf4f9"), looks := true }, kinds := [], alts := [], laidByText := true, laidKinds := [.data, .data, .data, .data, .sentinel, .sentinel, .pinned], laidTests := true, laidLooks := .later }
def WorkoutHoldMatchesSpecCardSaid : Prop := Claim7.holds Tryz.pinned (.plain (OpenSpec.ofChange workoutHoldMatchesSpecSpec)) workoutHoldMatchesSpecCard

/-- THE TIED CARD OF 'harrierlaw7.WorkoutHoldIsLeast'. -/
def workoutHoldIsLeastCard : Claim7 := { stood := { row := workoutHoldIsLeastRow, standIns := [], harness := (true, "a38613385797ee3e9e7c5299d6f1271e22bc2b929638d5c7126e9c68d3cdf4f9"), looks := true }, kinds := [], alts := [], laidByText := true, laidKinds := [.data, .data, .data, .data, .sentinel, .sentinel, .pinned], laidTests := true, laidLooks := .later }
def WorkoutHoldIsLeastCardSaid : Prop := Claim7.holds Tryz.pinned (.plain (OpenSpec.ofChange workoutHoldIsLeastSpec)) workoutHoldIsLeastCard

/-- THE TIED CARD OF 'harrierlaw7.WorkoutTextsComeBack'. -/
def workoutTextsComeBackCard : Claim7 := { stood := { row := workoutTextsComeBackRow, standIns := [], harness := (true, "a38613385797ee3e9e7c5299d6f1271e22bc2b929638d5c7126e9c68d3cdf4f9"), looks := true }, kinds := [], alts := [], laidByText := true, laidKinds := [.data, .data, .data, .data, .sentinel, .sentinel, .pinned], laidTests := true, laidLooks := .later }
def WorkoutTextsComeBackCardSaid : Prop := Claim7.holds Tryz.pinned (.plain (OpenSpec.ofChange workoutTextsComeBackSpec)) workoutTextsComeBackCard

/-- THE TIED CARD OF 'harriertop.TopWorkoutsAreDone'. -/
def topWorkoutsAreDoneCard : Claim7 := { stood := { row := topWorkoutsAreDoneRow, standIns := [], harness := (true, "a38613385797ee3e9e7c5299d6f1271e22bc2b929638d5c7126e9c68d3cdf4f9"), looks := true }, kinds := [], alts := [], laidByText := true, laidKinds := [.data, .data, .data, .data, .sentinel, .sentinel, .pinned], laidTests := true, laidLooks := .later }
def TopWorkoutsAreDoneCardSaid : Prop := Claim7.holds Tryz.pinned (.plain (OpenSpec.ofChange topWorkoutsAreDoneSpec)) topWorkoutsAreDoneCard

/-- THE SECOND FORM's CARD OF 'harrierlaw7.WorkoutChecksMatchSpec'. -/
def workoutChecksMatchSpecUptoCard : Claim7 := { stood := { row := workoutChecksMatchSpecUptoRow, standIns := [], harness := (true, "a38613385797ee3e9e7c5299d6f1271e22bc2b929638d5c7126e9c68d3cdf4f9"), looks := true }, kinds := [], alts := [], laidByText := true, laidKinds := [.data, .data, .data, .data, .sentinel, .sentinel, .pinned], laidTests := true, laidLooks := .later }
def WorkoutChecksMatchSpecUptoCardSaid : Prop := Claim7.holds Tryz.pinned (.plain (OpenSpec.upto workoutChecksMatchSpecSpec)) workoutChecksMatchSpecUptoCard

/-- THE SECOND FORM's CARD OF 'harrierlaw7.WorkoutReadMatchesSpec'. -/
def workoutReadMatchesSpecUptoCard : Claim7 := { stood := { row := workoutReadMatchesSpecUptoRow, standIns := [], harness := (true, "a38613385797ee3e9e7c5299d6f1271e22bc2b929638d5c7126e9c68d3cdf4f9"), looks := true }, kinds := [], alts := [], laidByText := true, laidKinds := [.data, .data, .data, .data, .sentinel, .sentinel, .pinned], laidTests := true, laidLooks := .later }
def WorkoutReadMatchesSpecUptoCardSaid : Prop := Claim7.holds Tryz.pinned (.plain (OpenSpec.upto workoutReadMatchesSpecSpec)) workoutReadMatchesSpecUptoCard

/-- THE SECOND FORM's CARD OF 'harrierlaw7.WorkoutTimelineMatchesSpec'. -/
def workoutTimelineMatchesSpecUptoCard : Claim7 := { stood := { row := workoutTimelineMatchesSpecUptoRow, standIns := [], harness := (true, "a38613385797ee3e9e7c5299d6f1271e22bc2b929638d5c7126e9c68d3cdf4f9"), looks := true }, kinds := [], alts := [], laidByText := true, laidKinds := [.data, .data, .data, .data, .sentinel, .sentinel, .pinned], laidTests := true, laidLooks := .later }
def WorkoutTimelineMatchesSpecUptoCardSaid : Prop := Claim7.holds Tryz.pinned (.plain (OpenSpec.upto workoutTimelineMatchesSpecSpec)) workoutTimelineMatchesSpecUptoCard

/-- THE SECOND FORM's CARD OF 'harrierlaw7.WorkoutCostsGrow'. -/
def workoutCostsGrowUptoCard : Claim7 := { stood := { row := workoutCostsGrowUptoRow, standIns := [], harness := (true, "a38613385797ee3e9e7c5299d6f1271e22bc2b929638d5c7126e9c68d3cdf4f9"), looks := true }, kinds := [], alts := [], laidByText := true, laidKinds := [.data, .data, .data, .data, .sentinel, .sentinel, .pinned], laidTests := true, laidLooks := .later }
def WorkoutCostsGrowUptoCardSaid : Prop := Claim7.holds Tryz.pinned (.plain (OpenSpec.upto workoutCostsGrowSpec)) workoutCostsGrowUptoCard

/-- THE SECOND FORM's CARD OF 'harrierlaw7.WorkoutCostsMatchSpec'. -/
def workoutCostsMatchSpecUptoCard : Claim7 := { stood := { row := workoutCostsMatchSpecUptoRow, standIns := [], harness := (true, "a38613385797ee3e9e7c5299d6f1271e22bc2b929638d5c7126e9c68d3cdf4f9"), looks := true }, kinds := [], alts := [], laidByText := true, laidKinds := [.data, .data, .data, .data, .sentinel, .sentinel, .pinned], laidTests := true, laidLooks := .later }
def WorkoutCostsMatchSpecUptoCardSaid : Prop := Claim7.holds Tryz.pinned (.plain (OpenSpec.upto workoutCostsMatchSpecSpec)) workoutCostsMatchSpecUptoCard

/-- THE SECOND FORM's CARD OF 'harrierlaw7.WorkoutFoldsMatchSpec'. -/
def workoutFoldsMatchSpecUptoCard : Claim7 := { stood := { row := workoutFoldsMatchSpecUptoRow, standIns := [], harness := (true, "a38613385797ee3e9e7c5299d6f1271e22bc2b929638d5c7126e9c68d3cdf4f9"), looks := true }, kinds := [], alts := [], laidByText := true, laidKinds := [.data, .data, .data, .data, .sentinel, .sentinel, .pinned], laidTests := true, laidLooks := .later }
def WorkoutFoldsMatchSpecUptoCardSaid : Prop := Claim7.holds Tryz.pinned (.plain (OpenSpec.upto workoutFoldsMatchSpecSpec)) workoutFoldsMatchSpecUptoCard

/-- THE SECOND FORM's CARD OF 'harrierlaw7.WorkoutFoldsUnfold'. -/
def workoutFoldsUnfoldUptoCard : Claim7 := { stood := { row := workoutFoldsUnfoldUptoRow, standIns := [], harness := (true, "a38613385797ee3e9e7c5299d6f1271e22bc2b929638d5c7126e9c68d3cdf4f9"), looks := true }, kinds := [], alts := [], laidByText := true, laidKinds := [.data, .data, .data, .data, .sentinel, .sentinel, .pinned], laidTests := true, laidLooks := .later }
def WorkoutFoldsUnfoldUptoCardSaid : Prop := Claim7.holds Tryz.pinned (.plain (OpenSpec.upto workoutFoldsUnfoldSpec)) workoutFoldsUnfoldUptoCard

/-- THE SECOND FORM's CARD OF 'harrierlaw7.WorkoutTimelineIsWhole'. -/
def workoutTimelineIsWholeUptoCard : Claim7 := { stood := { row := workoutTimelineIsWholeUptoRow, standIns := [], harness := (true, "a38613385797ee3e9e7c5299d6f1271e22bc2b929638d5c7126e9c68d3cdf4f9"), looks := true }, kinds := [], alts := [], laidByText := true, laidKinds := [.data, .data, .data, .data, .sentinel, .sentinel, .pinned], laidTests := true, laidLooks := .later }
def WorkoutTimelineIsWholeUptoCardSaid : Prop := Claim7.holds Tryz.pinned (.plain (OpenSpec.upto workoutTimelineIsWholeSpec)) workoutTimelineIsWholeUptoCard

/-- THE SECOND FORM's CARD OF 'harrierlaw7.WorkoutHoldMatchesSpec'. -/
def workoutHoldMatchesSpecUptoCard : Claim7 := { stood := { row := workoutHoldMatchesSpecUptoRow, standIns := [], harness := (true, "a38613385797ee3e9e7c5299d6f1271e22bc2b929638d5c7126e9c68d3cdf4f9"), looks := true }, kinds := [], alts := [], laidByText := true, laidKinds := [.data, .data, .data, .data, .sentinel, .sentinel, .pinned], laidTests := true, laidLooks := .later }
def WorkoutHoldMatchesSpecUptoCardSaid : Prop := Claim7.holds Tryz.pinned (.plain (OpenSpec.upto workoutHoldMatchesSpecSpec)) workoutHoldMatchesSpecUptoCard

/-- THE SECOND FORM's CARD OF 'harrierlaw7.WorkoutHoldIsLeast'. -/
def workoutHoldIsLeastUptoCard : Claim7 := { stood := { row := workoutHoldIsLeastUptoRow, standIns := [], harness := (true, "a38613385797ee3e9e7c5299d6f1271e22bc2b929638d5c7126e9c68d3cdf4f9"), looks := true }, kinds := [], alts := [], laidByText := true, laidKinds := [.data, .data, .data, .data, .sentinel, .sentinel, .pinned], laidTests := true, laidLooks := .later }
def WorkoutHoldIsLeastUptoCardSaid : Prop := Claim7.holds Tryz.pinned (.plain (OpenSpec.upto workoutHoldIsLeastSpec)) workoutHoldIsLeastUptoCard

/-- THE SECOND FORM's CARD OF 'harrierlaw7.WorkoutTextsComeBack'. -/
def workoutTextsComeBackUptoCard : Claim7 := { stood := { row := workoutTextsComeBackUptoRow, standIns := [], harness := (true, "a38613385797ee3e9e7c5299d6f1271e22bc2b929638d5c7126e9c68d3cdf4f9"), looks := true }, kinds := [], alts := [], laidByText := true, laidKinds := [.data, .data, .data, .data, .sentinel, .sentinel, .pinned], laidTests := true, laidLooks := .later }
def WorkoutTextsComeBackUptoCardSaid : Prop := Claim7.holds Tryz.pinned (.plain (OpenSpec.upto workoutTextsComeBackSpec)) workoutTextsComeBackUptoCard

/-- THE SECOND FORM's CARD OF 'harriertop.TopWorkoutsAreDone'. -/
def topWorkoutsAreDoneUptoCard : Claim7 := { stood := { row := topWorkoutsAreDoneUptoRow, standIns := [], harness := (true, "a38613385797ee3e9e7c5299d6f1271e22bc2b929638d5c7126e9c68d3cdf4f9"), looks := true }, kinds := [], alts := [], laidByText := true, laidKinds := [.data, .data, .data, .data, .sentinel, .sentinel, .pinned], laidTests := true, laidLooks := .later }
def TopWorkoutsAreDoneUptoCardSaid : Prop := Claim7.holds Tryz.pinned (.plain (OpenSpec.upto topWorkoutsAreDoneSpec)) topWorkoutsAreDoneUptoCard
end Rows
end Go.Proofs.YtfphabkdgdgnbaaGreatDoor
