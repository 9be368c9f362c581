import Derived.Test.YtfphabkdgdgnbaaGreatDoorChecksRow
namespace Go.Proofs.YtfphabkdgdgnbaaGreatDoor
open Go
namespace rowChecks
theorem byText : Rows.workoutChecksMatchSpecRow.wfByText (OpenSpec.ofChange Rows.workoutChecksMatchSpecSpec) = true := by kernel_rfl
theorem mainIs : pr.mainIs = some (true, "a38613385797ee3e9e7c5299d6f1271e22bc2b929638d5c7126e9c68d3cdf4f9".toList) := by kernel_rfl
theorem looks : true = pr.looks [] := by kernel_rfl
theorem noStandIn : ([24, 24].all fun u => !pr.wantsStandIn u) = true := by kernel_rfl
theorem goes : false = Rows.workoutChecksMatchSpecRow.goesBy pr := by kernel_rfl
theorem numbered : pr.funcNamed "harrier/harrierlaw7.WorkoutChecksMatchSpec" = some 3 := by kernel_rfl
end rowChecks
/-- THE CARD. -/
theorem workoutChecks_card : Rows.WorkoutChecksMatchSpecCardSaid :=
  Claim7.holds_tied_plain_at .later [] [.data, .data, .data, .data, .sentinel, .sentinel, .pinned] true (true, "a38613385797ee3e9e7c5299d6f1271e22bc2b929638d5c7126e9c68d3cdf4f9") true
    rowChecks.over (fun _ h => by cases h) rowChecks.byText (fun _ h => by cases h) workoutChecksMatchSpec_row_tie rfl ⟨rfl, rfl⟩ rowChecks.mainIs rfl
    (fun f fn hf hfn => by
      obtain rfl : f = 3 := Option.some.inj (rowChecks.numbered.symm.trans hf) |>.symm
      obtain rfl : fn = Tryz.f3 := (Option.some.inj (Tryz.func3.symm.trans hfn)).symm
      exact ⟨rowChecks.looks, fun j t ht => by
        rw [Tryz.params3] at ht
        have hm : t ∈ [24, 24] := by simpa using Array.mem_of_getElem? ht
        simpa using List.all_eq_true.1 rowChecks.noStandIn t hm⟩)
    rowChecks.goes
#print axioms workoutChecks_card
end Go.Proofs.YtfphabkdgdgnbaaGreatDoor
