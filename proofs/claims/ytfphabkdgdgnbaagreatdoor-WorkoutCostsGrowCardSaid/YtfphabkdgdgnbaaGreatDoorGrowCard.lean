import Derived.Test.YtfphabkdgdgnbaaGreatDoorGrowRow
namespace Go.Proofs.YtfphabkdgdgnbaaGreatDoor
open Go
namespace rowGrow
theorem byText : Rows.workoutCostsGrowRow.wfByText (OpenSpec.ofChange Rows.workoutCostsGrowSpec) = true := by kernel_rfl
theorem mainIs : pr.mainIs = some (true, "a38613385797ee3e9e7c5299d6f1271e22bc2b929638d5c7126e9c68d3cdf4f9".toList) := by kernel_rfl
theorem looks : true = pr.looks [] := by kernel_rfl
theorem noStandIn : ([42, 3, 3].all fun u => !pr.wantsStandIn u) = true := by kernel_rfl
theorem goes : false = Rows.workoutCostsGrowRow.goesBy pr := by kernel_rfl
theorem numbered : pr.funcNamed "harrier/harrierlaw7.WorkoutCostsGrow" = some 6 := by kernel_rfl
end rowGrow
/-- THE CARD. -/
theorem workoutGrow_card : Rows.WorkoutCostsGrowCardSaid :=
  Claim7.holds_tied_plain_at .later [] [.data, .data, .data, .data, .sentinel, .sentinel, .pinned] true (true, "a38613385797ee3e9e7c5299d6f1271e22bc2b929638d5c7126e9c68d3cdf4f9") true
    rowGrow.over (fun _ h => by cases h) rowGrow.byText (fun _ h => by cases h) workoutCostsGrow_row_tie rfl ⟨rfl, rfl⟩ rowGrow.mainIs rfl
    (fun f fn hf hfn => by
      obtain rfl : f = 6 := Option.some.inj (rowGrow.numbered.symm.trans hf) |>.symm
      obtain rfl : fn = Tryz.f6 := (Option.some.inj (Tryz.func6.symm.trans hfn)).symm
      exact ⟨rowGrow.looks, fun j t ht => by
        rw [Tryz.params6] at ht
        have hm : t ∈ [42, 3, 3] := by simpa using Array.mem_of_getElem? ht
        simpa using List.all_eq_true.1 rowGrow.noStandIn t hm⟩)
    rowGrow.goes
#print axioms workoutGrow_card
end Go.Proofs.YtfphabkdgdgnbaaGreatDoor
