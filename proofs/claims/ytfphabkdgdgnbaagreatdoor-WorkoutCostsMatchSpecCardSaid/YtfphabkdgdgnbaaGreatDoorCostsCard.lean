import Derived.Test.YtfphabkdgdgnbaaGreatDoorCostsRow
namespace Go.Proofs.YtfphabkdgdgnbaaGreatDoor
open Go
namespace rowCosts
theorem byText : Rows.workoutCostsMatchSpecRow.wfByText (OpenSpec.ofChange Rows.workoutCostsMatchSpecSpec) = true := by kernel_rfl
theorem mainIs : pr.mainIs = some (true, "a38613385797ee3e9e7c5299d6f1271e22bc2b929638d5c7126e9c68d3cdf4f9".toList) := by kernel_rfl
theorem looks : true = pr.looks [] := by kernel_rfl
theorem noStandIn : ([42, 44].all fun u => !pr.wantsStandIn u) = true := by kernel_rfl
theorem goes : false = Rows.workoutCostsMatchSpecRow.goesBy pr := by kernel_rfl
theorem numbered : pr.funcNamed "harrier/harrierlaw7.WorkoutCostsMatchSpec" = some 7 := by kernel_rfl
end rowCosts
/-- THE CARD. -/
theorem workoutCosts_card : Rows.WorkoutCostsMatchSpecCardSaid :=
  Claim7.holds_tied_plain_at .later [] [.data, .data, .data, .data, .sentinel, .sentinel, .pinned] true (true, "a38613385797ee3e9e7c5299d6f1271e22bc2b929638d5c7126e9c68d3cdf4f9") true
    rowCosts.over (fun _ h => by cases h) rowCosts.byText (fun _ h => by cases h) workoutCostsMatchSpec_row_tie rfl ⟨rfl, rfl⟩ rowCosts.mainIs rfl
    (fun f fn hf hfn => by
      obtain rfl : f = 7 := Option.some.inj (rowCosts.numbered.symm.trans hf) |>.symm
      obtain rfl : fn = Tryz.f7 := (Option.some.inj (Tryz.func7.symm.trans hfn)).symm
      exact ⟨rowCosts.looks, fun j t ht => by
        rw [Tryz.params7] at ht
        have hm : t ∈ [42, 44] := by simpa using Array.mem_of_getElem? ht
        simpa using List.all_eq_true.1 rowCosts.noStandIn t hm⟩)
    rowCosts.goes
#print axioms workoutCosts_card
end Go.Proofs.YtfphabkdgdgnbaaGreatDoor
