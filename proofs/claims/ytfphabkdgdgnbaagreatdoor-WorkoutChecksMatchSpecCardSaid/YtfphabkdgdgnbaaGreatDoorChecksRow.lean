import Derived.Test.YtfphabkdgdgnbaaGreatDoorRows
import Derived.Test.YtfphabkdgdgnbaaGreatDoorTie
import Derived.Test.YtfphabkdgdgnbaaGreatDoorCards
import Derived.Test.YtfphabkdgdgnbaaGreatDoorFacts
import Derived.Test.YtfphabkdgdgnbaaGreatDoorSigs
import Derived.Test.YtfphabkdgdgnbaaGreatDoorChkD
import Derived.Test.YtfphabkdgdgnbaaGreatDoorDecI
import Derived.WalkKit
import Derived.ProofKit
import Derived.OpenShut
import Derived.ShutString
import Derived.ChangeOld
import Derived.Below
import Derived.SizedLaws
import Derived.LaidMore
import Derived.Lay
import Derived.SevenTiedAt
import Derived.Stop.Joined
import Derived.Lib.LaidTab
import Derived.Lib.LaidU8
namespace Go.Proofs.YtfphabkdgdgnbaaGreatDoor.rowChecks
open Go.ChangeShapes Go.WideShapes Go.ChangeAt Go.RowKit Go.Proofs.YtfphabkdgdgnbaaGreatDoor.AE Go.Proofs.YtfphabkdgdgnbaaGreatDoor.SE
set_option linter.unusedVariables false
set_option maxRecDepth 100000 in
theorem lifted (os : Os) (started : os.Started) (H : Type) (enc : TypeId × Value → H) :
    ReturnsInHanded {} Tryz.checked os 3 .any (fun w args => (Rows.workoutChecksMatchSpecSpec.pre enc Tryz.prog Tryz.f3 Rows.workoutChecksMatchSpecRow.domain false w args ∧ laidMetH Tryz.prog laid w) ∧ sizedMet enc Tryz.prog Tryz.f3 (OpenSpec.ofChange Rows.workoutChecksMatchSpecSpec) false w args)
      (Rows.workoutChecksMatchSpecSpec.post enc Tryz.prog Tryz.f3 false true false false) := by
  refine returnsInHanded_of_change_and (C := Tryz.checked) (X := fun w _ => laidMetH Tryz.prog laid w) (fun _ _ _ hh h => h.of_heap hh) own started (by kernel_rfl) Tryz.func3
    (ChangeSpec.witness_shaped (enc := enc) (C := Tryz.checked) (os := os) (X := fun w _ => laidMetH Tryz.prog laid w) false (World.laidAll Tryz.prog os laid) #[.agg #[.string ⟨#[]⟩, .slice none 0 0], .agg #[.string ⟨#[]⟩, .slice none 0 0]] 8 (World.laidAll_os _ _ _)
      (laid_shaped os _) (by kernel_rfl) (by kernel_rfl) (by kernel_rfl) (laid_witness os _)) ?_
  intro W base args ds gs before hval0 hW _ _ hL _
  have hval : ∀ (j : Nat) t v, Tryz.f3.params[j]? = some t → args[j]? = some v → Value.okWide Tryz.prog W .any base t v := hval0
  have hW' := hW
  obtain ⟨p, q, hA0, hV, rfl, hfz, hnd⟩ := hW
  have hA : DataW.TrodAll enc Tryz.prog W 0 (fun _ => true) true Tryz.f3.params.toList args.toList ds p := hA0
  rw [Tryz.params3] at hA hval
  obtain ⟨v0, vs0, d0, ds0, p0, q0, hargs, rfl, rfl, h0, r0⟩ := trodAll_cons hA
  obtain ⟨v1, vs1, d1, ds1, p1, q1, rfl, rfl, rfl, h1, r1⟩ := trodAll_cons r0
  obtain ⟨rfl, rfl, rfl⟩ := trodAll_nil r1
  obtain rfl : args = #[v0, v1] := by cases args; simp_all
  obtain ⟨rfl, rfl⟩ := trodVars_none hV
  have lt0 : ∀ x ∈ p0, x.block < W.heap.size := by obtain ⟨m, hm⟩ := h0; exact DataW.trod_lt m _ _ _ hm
  have lt1 : ∀ x ∈ p1, x.block < W.heap.size := by obtain ⟨m, hm⟩ := h1; exact DataW.trod_lt m _ _ _ hm
  obtain ⟨c0, rfl, _⟩ := okWide_struct Tryz.underlying24 (hval 0 24 v0 rfl rfl)
  obtain ⟨c1, rfl, _⟩ := okWide_struct Tryz.underlying24 (hval 1 24 v1 rfl rfl)
  obtain ⟨⟨na, la⟩, hC0, wna, wla, woa⟩ := decT_of decWorkout h0
  obtain ⟨⟨nb, lb⟩, hC1, wnb, wlb, wob⟩ := decT_of decWorkout h1
  have hG := table hL
  have ha : RL Tryz.prog ⟨[St na, .l (rows la), St nb, .l (rows lb)], [], memOf W⟩ [.agg [.s (.x 0), .d 93 (.x 1)], .agg [.s (.x 2), .d 93 (.x 3)]] [.agg c0, .agg c1] := by
    have k0 := cells_RL (cx := ⟨[St na, .l (rows la), St nb, .l (rows lb)], [], memOf W⟩) (i := 0) hC0 fun j d hj => by
      match j, hj with
      | 0, hj => exact hj
      | 1, hj => exact hj
    have k1 := cells_RL (cx := ⟨[St na, .l (rows la), St nb, .l (rows lb)], [], memOf W⟩) (i := 2) hC1 fun j d hj => by
      match j, hj with
      | 0, hj => exact hj
      | 1, hj => exact hj
    simp only [RL, SV.R]
    exact ⟨_, _, rfl, ⟨_, k0, by simp [Value.cells]⟩, _, _, rfl, ⟨_, k1, by simp [Value.cells]⟩, rfl⟩
  refine (SigOK.call (all_sigs 0 _ rfl) rfl (tb_lies hG) (ρ := [St na, .l (rows la), St nb, .l (rows lb)]) rfl ha (checks_ok na nb la lb wna wnb wla wlb woa wob) rfl).mono fun e W' ⟨σ', M', v, he, hr, bel⟩ => ?_
  obtain rfl : v = .bool true := by
    have := hr.1
    simpa [Ex.den] using this.symm
  subst he
  exact ⟨_, rfl, _, _, _, [], _, [], hW', trodAll_mk1 (shut_bool Tryz.underlying4 _), (trodAll_cons_mk (Below.trod laidOut (by kernel_rfl) (of_decide_eq_true (by kernel_rfl)) h0 bel lt0) (trodAll_cons_mk (Below.trod laidOut (by kernel_rfl) (of_decide_eq_true (by kernel_rfl)) h1 bel lt1) trodAll_mk0)), rfl, bel.frame _, fun h => by cases h⟩
/-! the closed facts, one by one -/
noncomputable abbrev rowc := Rows.workoutChecksMatchSpecRow
theorem j5 : (rowc.inPlace == pr.inPlace 3) = true := by kernel_rfl
theorem j6 : (rowc.unfollowed == pr.unfollowed 3) = true := by kernel_rfl
theorem j7 : (rowc.recurses == pr.recurses 3) = true := by kernel_rfl
theorem j8 : (rowc.named == pr.varsNamed 3) = true := by kernel_rfl
theorem facts : joinedFacts pr 3 Tryz.f3 Rows.workoutChecksMatchSpecSpec rowc = true :=
  and32 (by kernel_rfl) pr_laidOut pr_mapsRowed (by kernel_rfl) (by kernel_rfl) (by kernel_rfl) (by kernel_rfl) (by kernel_rfl) (by kernel_rfl) j5 j6 j7 j8 (by kernel_rfl) (by kernel_rfl) (by kernel_rfl) (by kernel_rfl) (by kernel_rfl)
    (by kernel_rfl) (by kernel_rfl) (by kernel_rfl) (by kernel_rfl) (by kernel_rfl) (by kernel_rfl) pr_stopsHeard pr_mayEnter (by kernel_rfl) (by kernel_rfl) (by kernel_rfl) (by kernel_rfl) (by kernel_rfl) (by kernel_rfl)
theorem named : Tryz.pinned.checked.prog.funcNamed Rows.workoutChecksMatchSpecRow.func = some 3 := by kernel_rfl
theorem inst : Tryz.f3.isInstance Tryz.pinned.checked.prog Rows.workoutChecksMatchSpecRow.origin Rows.workoutChecksMatchSpecRow.targs := of_decide_eq_true (by kernel_rfl)
theorem wrapper : Tryz.f3.isWrapper Tryz.pinned.checked.prog Rows.workoutChecksMatchSpecRow.wrapper Rows.workoutChecksMatchSpecRow.mainSum := by
  unfold Func.isWrapper; first | (rw [if_pos (by decide +kernel)]; kernel_rfl) | (rw [if_neg (by decide +kernel)]; exact ⟨rfl, rfl⟩)
theorem over : Rows.WorkoutChecksMatchSpecSaid :=
  OpenClaim.holds_of_wide 3 Tryz.f3 rfl rfl rfl rfl rfl rfl rfl ⟨rfl, rfl, rfl, rfl, rfl⟩ rfl rfl rfl rfl rfl named Tryz.func3 facts inst wrapper
    (fun os started H enc _ => lifted os started H enc)
#print axioms over
end Go.Proofs.YtfphabkdgdgnbaaGreatDoor.rowChecks
