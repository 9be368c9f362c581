import Derived.Test.YtfphabkdgdgnbaaGreatDoorRows
import Derived.Test.YtfphabkdgdgnbaaGreatDoorTie
import Derived.Test.YtfphabkdgdgnbaaGreatDoorCards
import Derived.Test.YtfphabkdgdgnbaaGreatDoorDec
import Derived.Test.YtfphabkdgdgnbaaGreatDoorFacts
import Derived.Test.YtfphabkdgdgnbaaGreatDoorQCostsPure
import Derived.WalkKit
import Derived.ProofKit
import Derived.OpenShut
import Derived.ShutString
import Derived.ChangeOld
import Derived.Below
import Derived.SizedLaws
import Derived.LaidMore
import Derived.Lay
import Derived.SevenTiedAt
import Derived.Stop.Joined
import Derived.Lib.LaidTab
import Derived.Lib.LaidU8
namespace Go.Proofs.YtfphabkdgdgnbaaGreatDoor.rowCosts
open Go.ChangeShapes Go.WideShapes Go.ChangeAt Go.RowKit Go.Proofs.YtfphabkdgdgnbaaGreatDoorW.PrintWords Dec
set_option linter.unusedVariables false
theorem dec42 : ∀ n, DecN Tryz.prog n 42 (Kd.pair (Kd.int .i64) (Kd.pair (Kd.int .i64) (Kd.pair Kd.string (Kd.pair (Kd.int .i64) (Kd.pair (Kd.int .i64) (Kd.pair (Kd.int .i64) (Kd.pair (Kd.int .i64) (Kd.int .i64)))))))) fun _ => True :=
  dec_all (by kernel_rfl) fun n => dec_weak (dec_struct Tryz.underlying42 (by kernel_rfl)
    (dec_cons (dec_int Tryz.underlying3 (by kernel_rfl)) rfl (dec_cons (dec_int Tryz.underlying3 (by kernel_rfl)) rfl (dec_cons (dec_string Tryz.underlying9 (by kernel_rfl)) rfl (dec_cons (dec_int Tryz.underlying3 (by kernel_rfl)) rfl
      (dec_cons (dec_int Tryz.underlying3 (by kernel_rfl)) rfl (dec_cons (dec_int Tryz.underlying3 (by kernel_rfl)) rfl (dec_cons (dec_int Tryz.underlying3 (by kernel_rfl)) rfl (dec_last (dec_int Tryz.underlying3 (by kernel_rfl)) rfl))))))))) fun _ _ => trivial
theorem dec44 : ∀ n, DecN Tryz.prog n 44 (Kd.slice 3 (Kd.int .i64)) fun _ => True :=
  dec_all (by kernel_rfl) fun n => dec_weak (dec_slice Tryz.underlying44 (by kernel_rfl) (dec_int Tryz.underlying3 (by kernel_rfl))) fun _ _ => trivial
set_option maxRecDepth 100000 in
theorem lifted (os : Os) (started : os.Started) (H : Type) (enc : TypeId × Value → H) :
    ReturnsInHanded {} Tryz.checked os 7 .any (fun w args => (Rows.workoutCostsMatchSpecSpec.pre enc Tryz.prog Tryz.f7 Rows.workoutCostsMatchSpecRow.domain false w args ∧ laidMetH Tryz.prog laid w) ∧ sizedMet enc Tryz.prog Tryz.f7 (OpenSpec.ofChange Rows.workoutCostsMatchSpecSpec) false w args)
      (Rows.workoutCostsMatchSpecSpec.post enc Tryz.prog Tryz.f7 false true false false) := by
  refine returnsInHanded_of_change_and (C := Tryz.checked) (X := fun w _ => laidMetH Tryz.prog laid w) (fun _ _ _ hh h => h.of_heap hh) own started (by kernel_rfl) Tryz.func7
    (ChangeSpec.witness_shaped (enc := enc) (C := Tryz.checked) (os := os) (X := fun w _ => laidMetH Tryz.prog laid w) false (World.laidAll Tryz.prog os laid) #[.agg #[.int .i64 0, .int .i64 0, .string ⟨#[]⟩, .int .i64 0, .int .i64 0, .int .i64 0, .int .i64 0, .int .i64 0], .slice none 0 0] 8 (World.laidAll_os _ _ _)
      (laid_shaped os _) (by kernel_rfl) (by kernel_rfl) (by kernel_rfl) (laid_witness os _)) ?_
  intro W base args ds gs before hval0 hW _ _ hL _
  have hval : ∀ (j : Nat) t v, Tryz.f7.params[j]? = some t → args[j]? = some v → Value.okWide Tryz.prog W .any base t v := hval0
  have hW' := hW
  obtain ⟨p, q, hA0, hV, rfl, hfz, hnd⟩ := hW
  have hA : DataW.TrodAll enc Tryz.prog W 0 (fun _ => true) true Tryz.f7.params.toList args.toList ds p := hA0
  rw [Tryz.params7] at hA hval
  obtain ⟨v0, vs0, d0, ds0, p0, q0, hargs, rfl, rfl, h0, r0⟩ := trodAll_cons hA
  obtain ⟨v1, vs1, d1, ds1, p1, q1, rfl, rfl, rfl, h1, r1⟩ := trodAll_cons r0
  obtain ⟨rfl, rfl, rfl⟩ := trodAll_nil r1
  obtain rfl : args = #[v0, v1] := by cases args; simp_all
  obtain ⟨rfl, rfl⟩ := trodVars_none hV
  have lt0 : ∀ x ∈ p0, x.block < W.heap.size := by obtain ⟨m, hm⟩ := h0; exact DataW.trod_lt m _ _ _ hm
  have lt1 : ∀ x ∈ p1, x.block < W.heap.size := by obtain ⟨m, hm⟩ := h1; exact DataW.trod_lt m _ _ _ hm
  obtain ⟨c0, rfl, _⟩ := okWide_struct Tryz.underlying42 (hval 0 42 v0 rfl rfl)
  obtain ⟨⟨a0, a1, a2, a3, a4, a5, a6, a7⟩, hK0, _⟩ := Trod.dec dec42 h0
  obtain ⟨_, _, e0, rfl, _, _, rfl, rfl, _, _, rfl, rfl, _, _, rfl, rfl, _, _, rfl, rfl, _, _, rfl, rfl, _, _, rfl, rfl, rfl⟩ := hK0
  obtain rfl : c0 = #[.int .i64 a0, .int .i64 a1, .string a2, .int .i64 a3, .int .i64 a4, .int .i64 a5, .int .i64 a6, .int .i64 a7] := Array.ext' (by simpa [Value.cells] using e0)
  obtain ⟨A1, n1, c1, rfl⟩ := okWide_slice Tryz.underlying44 (hval 1 44 v1 rfl rfl)
  obtain ⟨l1, ⟨A1', c1', e1, hc1, hr1⟩, _⟩ := Trod.dec dec44 h1
  simp only [Value.cells] at e1
  obtain ⟨rfl, rfl, rfl⟩ : A1 = A1' ∧ n1 = l1.length ∧ c1 = c1' := by simpa using e1
  have hG := table hL
  obtain ⟨k, hk⟩ := QCosts.pure_costs a0 a1 a2 a3 a4 a5 a6 a7 l1
  refine (QCosts.harrierlaw7_WorkoutCostsMatchSpec.calls k a0 a1 a2 a3 a4 a5 a6 a7 A1 c1 l1 true W hG hr1 hc1 hk).mono fun e W' ⟨he, bel⟩ => ?_
  subst he
  exact ⟨_, rfl, _, _, _, [], _, [], hW', trodAll_mk1 (shut_bool Tryz.underlying4 _), (trodAll_cons_mk (Below.trod laidOut (by kernel_rfl) (of_decide_eq_true (by kernel_rfl)) h0 bel lt0) (trodAll_cons_mk (Below.trod laidOut (by kernel_rfl) (of_decide_eq_true (by kernel_rfl)) h1 bel lt1) trodAll_mk0)), rfl, bel.frame _, fun h => by cases h⟩
/-! the closed facts, one by one -/
noncomputable abbrev rowc := Rows.workoutCostsMatchSpecRow
theorem j5 : (rowc.inPlace == pr.inPlace 7) = true := by kernel_rfl
theorem j6 : (rowc.unfollowed == pr.unfollowed 7) = true := by kernel_rfl
theorem j7 : (rowc.recurses == pr.recurses 7) = true := by kernel_rfl
theorem j8 : (rowc.named == pr.varsNamed 7) = true := by kernel_rfl
theorem facts : joinedFacts pr 7 Tryz.f7 Rows.workoutCostsMatchSpecSpec rowc = true :=
  and32 (by kernel_rfl) pr_laidOut pr_mapsRowed (by kernel_rfl) (by kernel_rfl) (by kernel_rfl) (by kernel_rfl) (by kernel_rfl) (by kernel_rfl) j5 j6 j7 j8 (by kernel_rfl) (by kernel_rfl) (by kernel_rfl) (by kernel_rfl) (by kernel_rfl)
    (by kernel_rfl) (by kernel_rfl) (by kernel_rfl) (by kernel_rfl) (by kernel_rfl) (by kernel_rfl) pr_stopsHeard pr_mayEnter (by kernel_rfl) (by kernel_rfl) (by kernel_rfl) (by kernel_rfl) (by kernel_rfl) (by kernel_rfl)
theorem named : Tryz.pinned.checked.prog.funcNamed Rows.workoutCostsMatchSpecRow.func = some 7 := by kernel_rfl
theorem inst : Tryz.f7.isInstance Tryz.pinned.checked.prog Rows.workoutCostsMatchSpecRow.origin Rows.workoutCostsMatchSpecRow.targs := of_decide_eq_true (by kernel_rfl)
theorem wrapper : Tryz.f7.isWrapper Tryz.pinned.checked.prog Rows.workoutCostsMatchSpecRow.wrapper Rows.workoutCostsMatchSpecRow.mainSum := by
  unfold Func.isWrapper; first | (rw [if_pos (by decide +kernel)]; kernel_rfl) | (rw [if_neg (by decide +kernel)]; exact ⟨rfl, rfl⟩)
theorem over : Rows.WorkoutCostsMatchSpecSaid :=
  OpenClaim.holds_of_wide 7 Tryz.f7 rfl rfl rfl rfl rfl rfl rfl ⟨rfl, rfl, rfl, rfl, rfl⟩ rfl rfl rfl rfl rfl named Tryz.func7 facts inst wrapper
    (fun os started H enc _ => lifted os started H enc)
#print axioms over
end Go.Proofs.YtfphabkdgdgnbaaGreatDoor.rowCosts
