import Derived.Test.YtfphabkdgdgnbaaGreatDoorRows
import Derived.Test.YtfphabkdgdgnbaaGreatDoorTie
import Derived.Test.YtfphabkdgdgnbaaGreatDoorCards
import Derived.Test.YtfphabkdgdgnbaaGreatDoorDec
import Derived.Test.YtfphabkdgdgnbaaGreatDoorFacts
import Derived.Test.YtfphabkdgdgnbaaGreatDoorQGrowPure
import Derived.WalkKit
import Derived.ProofKit
import Derived.OpenShut
import Derived.ShutString
import Derived.ChangeOld
import Derived.Below
import Derived.SizedLaws
import Derived.LaidMore
import Derived.Lay
import Derived.SevenTiedAt
import Derived.Stop.Joined
import Derived.Lib.LaidTab
import Derived.Lib.LaidU8
namespace Go.Proofs.YtfphabkdgdgnbaaGreatDoor.rowGrow
open Go.ChangeShapes Go.WideShapes Go.ChangeAt Go.RowKit Go.Proofs.YtfphabkdgdgnbaaGreatDoorW.PrintWords Dec
set_option linter.unusedVariables false
theorem dec42 : ∀ n, DecN Tryz.prog n 42 (Kd.pair (Kd.int .i64) (Kd.pair (Kd.int .i64) (Kd.pair Kd.string (Kd.pair (Kd.int .i64) (Kd.pair (Kd.int .i64) (Kd.pair (Kd.int .i64) (Kd.pair (Kd.int .i64) (Kd.int .i64)))))))) fun _ => True :=
  dec_all (by kernel_rfl) fun n => dec_weak (dec_struct Tryz.underlying42 (by kernel_rfl)
    (dec_cons (dec_int Tryz.underlying3 (by kernel_rfl)) rfl (dec_cons (dec_int Tryz.underlying3 (by kernel_rfl)) rfl (dec_cons (dec_string Tryz.underlying9 (by kernel_rfl)) rfl (dec_cons (dec_int Tryz.underlying3 (by kernel_rfl)) rfl
      (dec_cons (dec_int Tryz.underlying3 (by kernel_rfl)) rfl (dec_cons (dec_int Tryz.underlying3 (by kernel_rfl)) rfl (dec_cons (dec_int Tryz.underlying3 (by kernel_rfl)) rfl (dec_last (dec_int Tryz.underlying3 (by kernel_rfl)) rfl))))))))) fun _ _ => trivial
set_option maxRecDepth 100000 in
theorem lifted (os : Os) (started : os.Started) (H : Type) (enc : TypeId × Value → H) :
    ReturnsInHanded {} Tryz.checked os 6 .any (fun w args => (Rows.workoutCostsGrowSpec.pre enc Tryz.prog Tryz.f6 Rows.workoutCostsGrowRow.domain false w args ∧ laidMetH Tryz.prog laid w) ∧ sizedMet enc Tryz.prog Tryz.f6 (OpenSpec.ofChange Rows.workoutCostsGrowSpec) false w args)
      (Rows.workoutCostsGrowSpec.post enc Tryz.prog Tryz.f6 false true false false) := by
  refine returnsInHanded_of_change_and (C := Tryz.checked) (X := fun w _ => laidMetH Tryz.prog laid w) (fun _ _ _ hh h => h.of_heap hh) own started (by kernel_rfl) Tryz.func6
    (ChangeSpec.witness_shaped (enc := enc) (C := Tryz.checked) (os := os) (X := fun w _ => laidMetH Tryz.prog laid w) false (World.laidAll Tryz.prog os laid) #[.agg #[.int .i64 0, .int .i64 0, .string ⟨#[]⟩, .int .i64 0, .int .i64 0, .int .i64 0, .int .i64 0, .int .i64 0], .int .i64 0, .int .i64 0] 8 (World.laidAll_os _ _ _)
      (laid_shaped os _) (by kernel_rfl) (by kernel_rfl) (by kernel_rfl) (laid_witness os _)) ?_
  intro W base args ds gs before hval0 hW _ _ hL _
  have hval : ∀ (j : Nat) t v, Tryz.f6.params[j]? = some t → args[j]? = some v → Value.okWide Tryz.prog W .any base t v := hval0
  have hW' := hW
  obtain ⟨p, q, hA0, hV, rfl, hfz, hnd⟩ := hW
  have hA : DataW.TrodAll enc Tryz.prog W 0 (fun _ => true) true Tryz.f6.params.toList args.toList ds p := hA0
  rw [Tryz.params6] at hA hval
  obtain ⟨v0, vs0, d0, ds0, p0, q0, hargs, rfl, rfl, h0, r0⟩ := trodAll_cons hA
  obtain ⟨v1, vs1, d1, ds1, p1, q1, rfl, rfl, rfl, h1, r1⟩ := trodAll_cons r0
  obtain ⟨v2, vs2, d2, ds2, p2, q2, rfl, rfl, rfl, h2, r2⟩ := trodAll_cons r1
  obtain ⟨rfl, rfl, rfl⟩ := trodAll_nil r2
  obtain rfl : args = #[v0, v1, v2] := by cases args; simp_all
  obtain ⟨rfl, rfl⟩ := trodVars_none hV
  have lt0 : ∀ x ∈ p0, x.block < W.heap.size := by obtain ⟨m, hm⟩ := h0; exact DataW.trod_lt m _ _ _ hm
  obtain ⟨c0, rfl, _⟩ := okWide_struct Tryz.underlying42 (hval 0 42 v0 rfl rfl)
  obtain ⟨⟨a0, a1, a2, a3, a4, a5, a6, a7⟩, hK0, _⟩ := Trod.dec dec42 h0
  obtain ⟨_, _, e0, rfl, _, _, rfl, rfl, _, _, rfl, rfl, _, _, rfl, rfl, _, _, rfl, rfl, _, _, rfl, rfl, _, _, rfl, rfl, rfl⟩ := hK0
  obtain rfl : c0 = #[.int .i64 a0, .int .i64 a1, .string a2, .int .i64 a3, .int .i64 a4, .int .i64 a5, .int .i64 a6, .int .i64 a7] := Array.ext' (by simpa [Value.cells] using e0)
  obtain ⟨n1, rfl, rfl, rfl, w1⟩ := open_int Tryz.underlying3 (hval 1 3 v1 rfl rfl) h1
  obtain ⟨n2, rfl, rfl, rfl, w2⟩ := open_int Tryz.underlying3 (hval 2 3 v2 rfl rfl) h2
  have hG := table hL
  obtain ⟨k, hk⟩ := QGrow.pure_grow a0 a1 a2 a3 a4 a5 a6 a7 n1 n2
  refine (QGrow.harrierlaw7_WorkoutCostsGrow.calls k a0 a1 a2 a3 a4 a5 a6 a7 n1 n2 true W hG hk).mono fun e W' ⟨he, bel⟩ => ?_
  subst he
  exact ⟨_, rfl, _, _, _, [], _, [], hW', trodAll_mk1 (shut_bool Tryz.underlying4 _), (trodAll_cons_mk (Below.trod laidOut (by kernel_rfl) (of_decide_eq_true (by kernel_rfl)) h0 bel lt0) (trodAll_cons_mk (shut_int Tryz.underlying3 w1) (trodAll_cons_mk (shut_int Tryz.underlying3 w2) trodAll_mk0))), rfl, bel.frame _, fun h => by cases h⟩
/-! the closed facts, one by one -/
noncomputable abbrev rowc := Rows.workoutCostsGrowRow
theorem j5 : (rowc.inPlace == pr.inPlace 6) = true := by kernel_rfl
theorem j6 : (rowc.unfollowed == pr.unfollowed 6) = true := by kernel_rfl
theorem j7 : (rowc.recurses == pr.recurses 6) = true := by kernel_rfl
theorem j8 : (rowc.named == pr.varsNamed 6) = true := by kernel_rfl
theorem facts : joinedFacts pr 6 Tryz.f6 Rows.workoutCostsGrowSpec rowc = true :=
  and32 (by kernel_rfl) pr_laidOut pr_mapsRowed (by kernel_rfl) (by kernel_rfl) (by kernel_rfl) (by kernel_rfl) (by kernel_rfl) (by kernel_rfl) j5 j6 j7 j8 (by kernel_rfl) (by kernel_rfl) (by kernel_rfl) (by kernel_rfl) (by kernel_rfl)
    (by kernel_rfl) (by kernel_rfl) (by kernel_rfl) (by kernel_rfl) (by kernel_rfl) (by kernel_rfl) pr_stopsHeard pr_mayEnter (by kernel_rfl) (by kernel_rfl) (by kernel_rfl) (by kernel_rfl) (by kernel_rfl) (by kernel_rfl)
theorem named : Tryz.pinned.checked.prog.funcNamed Rows.workoutCostsGrowRow.func = some 6 := by kernel_rfl
theorem inst : Tryz.f6.isInstance Tryz.pinned.checked.prog Rows.workoutCostsGrowRow.origin Rows.workoutCostsGrowRow.targs := of_decide_eq_true (by kernel_rfl)
theorem wrapper : Tryz.f6.isWrapper Tryz.pinned.checked.prog Rows.workoutCostsGrowRow.wrapper Rows.workoutCostsGrowRow.mainSum := by
  unfold Func.isWrapper; first | (rw [if_pos (by decide +kernel)]; kernel_rfl) | (rw [if_neg (by decide +kernel)]; exact ⟨rfl, rfl⟩)
theorem over : Rows.WorkoutCostsGrowSaid :=
  OpenClaim.holds_of_wide 6 Tryz.f6 rfl rfl rfl rfl rfl rfl rfl ⟨rfl, rfl, rfl, rfl, rfl⟩ rfl rfl rfl rfl rfl named Tryz.func6 facts inst wrapper
    (fun os started H enc _ => lifted os started H enc)
#print axioms over
end Go.Proofs.YtfphabkdgdgnbaaGreatDoor.rowGrow
