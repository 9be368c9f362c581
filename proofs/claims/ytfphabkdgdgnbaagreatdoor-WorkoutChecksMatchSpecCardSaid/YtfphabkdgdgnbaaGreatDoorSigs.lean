import Derived.Test.YtfphabkdgdgnbaaGreatDoorTreesOk
import Derived.Test.YtfphabkdgdgnbaaGreatDoorSEg
import Derived.Test.YtfphabkdgdgnbaaGreatDoorTold
set_option linter.unusedVariables false
set_option linter.unusedSimpArgs false
namespace Go.Proofs.YtfphabkdgdgnbaaGreatDoor
open Go Go.RowKit Go.Proofs.YtfphabkdgdgnbaaGreatDoor.AE Go.Proofs.YtfphabkdgdgnbaaGreatDoor.SE
theorem tb_lies {w : World} (h : G7ok w) (b o : Nat) (v : Value) (hv : Tb.at b o = some v) : w.cell? ⟨b, o, none⟩ = some v := by
  obtain ⟨h1, h2⟩ := h 7 (pow10.map (Value.int .u64)) (List.mem_singleton.2 rfl)
  by_cases e : b = 7
  · subst e
    exact h2 o v hv
  · have : Tb.at b o = none := by
      have hb : (b == 7) = false := by simpa using e
      simp [Tb.at, Tb.tab, List.lookup, hb]
    rw [this] at hv; cases hv
theorem lies_tb {w : World} {M : Mem} (hM : ∀ b o v, M b o = some v → w.cell? ⟨b, o, none⟩ = some v) (hT : ∀ b o v, Tb.at b o = some v → M b o = some v) : G7ok w := by
  intro g cs hm
  simp only [G7, List.mem_singleton, Prod.mk.injEq] at hm
  obtain ⟨rfl, rfl⟩ := hm
  have hc : ∀ (j : Nat) (v : Value), (pow10.map (Value.int .u64))[j]? = some v → w.cell? ⟨7, j, none⟩ = some v := fun j v hj => hM 7 j v (hT 7 j v hj)
  refine ⟨?_, fun j v hj => hc j v hj⟩
  have h0 := hc 0 (.int .u64 1) rfl
  rcases Nat.lt_or_ge 7 w.heap.size with h2 | h2
  · exact h2
  · have : w.heap[7]? = none := Array.getElem?_eq_none h2
    simp [World.cell?, this] at h0
theorem sig_harrierlaw7_told {g : Sig} (h : sg[k_harrierlaw7_told]? = some g) : EntOK Tryz.prog sg (drawX Tryz.prog sg) g (.ext E_harrierlaw7_told) := by
  obtain rfl : (⟨19, [], [], 0, .s (.x 0), [], 1⟩ : Sig) = g := Option.some.inj h
  refine SigOK.of_calls rfl rfl fun ρ M w vs outs hρ hM hT ha hm => ?_
  obtain rfl : [B true] = outs := Option.some.inj hm
  obtain rfl : vs = [] := by simpa [RL] using ha
  obtain rfl : ρ = [] := List.length_eq_zero_iff.1 hρ
  refine (told.calls true w rfl (lies_tb hM hT)).mono fun e w' he => ?_
  obtain ⟨rfl, hb⟩ := he
  exact ⟨M, .bool true, rfl, hb, .rfl, fun b o v hv => by
    have hlt : b < w.heap.size := by
      have := hM b o v hv
      rcases Nat.lt_or_ge b w.heap.size with h' | h'
      · exact h'
      · have e : w.heap[b]? = none := Array.getElem?_eq_none h'
        simp [World.cell?, e] at this
    rw [hb.cell (p := ⟨b, o, none⟩) hlt]; exact hM b o v hv, fun _ _ _ => rfl, by simp [SV.R, Ex.den, Value.oneCell']⟩
theorem ents_ok : ∀ (k : Nat) (g : Sig), sg[k]? = some g → ∃ e, ents[k]? = some e ∧ EntOK Tryz.prog sg (drawX Tryz.prog sg) g e
  | 0, g, h => ⟨_, rfl, ent_tree ok_harrierlaw7_WorkoutChecksMatchSpec h⟩
  | 1, g, h => ⟨_, rfl, ent_tree ok_workout_Check h⟩
  | 2, g, h => ⟨_, rfl, ent_tree ok_harrierref7_Check h⟩
  | 3, g, h => ⟨_, rfl, ent_tree ok_quant_IsName h⟩
  | 4, g, h => ⟨_, rfl, ent_tree ok_workout_Same h⟩
  | 5, g, h => ⟨_, rfl, ent_tree ok_workout_checkItems h⟩
  | 6, g, h => ⟨_, rfl, ent_tree ok_harrierref1_IsName h⟩
  | 7, g, h => ⟨_, rfl, ent_tree ok_quant_isDigit h⟩
  | 8, g, h => ⟨_, rfl, ent_tree ok_harrierref7_Same h⟩
  | 9, g, h => ⟨_, rfl, ent_tree ok_workout_blocks h⟩
  | 10, g, h => ⟨_, rfl, ent_tree ok_harrierref7_checkItems h⟩
  | 11, g, h => ⟨_, rfl, ent_tree ok_workout_sameItems h⟩
  | 12, g, h => ⟨_, rfl, ent_tree ok_workout_checkStep h⟩
  | 13, g, h => ⟨_, rfl, ent_tree ok_workout_checkRepeat h⟩
  | 14, g, h => ⟨_, rfl, ent_tree ok_harrierref1_isDigit h⟩
  | 15, g, h => ⟨_, rfl, sig_harrierlaw7_told h⟩
  | 16, g, h => ⟨_, rfl, ent_tree ok_harrierref7_many h⟩
  | 17, g, h => ⟨_, rfl, ent_tree ok_harrierref7_sameItems h⟩
  | 18, g, h => ⟨_, rfl, ent_tree ok_harrierref7_checkStep h⟩
  | 19, g, h => ⟨_, rfl, ent_tree ok_harrierref7_outside h⟩
  | 20, g, h => ⟨_, rfl, ent_tree ok_slices_EqualFunc h⟩
  | 21, g, h => ⟨_, rfl, ent_tree ok_workout_in h⟩
  | 22, g, h => ⟨_, rfl, ent_tree ok_workout_greatest h⟩
  | 23, g, h => ⟨_, rfl, ent_tree ok_harrierref7_checkAim h⟩
  | 24, g, h => ⟨_, rfl, ent_tree ok_workout_sameItem h⟩
  | 25, g, h => ⟨_, rfl, ent_tree ok_harrierref7_greatest h⟩
  | _ + 26, g, h => by cases h
theorem all_sigs : ∀ (k : Nat) (g : Sig), sg[k]? = some g → SigOK Tryz.prog g (M k) := sigs_ok mixed7 ng7 ents_ok
end Go.Proofs.YtfphabkdgdgnbaaGreatDoor
