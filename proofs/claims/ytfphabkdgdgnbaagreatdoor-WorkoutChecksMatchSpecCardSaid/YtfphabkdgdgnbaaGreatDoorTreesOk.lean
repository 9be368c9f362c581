import Derived.Test.YtfphabkdgdgnbaaGreatDoorTrees
import Derived.KernelRfl
set_option linter.unusedVariables false
set_option linter.unusedSimpArgs false
namespace Go.Proofs.YtfphabkdgdgnbaaGreatDoor
open Go Go.RowKit Go.Proofs.YtfphabkdgdgnbaaGreatDoor.AE Go.Proofs.YtfphabkdgdgnbaaGreatDoor.SE
theorem ok_harrierlaw7_WorkoutChecksMatchSpec : (sg[0]?).bind (fun g => fnTree Tryz.prog sg (drawX Tryz.prog sg) g 400) = some T_harrierlaw7_WorkoutChecksMatchSpec := by kernel_rfl
theorem ok_workout_Check : (sg[1]?).bind (fun g => fnTree Tryz.prog sg (drawX Tryz.prog sg) g 400) = some T_workout_Check := by kernel_rfl
theorem ok_harrierref7_Check : (sg[2]?).bind (fun g => fnTree Tryz.prog sg (drawX Tryz.prog sg) g 400) = some T_harrierref7_Check := by kernel_rfl
theorem ok_quant_IsName : (sg[3]?).bind (fun g => fnTree Tryz.prog sg (drawX Tryz.prog sg) g 400) = some T_quant_IsName := by kernel_rfl
theorem ok_workout_Same : (sg[4]?).bind (fun g => fnTree Tryz.prog sg (drawX Tryz.prog sg) g 400) = some T_workout_Same := by kernel_rfl
theorem ok_workout_checkItems : (sg[5]?).bind (fun g => fnTree Tryz.prog sg (drawX Tryz.prog sg) g 400) = some T_workout_checkItems := by kernel_rfl
theorem ok_harrierref1_IsName : (sg[6]?).bind (fun g => fnTree Tryz.prog sg (drawX Tryz.prog sg) g 400) = some T_harrierref1_IsName := by kernel_rfl
theorem ok_quant_isDigit : (sg[7]?).bind (fun g => fnTree Tryz.prog sg (drawX Tryz.prog sg) g 400) = some T_quant_isDigit := by kernel_rfl
theorem ok_harrierref7_Same : (sg[8]?).bind (fun g => fnTree Tryz.prog sg (drawX Tryz.prog sg) g 400) = some T_harrierref7_Same := by kernel_rfl
theorem ok_workout_blocks : (sg[9]?).bind (fun g => fnTree Tryz.prog sg (drawX Tryz.prog sg) g 400) = some T_workout_blocks := by kernel_rfl
theorem ok_harrierref7_checkItems : (sg[10]?).bind (fun g => fnTree Tryz.prog sg (drawX Tryz.prog sg) g 400) = some T_harrierref7_checkItems := by kernel_rfl
theorem ok_workout_sameItems : (sg[11]?).bind (fun g => fnTree Tryz.prog sg (drawX Tryz.prog sg) g 400) = some T_workout_sameItems := by kernel_rfl
theorem ok_workout_checkStep : (sg[12]?).bind (fun g => fnTree Tryz.prog sg (drawX Tryz.prog sg) g 400) = some T_workout_checkStep := by kernel_rfl
theorem ok_workout_checkRepeat : (sg[13]?).bind (fun g => fnTree Tryz.prog sg (drawX Tryz.prog sg) g 400) = some T_workout_checkRepeat := by kernel_rfl
theorem ok_harrierref1_isDigit : (sg[14]?).bind (fun g => fnTree Tryz.prog sg (drawX Tryz.prog sg) g 400) = some T_harrierref1_isDigit := by kernel_rfl
theorem ok_harrierref7_many : (sg[16]?).bind (fun g => fnTree Tryz.prog sg (drawX Tryz.prog sg) g 400) = some T_harrierref7_many := by kernel_rfl
theorem ok_harrierref7_sameItems : (sg[17]?).bind (fun g => fnTree Tryz.prog sg (drawX Tryz.prog sg) g 400) = some T_harrierref7_sameItems := by kernel_rfl
theorem ok_harrierref7_checkStep : (sg[18]?).bind (fun g => fnTree Tryz.prog sg (drawX Tryz.prog sg) g 400) = some T_harrierref7_checkStep := by kernel_rfl
theorem ok_harrierref7_outside : (sg[19]?).bind (fun g => fnTree Tryz.prog sg (drawX Tryz.prog sg) g 400) = some T_harrierref7_outside := by kernel_rfl
theorem ok_slices_EqualFunc : (sg[20]?).bind (fun g => fnTree Tryz.prog sg (drawX Tryz.prog sg) g 400) = some T_slices_EqualFunc := by kernel_rfl
theorem ok_workout_in : (sg[21]?).bind (fun g => fnTree Tryz.prog sg (drawX Tryz.prog sg) g 400) = some T_workout_in := by kernel_rfl
theorem ok_workout_greatest : (sg[22]?).bind (fun g => fnTree Tryz.prog sg (drawX Tryz.prog sg) g 400) = some T_workout_greatest := by kernel_rfl
theorem ok_harrierref7_checkAim : (sg[23]?).bind (fun g => fnTree Tryz.prog sg (drawX Tryz.prog sg) g 400) = some T_harrierref7_checkAim := by kernel_rfl
theorem ok_workout_sameItem : (sg[24]?).bind (fun g => fnTree Tryz.prog sg (drawX Tryz.prog sg) g 400) = some T_workout_sameItem := by kernel_rfl
theorem ok_harrierref7_greatest : (sg[25]?).bind (fun g => fnTree Tryz.prog sg (drawX Tryz.prog sg) g 400) = some T_harrierref7_greatest := by kernel_rfl
--CASES
/-  | 0, g, h => ⟨_, rfl, ent_tree ok_harrierlaw7_WorkoutChecksMatchSpec h⟩
  | 1, g, h => ⟨_, rfl, ent_tree ok_workout_Check h⟩
  | 2, g, h => ⟨_, rfl, ent_tree ok_harrierref7_Check h⟩
  | 3, g, h => ⟨_, rfl, ent_tree ok_quant_IsName h⟩
  | 4, g, h => ⟨_, rfl, ent_tree ok_workout_Same h⟩
  | 5, g, h => ⟨_, rfl, ent_tree ok_workout_checkItems h⟩
  | 6, g, h => ⟨_, rfl, ent_tree ok_harrierref1_IsName h⟩
  | 7, g, h => ⟨_, rfl, ent_tree ok_quant_isDigit h⟩
  | 8, g, h => ⟨_, rfl, ent_tree ok_harrierref7_Same h⟩
  | 9, g, h => ⟨_, rfl, ent_tree ok_workout_blocks h⟩
  | 10, g, h => ⟨_, rfl, ent_tree ok_harrierref7_checkItems h⟩
  | 11, g, h => ⟨_, rfl, ent_tree ok_workout_sameItems h⟩
  | 12, g, h => ⟨_, rfl, ent_tree ok_workout_checkStep h⟩
  | 13, g, h => ⟨_, rfl, ent_tree ok_workout_checkRepeat h⟩
  | 14, g, h => ⟨_, rfl, ent_tree ok_harrierref1_isDigit h⟩
  | 15, g, h => ⟨_, rfl, sig_harrierlaw7_told h⟩
  | 16, g, h => ⟨_, rfl, ent_tree ok_harrierref7_many h⟩
  | 17, g, h => ⟨_, rfl, ent_tree ok_harrierref7_sameItems h⟩
  | 18, g, h => ⟨_, rfl, ent_tree ok_harrierref7_checkStep h⟩
  | 19, g, h => ⟨_, rfl, ent_tree ok_harrierref7_outside h⟩
  | 20, g, h => ⟨_, rfl, ent_tree ok_slices_EqualFunc h⟩
  | 21, g, h => ⟨_, rfl, ent_tree ok_workout_in h⟩
  | 22, g, h => ⟨_, rfl, ent_tree ok_workout_greatest h⟩
  | 23, g, h => ⟨_, rfl, ent_tree ok_harrierref7_checkAim h⟩
  | 24, g, h => ⟨_, rfl, ent_tree ok_workout_sameItem h⟩
  | 25, g, h => ⟨_, rfl, ent_tree ok_harrierref7_greatest h⟩
  | _ + 26, g, h => by cases h

-/
end Go.Proofs.YtfphabkdgdgnbaaGreatDoor
