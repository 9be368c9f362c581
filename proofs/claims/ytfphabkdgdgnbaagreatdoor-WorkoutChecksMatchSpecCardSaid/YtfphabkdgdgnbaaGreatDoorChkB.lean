import Derived.Test.YtfphabkdgdgnbaaGreatDoorChkA
set_option linter.unusedVariables false
set_option linter.unusedSimpArgs false
namespace Go.Proofs.YtfphabkdgdgnbaaGreatDoor
open Go Go.RowKit Go.Proofs.YtfphabkdgdgnbaaGreatDoor.AE Go.Proofs.YtfphabkdgdgnbaaGreatDoor.SE
def aimErr (kind m : Int) (p : Bool) (lo hi : Int) : Int :=
  if ¬(0 ≤ m ∧ m ≤ 4) then 7 else if m = 0 ∧ (p = true ∨ lo ≠ 0 ∨ hi ≠ 0 ∨ kind = 2) then 2 else if m = 0 then 0 else if p = true ∧ m = 3 then 2 else
  if ¬(1 ≤ lo ∧ lo ≤ if p = true then 300 else most m) ∨ ¬(1 ≤ hi ∧ hi ≤ if p = true then 300 else most m) then 9 else if hi < lo ∧ kind = 1 then 10 else 0
def stepErr (kind : Int) (name : ByteArray) (secs way m : Int) (p : Bool) (lo hi times : Int) (n : Nat) : Int :=
  if isName name = false then 8 else if times ≠ 0 ∨ 0 < n ∨ (secs = 0 ↔ way = 0) then 2 else if ¬(0 ≤ secs ∧ secs ≤ 3599999) ∨ ¬(0 ≤ way ∧ way ≤ 1000000000) then 9 else aimErr kind m p lo hi
theorem rcheckAim_ok (kind secs way m lo hi times : Int) (name : ByteArray) (p : Bool) (l : List (List D)) (hk : kind = 1 ∨ kind = 2) : M k_harrierref7_checkAim [I kind, St name, I secs, I way, I m, B p, I lo, I hi, I times, .l l] = some [I (aimErr kind m p lo hi)] := by
  rw [M_harrierref7_checkAim]
  simp [T_harrierref7_checkAim, outside_ok, rgreatest_ok, run_aim]
  unfold aimErr
  grind
theorem checkStep_ok (kind secs way m lo hi times : Int) (name : ByteArray) (p : Bool) (l : List (List D)) (hn : name.size ≤ maxLen) (hk : kind = 1 ∨ kind = 2) : M k_workout_checkStep [I kind, St name, I secs, I way, I m, B p, I lo, I hi, I times, .l l] = some [I (stepErr kind name secs way m p lo hi times l.length)] := by
  rw [M_workout_checkStep]
  simp [T_workout_checkStep, in_ok, isName_ok _ hn, run_aim, run_beq und4, greatest_ok]
  unfold stepErr aimErr
  grind (splits := 40)
theorem rcheckStep_ok (kind secs way m lo hi times : Int) (name : ByteArray) (p : Bool) (l : List (List D)) (hn : name.size ≤ maxLen) (hk : kind = 1 ∨ kind = 2) : M k_harrierref7_checkStep [I kind, St name, I secs, I way, I m, B p, I lo, I hi, I times, .l l] = some [I (stepErr kind name secs way m p lo hi times l.length)] := by
  rw [M_harrierref7_checkStep]
  simp [T_harrierref7_checkStep, outside_ok, risName_ok _ hn, run_beq und4, rcheckAim_ok _ _ _ _ _ _ _ _ _ _ hk]
  unfold stepErr
  grind (splits := 40)
def repErr (name : ByteArray) (secs way m : Int) (p : Bool) (lo hi times : Int) (n : Nat) : Int :=
  if name.toList ≠ [] ∨ secs ≠ 0 ∨ way ≠ 0 ∨ m ≠ 0 ∨ p = true ∨ lo ≠ 0 ∨ hi ≠ 0 then 2 else if ¬(1 ≤ times ∧ times ≤ 99) then 9 else if n = 0 then 13 else 0
theorem empty_list : (⟨#[]⟩ : ByteArray).toList = [] := by simp [ByteArray.toList, ByteArray.toList.loop, ByteArray.size]
theorem checkRepeat_ok (kind secs way m lo hi times : Int) (name : ByteArray) (p : Bool) (l : List (List D)) : M k_workout_checkRepeat [I kind, St name, I secs, I way, I m, B p, I lo, I hi, I times, .l l] = some [I (repErr name secs way m p lo hi times l.length)] := by
  rw [M_workout_checkRepeat]
  simp [T_workout_checkRepeat, in_ok, run_aim, run_beq und4, empty_list]
  unfold repErr
  grind (splits := 40)
end Go.Proofs.YtfphabkdgdgnbaaGreatDoor
