import Derived.Test.YtfphabkdgdgnbaaGreatDoorChkC
set_option linter.unusedVariables false
set_option linter.unusedSimpArgs false
namespace Go.Proofs.YtfphabkdgdgnbaaGreatDoor
open Go Go.RowKit Go.Proofs.YtfphabkdgdgnbaaGreatDoor.AE Go.Proofs.YtfphabkdgdgnbaaGreatDoor.SE
def checkW (name : ByteArray) (l : List Item) : Int :=
  if isName name = false then 8 else if l.length = 0 then 13 else if (chkL l 0 0).1 ≠ 0 then (chkL l 0 0).1 else if 1000 < blkL l 0 then 3 else 0
theorem check_ok (name : ByteArray) (l : List Item) (hn : name.size ≤ maxLen) (hl : l.length ≤ maxLen) (ho : oks l) : M k_workout_Check [St name, .l (rows l)] = some [I (checkW name l)] := by
  rw [M_workout_Check]
  have h1 := checkItems_ok _ l 0 0 (Nat.lt_succ_self _) hl ho
  have h2 := (blocks_ok _ l (Nat.lt_succ_self _) hl ho).1
  simp [T_workout_Check, isName_ok _ hn, h1, h2]
  unfold checkW
  generalize chkL l 0 0 = r
  grind
theorem rcheck_ok (name : ByteArray) (l : List Item) (hn : name.size ≤ maxLen) (hl : l.length ≤ maxLen) (ho : oks l) : M k_harrierref7_Check [St name, .l (rows l)] = some [I (checkW name l)] := by
  rw [M_harrierref7_Check]
  have h1 := rcheckItems_ok _ l 0 0 (Nat.lt_succ_self _) hl ho
  have h2 := (blocks_ok _ l (Nat.lt_succ_self _) hl ho).2
  simp [T_harrierref7_Check, risName_ok _ hn, h1, h2]
  unfold checkW
  generalize chkL l 0 0 = r
  grind
mutual
def Item.same : Item → Item → Bool
  | .mk k n s w m p lo hi t l, .mk k' n' s' w' m' p' lo' hi' t' l' => k == k' && (n.toList == n'.toList && (s == s' && (w == w' && (m == m' && (p == p' && (lo == lo' && (hi == hi' && (t == t' && sameL l l'))))))))
def sameL : List Item → List Item → Bool
  | [], [] => true
  | x :: l, y :: m => x.same y && sameL l m
  | _, _ => false
end
def pairs (a b : List Item) (i : Nat) : Bool := match a[i]?, b[i]? with
    | some x, some y => x.same y
    | _, _ => false
theorem sameL_all : ∀ (a b : List Item), a.length = b.length → sameL a b = (List.range a.length).all (pairs a b)
  | [], [], _ => by simp [sameL]
  | x :: l, y :: m, h => by
    rw [sameL, sameL_all l m (by simpa using h), List.length_cons, List.range_succ_eq_map, List.all_cons, List.all_map]
    rfl
  | [], _ :: _, h => by simp at h
  | _ :: _, [], h => by simp at h
theorem sameL_len : ∀ {a b : List Item}, a.length ≠ b.length → sameL a b = false
  | [], [], h => by simp at h
  | x :: l, y :: m, h => by rw [sameL, sameL_len (by simpa using h), Bool.and_false]
  | [], _ :: _, h => by simp [sameL]
  | _ :: _, [], h => by simp [sameL]
theorem sameItems_ok : ∀ (k : Nat) (a b : List Item), SizeOf.sizeOf a < k → a.length ≤ maxLen → b.length ≤ maxLen → oks a → oks b → M k_workout_sameItems [.l (rows a), .l (rows b)] = some [B (sameL a b)] ∧ M k_harrierref7_sameItems [.l (rows a), .l (rows b)] = some [B (sameL a b)]
  | 0, a, b, h, _, _, _, _ => by omega
  | k + 1, a, b, h, hla, hlb, ha, hb => by
    have each : ∀ i, i < a.length → i < b.length → ∃ x y, a[i]? = some x ∧ b[i]? = some y ∧ pairs a b i = x.same y := fun i h1 h2 => by
      refine ⟨a[i], b[i], List.getElem?_eq_getElem h1, List.getElem?_eq_getElem h2, ?_⟩
      simp [pairs, h1, h2]
    constructor
    · rw [M_workout_sameItems]
      simp [T_workout_sameItems]
      rw [M_slices_EqualFunc]
      simp [T_slices_EqualFunc]
      by_cases hlen : a.length = b.length
      · have hlen' : (a.length : Int) = b.length := by omega
        simp [hlen']
        rw [iter_all (n := a.length) (p := pairs a b) (o1 := some (.out 0 [B false])) (o2 := some (.out 0 [B true]))]
        · rw [sameL_all a b hlen]
          cases (List.range a.length).all (pairs a b) <;> simp
        · intro i hi
          obtain ⟨x, y, hx, hy, hp⟩ := each i hi (by omega)
          rw [hp]
          have hrx := row_at hx
          have hry := row_at hy
          obtain ⟨kd, n, s, w, m, p, lo, hi1, t, l'⟩ := x
          obtain ⟨kd', n', s', w', m', p', lo', hi1', t', l''⟩ := y
          have hkx := oks_get ha hx
          have hky := oks_get hb hy
          simp only [Item.ok] at hkx hky
          have ih := (sameItems_ok k l' l'' (by have := size_get hx; omega) hkx.2.1 hky.2.1 hkx.2.2 hky.2.2).1
          have hi2 : (i : Int) < b.length := by omega
          simp [hi2, hrx, hry, Item.row, M_workout_sameItem, T_workout_sameItem, run_aim, ih, Item.same, wrap_up (Nat.lt_of_lt_of_le hi hla)]
          grind
        · simp [hlen']
        · exact exits_out (by decide)
        · exact exits_out (by decide)
      · have hlen' : ¬ (a.length : Int) = b.length := by omega
        simp [hlen', sameL_len hlen]
    · rw [M_harrierref7_sameItems]
      simp [T_harrierref7_sameItems]
      by_cases hlen : a.length = b.length
      · have hlen' : (a.length : Int) = b.length := by omega
        simp [hlen']
        rw [iter_all (n := a.length) (p := pairs a b) (o1 := some (.out 0 [B false])) (o2 := some (.out 0 [B true]))]
        · rw [sameL_all a b hlen]
          cases (List.range a.length).all (pairs a b) <;> simp
        · intro i hi
          obtain ⟨x, y, hx, hy, hp⟩ := each i hi (by omega)
          rw [hp]
          have hrx := row_at hx
          have hry := row_at hy
          obtain ⟨kd, n, s, w, m, p, lo, hi1, t, l'⟩ := x
          obtain ⟨kd', n', s', w', m', p', lo', hi1', t', l''⟩ := y
          have hkx := oks_get ha hx
          have hky := oks_get hb hy
          simp only [Item.ok] at hkx hky
          have ih := (sameItems_ok k l' l'' (by have := size_get hx; omega) hkx.2.1 hky.2.1 hkx.2.2 hky.2.2).2
          have hi2 : (i : Int) < b.length := by omega
          simp [hi2, hrx, hry, Item.row, run_aim, ih, Item.same, wrap_up (Nat.lt_of_lt_of_le hi hla)]
          grind
        · simp [hlen']
        · exact exits_out (by decide)
        · exact exits_out (by decide)
      · have hlen' : ¬ (a.length : Int) = b.length := by omega
        simp [hlen', sameL_len hlen]
theorem sameL_refl : ∀ (k : Nat) (a : List Item), SizeOf.sizeOf a < k → sameL a a = true
  | 0, a, h => by omega
  | k + 1, [], h => by simp [sameL]
  | k + 1, x :: l, h => by
    obtain ⟨kd, n, s, w, m, p, lo, hi, t, l'⟩ := x
    simp at h
    rw [sameL, Item.same, sameL_refl k l' (by omega), sameL_refl k l (by omega)]
    simp
theorem same_ok (na nb : ByteArray) (a b : List Item) (hla : a.length ≤ maxLen) (hlb : b.length ≤ maxLen) (ha : oks a) (hb : oks b) : M k_workout_Same [St na, .l (rows a), St nb, .l (rows b)] = some [B (na.toList == nb.toList && sameL a b)] ∧ M k_harrierref7_Same [St na, .l (rows a), St nb, .l (rows b)] = some [B (na.toList == nb.toList && sameL a b)] := by
  have h := sameItems_ok _ a b (Nat.lt_succ_self _) hla hlb ha hb
  constructor
  · rw [M_workout_Same]; simp [T_workout_Same, h.1]; grind
  · rw [M_harrierref7_Same]; simp [T_harrierref7_Same, h.2]; grind
/-- The statement. -/
theorem checks_ok (na nb : ByteArray) (a b : List Item) (hna : na.size ≤ maxLen) (hnb : nb.size ≤ maxLen) (hla : a.length ≤ maxLen) (hlb : b.length ≤ maxLen) (ha : oks a) (hb : oks b) : M k_harrierlaw7_WorkoutChecksMatchSpec [St na, .l (rows a), St nb, .l (rows b)] = some [B true] := by
  rw [M_harrierlaw7_WorkoutChecksMatchSpec]
  have h1 := same_ok na nb a b hla hlb ha hb
  have h2 := (same_ok na na a a hla hla ha ha).1
  rw [sameL_refl _ a (Nat.lt_succ_self _)] at h2
  have h3 : M k_harrierlaw7_told [] = some [B true] := M_harrierlaw7_told []
  simp [T_harrierlaw7_WorkoutChecksMatchSpec, check_ok na a hna hla ha, rcheck_ok na a hna hla ha, h1.1, h1.2, h2, h3, run_beq und4]
end Go.Proofs.YtfphabkdgdgnbaaGreatDoor
