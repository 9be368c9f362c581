import Derived.Test.YtfphabkdgdgnbaaGreatDoorChkB
set_option linter.unusedVariables false
set_option linter.unusedSimpArgs false
namespace Go.Proofs.YtfphabkdgdgnbaaGreatDoor
open Go Go.RowKit Go.Proofs.YtfphabkdgdgnbaaGreatDoor.AE Go.Proofs.YtfphabkdgdgnbaaGreatDoor.SE
/-- A step, a ramp or a repeat. -/
inductive Item where
  | mk (kind : Int) (name : ByteArray) (secs way m : Int) (p : Bool) (lo hi times : Int) (items : List Item)
mutual
def Item.row : Item → List D
  | .mk k n s w m p lo hi t l => [I k, St n, I s, I w, I m, B p, I lo, I hi, I t, .l (rows l)]
def rows : List Item → List (List D)
  | [] => []
  | x :: l => x.row :: rows l
end
mutual
def Item.ok : Item → Prop
  | .mk k n s w m p lo hi t l => n.size ≤ maxLen ∧ l.length ≤ maxLen ∧ oks l
def oks : List Item → Prop
  | [] => True
  | x :: l => x.ok ∧ oks l
end
theorem rows_get : ∀ (l : List Item) (i : Nat), (rows l)[i]? = (l[i]?).map Item.row
  | [], i => by simp [rows]
  | x :: l, 0 => by simp [rows]
  | x :: l, i + 1 => by simp [rows, rows_get l i]
@[simp] theorem rows_len : ∀ (l : List Item), (rows l).length = l.length
  | [] => rfl
  | x :: l => by simp [rows, rows_len l]
theorem oks_get : ∀ {l : List Item} {i : Nat} {x : Item}, oks l → l[i]? = some x → x.ok
  | [], i, x, h, hx => by simp at hx
  | y :: l, 0, x, h, hx => by simp at hx; subst hx; exact h.1
  | y :: l, i + 1, x, h, hx => oks_get h.2 (by simpa using hx)
@[simp] theorem row_len (x : Item) : x.row.length = 10 := by cases x; rfl
theorem size_get {l : List Item} {i : Nat} {k : Int} {n : ByteArray} {s w m : Int} {p : Bool} {lo hi t : Int} {l' : List Item} (h : l[i]? = some (.mk k n s w m p lo hi t l')) : SizeOf.sizeOf l' < SizeOf.sizeOf l := by
  have h1 := List.sizeOf_lt_of_mem (List.mem_of_getElem? h)
  simp at h1; omega
/-- How many there are when they are done. -/
def w64 (n : Int) : Int := IntKind.i64.wrap n
mutual
def Item.blk : Item → Int → Int
  | .mk k _ _ _ _ _ _ _ t l, n => if k = 3 then w64 (n + w64 (t * blkL l 0)) else w64 (n + 1)
def blkL : List Item → Int → Int
  | [], n => n
  | x :: l, n => blkL l (x.blk n)
end
theorem run_blk (fin : Int → Option (Out Unit)) : ∀ (l : List Item) (n : Int), runX (fun a x => .inl (Item.blk x a)) fin l n = fin (blkL l n)
  | [], n => by simp [runX, blkL]
  | x :: l, n => by simp [runX, blkL, run_blk fin l]
theorem row_at {l : List Item} {i : Nat} {x : Item} (hx : l[i]? = some x) : rowK 10 (some (.l (rows l))) (some i) = some x.row := rowK_l (by rw [rows_get, hx]; rfl) (row_len x)
theorem blocks_ok : ∀ (k : Nat) (l : List Item), SizeOf.sizeOf l < k → l.length ≤ maxLen → oks l → M k_workout_blocks [.l (rows l)] = some [I (blkL l 0)] ∧ M k_harrierref7_many [.l (rows l)] = some [I (blkL l 0)]
  | 0, l, h, _, _ => by omega
  | k + 1, l, h, hl, ho => by
    constructor
    · rw [M_workout_blocks]
      simp [T_workout_blocks]
      rw [iter_run (enc := fun a : Int => [I a]) (a := 0) (xs := l) (step := fun a x => .inl (Item.blk x a)) (fin := fun a => some (.out 0 [I a])) (Inv := fun _ _ => True)]
      · rw [run_blk]; rfl
      · intro i x a hx _
        have hi : i < l.length := (List.getElem?_eq_some_iff.1 hx).1
        have hr := row_at hx
        obtain ⟨kd, n, s, w, m, p, lo, hi', t, l'⟩ := x
        have hk := oks_get ho hx
        simp only [Item.ok] at hk
        have ih := blocks_ok k l' (by have := size_get hx; omega) hk.2.1 hk.2.2
        simp [hi, hr, Item.row, ih, Item.blk, w64, wrap_up (Nat.lt_of_lt_of_le hi hl)]
        split <;> rfl
      · intro i x a a' _ _ _; trivial
      · intro i x a o _ _ h; cases h
      · intro a _
        simp
        exact exits_out (by decide)
      · trivial
    · rw [M_harrierref7_many]
      simp [T_harrierref7_many]
      rw [iter_run (enc := fun a : Int => [I a]) (a := 0) (xs := l) (step := fun a x => .inl (Item.blk x a)) (fin := fun a => some (.out 0 [I a])) (Inv := fun _ _ => True)]
      · rw [run_blk]; rfl
      · intro i x a hx _
        have hi : i < l.length := (List.getElem?_eq_some_iff.1 hx).1
        have hr := row_at hx
        obtain ⟨kd, n, s, w, m, p, lo, hi', t, l'⟩ := x
        have hk := oks_get ho hx
        simp only [Item.ok] at hk
        have ih := blocks_ok k l' (by have := size_get hx; omega) hk.2.1 hk.2.2
        simp [hi, hr, Item.row, ih, Item.blk, w64, wrap_up (Nat.lt_of_lt_of_le hi hl)]
        split <;> rfl
      · intro i x a a' _ _ _; trivial
      · intro i x a o _ _ h; cases h
      · intro a _
        simp
        exact exits_out (by decide)
      · trivial
mutual
def Item.chk : Item → Int → Int → Int × Int
  | .mk k n s w m p lo hi t l, nest, many =>
    if w64 (many + 1) > 200 ∨ nest > 3 then (3, w64 (many + 1)) else
    if k = 1 ∨ k = 2 then (stepErr k n s w m p lo hi t l.length, w64 (many + 1)) else
    if k = 3 then (if repErr n s w m p lo hi t l.length = 0 then chkL l (w64 (nest + 1)) (w64 (many + 1)) else (repErr n s w m p lo hi t l.length, w64 (many + 1))) else
    (7, w64 (many + 1))
def chkL : List Item → Int → Int → Int × Int
  | [], _, many => (0, many)
  | x :: l, nest, many => if (x.chk nest many).1 = 0 then chkL l nest (x.chk nest many).2 else x.chk nest many
end
theorem chk_eq (k : Int) (n : ByteArray) (s w m : Int) (p : Bool) (lo hi t : Int) (l : List Item) (nest many : Int) : (Item.mk k n s w m p lo hi t l).chk nest many = if w64 (many + 1) > 200 ∨ nest > 3 then (3, w64 (many + 1)) else
    if k = 1 ∨ k = 2 then (stepErr k n s w m p lo hi t l.length, w64 (many + 1)) else
    if k = 3 then (if repErr n s w m p lo hi t l.length = 0 then chkL l (w64 (nest + 1)) (w64 (many + 1)) else (repErr n s w m p lo hi t l.length, w64 (many + 1))) else
    (7, w64 (many + 1)) := by rw [Item.chk]
/-- One round of checkItems. -/
def chkStep (nest : Int) (out : Int × Int → Option (Out Unit)) (a : Int) (x : Item) : Int ⊕ Option (Out Unit) := if (x.chk nest a).1 = 0 then .inl (x.chk nest a).2 else .inr (out (x.chk nest a))
theorem run_chk (nest : Int) (out : Int × Int → Option (Out Unit)) : ∀ (l : List Item) (n : Int), runX (chkStep nest out) (fun a => out (0, a)) l n = out (chkL l nest n)
  | [], n => by simp [runX, chkL]
  | x :: l, n => by
    by_cases h : (x.chk nest n).1 = 0
    · simp [runX, chkL, chkStep, h, run_chk nest out l]
    · simp [runX, chkL, chkStep, h]
theorem checkItems_ok : ∀ (k : Nat) (l : List Item) (nest many : Int), SizeOf.sizeOf l < k → l.length ≤ maxLen → oks l → M k_workout_checkItems [.l (rows l), I nest, I many] = some [I (chkL l nest many).1, I (chkL l nest many).2]
  | 0, l, nest, many, h, _, _ => by omega
  | k + 1, l, nest, many, h, hl, ho => by
    rw [M_workout_checkItems]
    simp [T_workout_checkItems]
    rw [iter_run (enc := fun a : Int => [I a]) (a := many) (xs := l) (step := chkStep nest fun r => some (.out 0 [I r.1, I r.2])) (fin := fun a => some (.out 0 [I 0, I a])) (Inv := fun _ _ => True)]
    · have := run_chk nest (fun r => some (.out 0 [I r.1, I r.2])) l many
      simp only [if_true] at this
      rw [this]; rfl
    · intro i x a hx _
      have hi : i < l.length := (List.getElem?_eq_some_iff.1 hx).1
      have hr := row_at hx
      obtain ⟨kd, n, s, w, m, p, lo, hi', t, l'⟩ := x
      have hk := oks_get ho hx
      simp only [Item.ok] at hk
      have ih := fun nest many => checkItems_ok k l' nest many (by have := size_get hx; omega) hk.2.1 hk.2.2
      have hs := fun h12 => checkStep_ok kd s w m lo hi' t n p (rows l') hk.1 h12
      have hp := checkRepeat_ok 3 s w m lo hi' t n p (rows l')
      have hw := wrap_up (Nat.lt_of_lt_of_le hi hl)
      have hq := chk_eq kd n s w m p lo hi' t l' nest a
      generalize hW : w64 (a + 1) = W at hq
      have hW' : IntKind.i64.wrap (a + 1) = W := hW
      by_cases c1 : 200 < W
      · rw [if_pos (.inl c1)] at hq
        simp [hi, hr, Item.row, chkStep, hq, hW', c1]
      by_cases c2 : 3 < nest
      · rw [if_pos (.inr c2)] at hq
        simp [hi, hr, Item.row, chkStep, hq, hW', c1, c2]
      rw [if_neg (by omega)] at hq
      by_cases k1 : kd = 1 ∨ kd = 2
      · have hs := hs k1
        rw [if_pos k1] at hq
        by_cases e0 : stepErr kd n s w m p lo hi' t l'.length = 0 <;> rcases k1 with rfl | rfl <;> simp [hi, hr, Item.row, chkStep, hq, hW', c1, c2, hs, e0, hw]
      by_cases k3 : kd = 3
      · rw [if_neg k1, if_pos k3] at hq
        subst k3
        by_cases e0 : repErr n s w m p lo hi' t l'.length = 0
        · rw [if_pos e0] at hq
          simp only [w64] at hq
          by_cases e1 : (chkL l' (IntKind.i64.wrap (nest + 1)) W).1 = 0 <;> simp [hi, hr, Item.row, chkStep, hq, hW', c1, c2, hp, e0, e1, ih, hw]
        · rw [if_neg e0] at hq
          simp [hi, hr, Item.row, chkStep, hq, hW', c1, c2, hp, e0]
      · rw [if_neg k1, if_neg k3] at hq
        simp only [not_or] at k1
        simp [hi, hr, Item.row, chkStep, hq, hW', c1, c2, k1, k3]
    · intro i x a a' _ _ _; trivial
    · intro i x a o _ _ h
      unfold chkStep at h
      split at h
      · cases h
      · cases h; exact exits_out (by decide)
    · intro a _
      simp
      exact exits_out (by decide)
    · trivial
theorem rcheckItems_ok : ∀ (k : Nat) (l : List Item) (nest many : Int), SizeOf.sizeOf l < k → l.length ≤ maxLen → oks l → M k_harrierref7_checkItems [.l (rows l), I nest, I many] = some [I (if (chkL l nest many).1 = 0 then (chkL l nest many).2 else 0), I (chkL l nest many).1]
  | 0, l, nest, many, h, _, _ => by omega
  | k + 1, l, nest, many, h, hl, ho => by
    rw [M_harrierref7_checkItems]
    simp [T_harrierref7_checkItems]
    rw [iter_run (enc := fun a : Int => [I a]) (a := many) (xs := l) (step := chkStep nest fun r => some (.out 0 [I (if r.1 = 0 then r.2 else 0), I r.1])) (fin := fun a => some (.out 0 [I a, I 0])) (Inv := fun _ _ => True)]
    · have := run_chk nest (fun r => some (.out 0 [I (if r.1 = 0 then r.2 else 0), I r.1])) l many
      simp only [if_true] at this
      rw [this]; rfl
    · intro i x a hx _
      have hi : i < l.length := (List.getElem?_eq_some_iff.1 hx).1
      have hr := row_at hx
      obtain ⟨kd, n, s, w, m, p, lo, hi', t, l'⟩ := x
      have hk := oks_get ho hx
      simp only [Item.ok] at hk
      have ih := fun nest many => rcheckItems_ok k l' nest many (by have := size_get hx; omega) hk.2.1 hk.2.2
      have hs := fun h12 => rcheckStep_ok kd s w m lo hi' t n p (rows l') hk.1 h12
      have hw := wrap_up (Nat.lt_of_lt_of_le hi hl)
      have hq := chk_eq kd n s w m p lo hi' t l' nest a
      generalize hW : w64 (a + 1) = W at hq
      have hW' : IntKind.i64.wrap (a + 1) = W := hW
      by_cases c1 : 200 < W
      · rw [if_pos (.inl c1)] at hq
        simp [hi, hr, Item.row, chkStep, hq, hW', c1]
      by_cases c2 : 3 < nest
      · rw [if_pos (.inr c2)] at hq
        simp [hi, hr, Item.row, chkStep, hq, hW', c1, c2]
      rw [if_neg (by omega)] at hq
      by_cases k1 : kd = 1 ∨ kd = 2
      · have hs := hs k1
        rw [if_pos k1] at hq
        by_cases e0 : stepErr kd n s w m p lo hi' t l'.length = 0 <;> rcases k1 with rfl | rfl <;> simp [hi, hr, Item.row, chkStep, hq, hW', c1, c2, hs, e0, hw]
      by_cases k3 : kd = 3
      · rw [if_neg k1, if_pos k3] at hq
        subst k3
        simp only [w64] at hq
        simp [hi, hr, Item.row, chkStep, hq, hW', c1, c2, run_aim, outside_ok, empty_list, ih, hw]
        generalize chkL l' (IntKind.i64.wrap (nest + 1)) W = r
        unfold repErr
        grind (splits := 40)
      · rw [if_neg k1, if_neg k3] at hq
        simp only [not_or] at k1
        simp [hi, hr, Item.row, chkStep, hq, hW', c1, c2, k1, k3]
    · intro i x a a' _ _ _; trivial
    · intro i x a o _ _ h
      unfold chkStep at h
      split at h
      · cases h
      · cases h; exact exits_out (by decide)
    · intro a _
      simp
      exact exits_out (by decide)
    · trivial
end Go.Proofs.YtfphabkdgdgnbaaGreatDoor
