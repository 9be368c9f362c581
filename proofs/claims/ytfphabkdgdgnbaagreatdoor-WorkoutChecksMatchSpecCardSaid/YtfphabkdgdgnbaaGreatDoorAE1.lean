import Derived.WalkKit
import Derived.Below
import Derived.KernelRfl
set_option linter.unusedVariables false
namespace Go.Proofs.YtfphabkdgdgnbaaGreatDoor.AE
open Go Go.RowKit

/-- An abstract value: addresses of the call's own blocks are numbers of an abstract heap. -/
inductive AV where
  | v (x : Value)
  | ptr (id off : Nat)
  | slc (id off size len : Nat) (cap : Option Nat)
  | agg (cs : List AV)
  | tup (vs : List AV)
  | fn (f : Fn) (first captured : List AV)
  | ifc (t : TypeId) (x : AV)
  | mp (id : Nat)
  deriving Inhabited

/-- Where the abstract blocks lie: the block's number, and how many cells it has. -/
abbrev Sg := List (Nat × Nat)

mutual
def AV.conc (σ : Sg) : AV → Option Value
  | .v x => some x
  | .ptr id off => (σ[id]?).map fun p => .pointer (some ⟨p.1, off, none⟩)
  | .slc id off size len cap => (σ[id]?).bind fun p =>
      if len ≤ cap.getD (p.2 / size - off) then some (.slice (some ⟨p.1, off * size, none⟩) len (cap.getD (p.2 / size - off))) else none
  | .agg cs => (concL σ cs).map fun l => .agg l.toArray
  | .tup vs => (concL σ vs).map fun l => .tuple l.toArray
  | .fn f a b => (concL σ a).bind fun x => (concL σ b).map fun y => .func f x.toArray y.toArray
  | .ifc t x => (AV.conc σ x).map fun y => .iface t y
  | .mp id => (σ[id]?).map fun p => .map (some p.1)
def concL (σ : Sg) : List AV → Option (List Value)
  | [] => some []
  | a :: l => (AV.conc σ a).bind fun x => (concL σ l).map fun y => x :: y
end

theorem pre_get {σ σ' : Sg} (h : σ <+: σ') {i : Nat} {p : Nat × Nat} (hp : σ[i]? = some p) : σ'[i]? = some p := by
  obtain ⟨t, rfl⟩ := h
  have hlt : i < σ.length := by
    rcases Nat.lt_or_ge i σ.length with h | h
    · exact h
    · simp [List.getElem?_eq_none h] at hp
  rw [List.getElem?_append_left hlt]; exact hp

mutual
theorem conc_mono {σ σ' : Sg} (h : σ <+: σ') : ∀ (a : AV) {v : Value}, a.conc σ = some v → a.conc σ' = some v
  | .v x, v, e => by simpa [AV.conc] using e
  | .ptr id off, v, e => by
    simp only [AV.conc, Option.map_eq_some_iff] at e ⊢
    obtain ⟨p, hp, e⟩ := e; exact ⟨p, pre_get h hp, e⟩
  | .slc id off size len cap, v, e => by
    simp only [AV.conc, Option.bind_eq_some_iff] at e ⊢
    obtain ⟨p, hp, e⟩ := e; exact ⟨p, pre_get h hp, e⟩
  | .agg cs, v, e => by
    simp only [AV.conc, Option.map_eq_some_iff] at e ⊢
    obtain ⟨p, hp, e⟩ := e; exact ⟨p, concL_mono h cs hp, e⟩
  | .tup cs, v, e => by
    simp only [AV.conc, Option.map_eq_some_iff] at e ⊢
    obtain ⟨p, hp, e⟩ := e; exact ⟨p, concL_mono h cs hp, e⟩
  | .fn f a b, v, e => by
    simp only [AV.conc, Option.bind_eq_some_iff, Option.map_eq_some_iff] at e ⊢
    obtain ⟨p, hp, q, hq, e⟩ := e; exact ⟨p, concL_mono h a hp, q, concL_mono h b hq, e⟩
  | .ifc t x, v, e => by
    simp only [AV.conc, Option.map_eq_some_iff] at e ⊢
    obtain ⟨p, hp, e⟩ := e; exact ⟨p, conc_mono h x hp, e⟩
  | .mp id, v, e => by
    simp only [AV.conc, Option.map_eq_some_iff] at e ⊢
    obtain ⟨p, hp, e⟩ := e; exact ⟨p, pre_get h hp, e⟩
theorem concL_mono {σ σ' : Sg} (h : σ <+: σ') : ∀ (l : List AV) {v : List Value}, concL σ l = some v → concL σ' l = some v
  | [], v, e => by simpa [concL] using e
  | a :: l, v, e => by
    simp only [concL, Option.bind_eq_some_iff, Option.map_eq_some_iff] at e ⊢
    obtain ⟨p, hp, q, hq, e⟩ := e; exact ⟨p, conc_mono h a hp, q, concL_mono h l hq, e⟩
end

/-- Address-free values. -/
def AV.toV? : AV → Option Value
  | .v x => some x
  | .agg cs => (toVL? cs).map fun l => .agg l.toArray
  | .tup cs => (toVL? cs).map fun l => .tuple l.toArray
  | .fn f a b => (toVL? a).bind fun x => (toVL? b).map fun y => .func f x.toArray y.toArray
  | .ifc t x => x.toV?.map fun y => .iface t y
  | _ => none
where toVL? : List AV → Option (List Value)
  | [] => some []
  | a :: l => a.toV?.bind fun x => (toVL? l).map fun y => x :: y

mutual
theorem toV_conc (σ : Sg) : ∀ (a : AV) {x v : Value}, a.toV? = some x → a.conc σ = some v → v = x
  | .v y, x, v, h, e => by
    simp only [AV.toV?, AV.conc, Option.some.injEq] at h e; rw [← h, ← e]
  | .agg cs, x, v, h, e => by
    simp only [AV.toV?, AV.conc, Option.map_eq_some_iff] at h e
    obtain ⟨l, hl, rfl⟩ := h; obtain ⟨m, hm, rfl⟩ := e; rw [toVL_conc σ cs hl hm]
  | .tup cs, x, v, h, e => by
    simp only [AV.toV?, AV.conc, Option.map_eq_some_iff] at h e
    obtain ⟨l, hl, rfl⟩ := h; obtain ⟨m, hm, rfl⟩ := e; rw [toVL_conc σ cs hl hm]
  | .fn f a b, x, v, h, e => by
    simp only [AV.toV?, AV.conc, Option.map_eq_some_iff, Option.bind_eq_some_iff] at h e
    obtain ⟨l, hl, l2, hl2, rfl⟩ := h; obtain ⟨m, hm, m2, hm2, rfl⟩ := e; rw [toVL_conc σ a hl hm, toVL_conc σ b hl2 hm2]
  | .ifc t y, x, v, h, e => by
    simp only [AV.toV?, AV.conc, Option.map_eq_some_iff] at h e
    obtain ⟨l, hl, rfl⟩ := h; obtain ⟨m, hm, rfl⟩ := e; rw [toV_conc σ y hl hm]
  | .ptr .., x, v, h, e => by simp [AV.toV?] at h
  | .slc .., x, v, h, e => by simp [AV.toV?] at h
  | .mp .., x, v, h, e => by simp [AV.toV?] at h
theorem toVL_conc (σ : Sg) : ∀ (l : List AV) {x v : List Value}, AV.toV?.toVL? l = some x → concL σ l = some v → v = x
  | [], x, v, h, e => by
    simp only [AV.toV?.toVL?, concL, Option.some.injEq] at h e; rw [← h, ← e]
  | a :: l, x, v, h, e => by
    simp only [AV.toV?.toVL?, concL, Option.map_eq_some_iff, Option.bind_eq_some_iff] at h e
    obtain ⟨b, hb, l2, hl2, rfl⟩ := h; obtain ⟨m, hm, m2, hm2, rfl⟩ := e; rw [toV_conc σ a hb hm, toVL_conc σ l hl2 hm2]
end

mutual
theorem conc_toV (σ : Sg) : ∀ (a : AV) {x : Value}, a.toV? = some x → a.conc σ = some x
  | .v y, x, h => by
    simp only [AV.toV?, AV.conc] at h ⊢; exact h
  | .agg cs, x, h => by
    simp only [AV.toV?, AV.conc, Option.map_eq_some_iff] at h ⊢
    obtain ⟨l, hl, rfl⟩ := h; exact ⟨l, concL_toV σ cs hl, rfl⟩
  | .tup cs, x, h => by
    simp only [AV.toV?, AV.conc, Option.map_eq_some_iff] at h ⊢
    obtain ⟨l, hl, rfl⟩ := h; exact ⟨l, concL_toV σ cs hl, rfl⟩
  | .fn f a b, x, h => by
    simp only [AV.toV?, AV.conc, Option.map_eq_some_iff, Option.bind_eq_some_iff] at h ⊢
    obtain ⟨l, hl, l2, hl2, rfl⟩ := h; exact ⟨l, concL_toV σ a hl, l2, concL_toV σ b hl2, rfl⟩
  | .ifc t y, x, h => by
    simp only [AV.toV?, AV.conc, Option.map_eq_some_iff] at h ⊢
    obtain ⟨l, hl, rfl⟩ := h; exact ⟨l, conc_toV σ y hl, rfl⟩
  | .ptr .., x, h => by simp [AV.toV?] at h
  | .slc .., x, h => by simp [AV.toV?] at h
  | .mp .., x, h => by simp [AV.toV?] at h
theorem concL_toV (σ : Sg) : ∀ (l : List AV) {x : List Value}, AV.toV?.toVL? l = some x → concL σ l = some x
  | [], x, h => by simpa only [AV.toV?.toVL?, concL] using h
  | a :: l, x, h => by
    simp only [AV.toV?.toVL?, concL, Option.map_eq_some_iff, Option.bind_eq_some_iff] at h ⊢
    obtain ⟨b, hb, l2, hl2, rfl⟩ := h; exact ⟨b, conc_toV σ a hb, l2, concL_toV σ l hl2, rfl⟩
end

/-! lists of values -/
theorem concL_length {σ : Sg} : ∀ {l : List AV} {m : List Value}, concL σ l = some m → m.length = l.length
  | [], m, e => by simp [concL] at e; simp [← e]
  | a :: l, m, e => by
    simp only [concL, Option.map_eq_some_iff, Option.bind_eq_some_iff] at e
    obtain ⟨x, _, y, hy, rfl⟩ := e; simp [concL_length hy]
theorem concL_get {σ : Sg} : ∀ {l : List AV} {m : List Value}, concL σ l = some m → ∀ {i : Nat} {a : AV}, l[i]? = some a → ∃ v, a.conc σ = some v ∧ m[i]? = some v
  | [], m, e, i, a, h => by simp at h
  | b :: l, m, e, i, a, h => by
    simp only [concL, Option.map_eq_some_iff, Option.bind_eq_some_iff] at e
    obtain ⟨x, hx, y, hy, rfl⟩ := e
    cases i with
    | zero => simp at h; subst h; exact ⟨x, hx, by simp⟩
    | succ i => simp at h; obtain ⟨v, h1, h2⟩ := concL_get hy h; exact ⟨v, h1, by simpa using h2⟩
theorem concL_append {σ : Sg} : ∀ {l l' : List AV} {m m' : List Value}, concL σ l = some m → concL σ l' = some m' → concL σ (l ++ l') = some (m ++ m')
  | [], l', m, m', e, e' => by simp [concL] at e; subst e; simpa using e'
  | a :: l, l', m, m', e, e' => by
    simp only [concL, Option.map_eq_some_iff, Option.bind_eq_some_iff] at e
    obtain ⟨x, hx, y, hy, rfl⟩ := e
    have := concL_append hy e'
    simp [concL, hx, this]
theorem concL_of_get {σ : Sg} : ∀ (l : List AV) (m : List Value), m.length = l.length → (∀ (i : Nat) (a : AV), l[i]? = some a → ∃ v, a.conc σ = some v ∧ m[i]? = some v) → concL σ l = some m
  | [], [], _, _ => rfl
  | a :: l, x :: m, hl, h => by
    have h0 := h 0 a (by simp)
    obtain ⟨v, hv, e⟩ := h0
    simp at e; subst e
    have := concL_of_get l m (by simpa using hl) (fun i b hb => by
      have := h (i + 1) b (by simpa using hb)
      simpa using this)
    simp [concL, hv, this]
theorem concL_take {σ : Sg} {l : List AV} {m : List Value} (h : concL σ l = some m) (n : Nat) : concL σ (l.take n) = some (m.take n) := by
  have hl := concL_length h
  refine concL_of_get _ _ (by simp [hl]) fun i a ha => ?_
  rw [List.getElem?_take] at ha ⊢
  split at ha
  · rename_i hlt
    obtain ⟨v, h1, h2⟩ := concL_get h ha
    exact ⟨v, h1, by simp [hlt, h2]⟩
  · cases ha
theorem concL_drop {σ : Sg} {l : List AV} {m : List Value} (h : concL σ l = some m) (n : Nat) : concL σ (l.drop n) = some (m.drop n) := by
  have hl := concL_length h
  refine concL_of_get _ _ (by simp [hl]) fun i a ha => ?_
  rw [List.getElem?_drop] at ha ⊢
  exact concL_get h ha
theorem concL_v (σ : Sg) : ∀ l : List Value, concL σ (l.map AV.v) = some l
  | [] => rfl
  | x :: l => by simp [concL, AV.conc, concL_v σ l]
theorem concL_replicate {σ : Sg} {a : AV} {v : Value} (h : a.conc σ = some v) : ∀ n, concL σ (List.replicate n a) = some (List.replicate n v)
  | 0 => rfl
  | n + 1 => by simp [List.replicate_succ, concL, h, concL_replicate h n]

/-- The cells of a value. -/
def AV.cells : AV → List AV
  | .agg cs => cs
  | .v x => x.cells.toList.map AV.v
  | a => [a]
theorem cells_conc {σ : Sg} {a : AV} {v : Value} (h : a.conc σ = some v) : concL σ a.cells = some v.cells.toList := by
  cases a with
  | v x => simp only [AV.conc, Option.some.injEq] at h; subst h; exact concL_v σ _
  | agg cs =>
    simp only [AV.conc, Option.map_eq_some_iff] at h
    obtain ⟨l, hl, rfl⟩ := h; simpa [AV.cells, Value.cells] using hl
  | ptr id off => simp only [AV.conc, Option.map_eq_some_iff] at h; obtain ⟨l, hl, rfl⟩ := h; simp [AV.cells, concL, AV.conc, hl, Value.cells]
  | slc id off size len cap =>
    have h0 := h
    simp only [AV.conc, Option.bind_eq_some_iff] at h; obtain ⟨l, hl, h⟩ := h
    split at h
    · simp only [Option.some.injEq] at h; subst h; simp only [AV.cells, concL, h0, Value.cells]; rfl
    · cases h
  | tup cs => have h0 := h; simp only [AV.conc, Option.map_eq_some_iff] at h; obtain ⟨l, hl, rfl⟩ := h; simp only [AV.cells, concL, h0, Value.cells]; rfl
  | fn f a b =>
    have h0 := h
    simp only [AV.conc, Option.map_eq_some_iff, Option.bind_eq_some_iff] at h; obtain ⟨l, hl, m, hm, rfl⟩ := h; simp only [AV.cells, concL, h0, Value.cells]; rfl
  | ifc t x => have h0 := h; simp only [AV.conc, Option.map_eq_some_iff] at h; obtain ⟨l, hl, rfl⟩ := h; simp only [AV.cells, concL, h0, Value.cells]; rfl
  | mp id => have h0 := h; simp only [AV.conc, Option.map_eq_some_iff] at h; obtain ⟨l, hl, rfl⟩ := h; simp only [AV.cells, concL, h0, Value.cells]; rfl

/-- A piece of Sem that neither reads nor writes memory. -/
def pureRun {α : Type} (P : Program) : Sem α → Option α
  | .pure a => some a
  | .program k => pureRun P (k P)
  | .mark _ k => pureRun P k
  | _ => none
theorem pureRun_run {α : Type} {P : Program} : ∀ {s : Sem α} {a : α}, pureRun P s = some a → ∀ w, s.run P w = .ok a w := by
  intro s
  induction s with
  | pure b => intro a h w; simp only [pureRun, Option.some.injEq] at h; subst h; rfl
  | program k ih => intro a h w; exact ih P h w
  | mark m k ih => intro a h w; exact ih h w
  | _ => intro a h; simp [pureRun] at h

/-! a tree of slots -/
inductive PT where
  | nil
  | node (o : Option AV) (l r : PT)
  deriving Inhabited
def PT.get : PT → Nat → Option AV
  | .nil, _ => none
  | .node o l r, n => bif Nat.beq n 0 then o else bif Nat.beq (n % 2) 1 then l.get (n / 2) else r.get (n / 2 - 1)
def PT.set : Nat → PT → Nat → AV → PT
  | 0, t, _, _ => t
  | f + 1, .nil, n, a => bif Nat.beq n 0 then .node (some a) .nil .nil else bif Nat.beq (n % 2) 1 then .node none (PT.set f .nil (n / 2) a) .nil else .node none .nil (PT.set f .nil (n / 2 - 1) a)
  | f + 1, .node o l r, n, a => bif Nat.beq n 0 then .node (some a) l r else bif Nat.beq (n % 2) 1 then .node o (PT.set f l (n / 2) a) r else .node o l (PT.set f r (n / 2 - 1) a)
theorem PT.get_set : ∀ (f : Nat) (t : PT) (n : Nat) (a : AV) (m : Nat), n + 1 < 2 ^ f → (PT.set f t n a).get m = if m = n then some a else t.get m
  | 0, t, n, a, m, h => by simp at h
  | f + 1, t, n, a, m, h => by
    have hp : 2 ^ (f + 1) = 2 * 2 ^ f := by rw [Nat.pow_succ]; omega
    have key : ∀ t' : PT, ∀ k, k + 1 < 2 ^ f → ∀ j, (PT.set f t' k a).get j = if j = k then some a else t'.get j := fun t' k hk j => PT.get_set f t' k a j hk
    have nilget : ∀ j, PT.get .nil j = none := fun j => rfl
    have hb : ∀ x y : Nat, Nat.beq x y = decide (x = y) := fun x y => by
      cases e : Nat.beq x y with
      | true => simp [Nat.eq_of_beq_eq_true e]
      | false => simp [Nat.ne_of_beq_eq_false e]
    cases t with
    | nil =>
      by_cases h0 : n = 0
      · subst h0
        simp only [PT.set, hb, decide_true, cond_true, PT.get]
        by_cases hm : m = 0
        · simp [hm]
        · simp only [hm, decide_false, cond_false, if_false]
          cases decide (m % 2 = 1) <;> rfl
      · simp only [PT.set, hb, h0, decide_false, cond_false]
        by_cases h1 : n % 2 = 1
        · simp only [h1, decide_true, cond_true, PT.get, hb]
          by_cases hm : m = 0
          · simp [hm]; omega
          · simp only [hm, decide_false, cond_false]
            by_cases hm1 : m % 2 = 1
            · simp only [hm1, decide_true, cond_true]
              rw [key .nil (n / 2) (by omega) (m / 2), nilget]
              by_cases e : m = n
              · simp [e]
              · rw [if_neg (by omega), if_neg e]
            · simp only [hm1, decide_false, cond_false]
              rw [if_neg (by omega)]
        · simp only [h1, decide_false, cond_false, PT.get, hb]
          by_cases hm : m = 0
          · simp [hm]; omega
          · simp only [hm, decide_false, cond_false]
            by_cases hm1 : m % 2 = 1
            · simp only [hm1, decide_true, cond_true]
              rw [if_neg (by omega)]
            · simp only [hm1, decide_false, cond_false]
              rw [key .nil (n / 2 - 1) (by omega) (m / 2 - 1), nilget]
              by_cases e : m = n
              · simp [e]
              · rw [if_neg (by omega), if_neg e]
    | node o l r =>
      by_cases h0 : n = 0
      · subst h0
        simp only [PT.set, hb, decide_true, cond_true, PT.get]
        by_cases hm : m = 0
        · simp [hm]
        · simp only [hm, decide_false, cond_false, if_false]
      · simp only [PT.set, hb, h0, decide_false, cond_false]
        by_cases h1 : n % 2 = 1
        · simp only [h1, decide_true, cond_true, PT.get, hb]
          by_cases hm : m = 0
          · simp [hm]; omega
          · simp only [hm, decide_false, cond_false]
            by_cases hm1 : m % 2 = 1
            · simp only [hm1, decide_true, cond_true]
              rw [key l (n / 2) (by omega) (m / 2)]
              by_cases e : m = n
              · simp [e]
              · rw [if_neg (by omega), if_neg e]
            · simp only [hm1, decide_false, cond_false]
              rw [if_neg (by omega)]
        · simp only [h1, decide_false, cond_false, PT.get, hb]
          by_cases hm : m = 0
          · simp [hm]; omega
          · simp only [hm, decide_false, cond_false]
            by_cases hm1 : m % 2 = 1
            · simp only [hm1, decide_true, cond_true]
              rw [if_neg (by omega)]
            · simp only [hm1, decide_false, cond_false]
              rw [key r (n / 2 - 1) (by omega) (m / 2 - 1)]
              by_cases e : m = n
              · simp [e]
              · rw [if_neg (by omega), if_neg e]
end Go.Proofs.YtfphabkdgdgnbaaGreatDoor.AE
