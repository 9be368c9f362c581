import Derived.Test.YtfphabkdgdgnbaaGreatDoorAE16
set_option linter.unusedVariables false
set_option linter.unusedSimpArgs false
namespace Go.Proofs.YtfphabkdgdgnbaaGreatDoor.SE
open Go Go.RowKit Go.Proofs.YtfphabkdgdgnbaaGreatDoor.AE

/-- What lies in memory, as data: a scalar, or the rows of a slice. -/
inductive D where
  | v (x : Value)
  | l (rows : List (List D))
  deriving Inhabited
/-- Memory that lies still. -/
abbrev Mem := Nat → Nat → Option Value
/-- Kinds of cells: a scalar, a slice. -/
inductive LT where
  | sc
  | sl (e : TypeId)

/-- The cells of a type. -/
def lay (P : Program) : Nat → TypeId → Option (List LT)
  | 0, _ => none
  | k + 1, t => match P.underlying t with
    | some .bool | some (.int _) | some .string => some [.sc]
    | some (.slice e) => some [.sl e]
    | some (.struct fs) => go (lay P k) fs.toList
    | some (.array n e) => (lay P k e).map fun l => (List.replicate n l).flatten
    | _ => none
where go (f : TypeId → Option (List LT)) : List Field → Option (List LT)
  | [] => some []
  | x :: l => (f x.type).bind fun a => (go f l).map fun b => a ++ b
def layE (P : Program) (e : TypeId) : Option (List LT) := (lay P 8 e).bind fun l => bif Nat.beq (P.cellsOf e) l.length && Nat.blt 0 l.length then some l else none
theorem layE_len {P : Program} {e : TypeId} {l : List LT} (h : layE P e = some l) : P.cellsOf e = l.length ∧ 0 < l.length := by
  unfold layE at h
  simp only [Option.bind_eq_some_iff] at h
  obtain ⟨m, _, h⟩ := h
  cases hb : (Nat.beq (P.cellsOf e) m.length && Nat.blt 0 m.length) with
  | false => simp [hb] at h
  | true =>
    simp only [hb, cond_true, Option.some.injEq] at h; subst h
    simp only [Bool.and_eq_true] at hb
    exact ⟨Nat.eq_of_beq_eq_true hb.1, of_blt hb.2⟩

/-! a datum is read -/
mutual
def D.Rd (P : Program) (M : Mem) : D → LT → Value → Prop
  | .v x, lt, u => lt = .sc ∧ u = x ∧ x.oneCell' = true
  | .l rows, lt, u => ∃ e lts a n c, lt = .sl e ∧ layE P e = some lts ∧ u = .slice a n c ∧ n = rows.length ∧ n ≤ c ∧ (rows ≠ [] → ∃ b o, a = some ⟨b, o, none⟩ ∧ RdRows P M rows lts b o)
def RdRows (P : Program) (M : Mem) : List (List D) → List LT → Nat → Nat → Prop
  | [], _, _, _ => True
  | r :: rs, lts, b, o => RdRow P M r lts b o ∧ RdRows P M rs lts b (o + lts.length)
def RdRow (P : Program) (M : Mem) : List D → List LT → Nat → Nat → Prop
  | [], lts, _, _ => lts = []
  | d :: ds, lts, b, o => ∃ lt lts' u, lts = lt :: lts' ∧ M b o = some u ∧ D.Rd P M d lt u ∧ RdRow P M ds lts' b (o + 1)
end
/-- More is known. -/
def Mem.le (M M' : Mem) : Prop := ∀ b o v, M b o = some v → M' b o = some v
theorem Mem.le.rfl {M : Mem} : M.le M := fun _ _ _ h => h
theorem Mem.le.trans {A B C : Mem} (h : A.le B) (k : B.le C) : A.le C := fun _ _ _ x => k _ _ _ (h _ _ _ x)
mutual
theorem Rd_mono {P : Program} {M M' : Mem} (h : M.le M') : ∀ (d : D) {lt u}, d.Rd P M lt u → d.Rd P M' lt u
  | .v x, _, _, r => r
  | .l rows, _, _, r => by
    simp only [D.Rd] at r ⊢
    obtain ⟨e, lts, a, n, c, h1, h2, h3, h4, h5, h6⟩ := r
    exact ⟨e, lts, a, n, c, h1, h2, h3, h4, h5, fun hne => let ⟨b, o, h7, h8⟩ := h6 hne; ⟨b, o, h7, RdRows_mono h rows h8⟩⟩
theorem RdRows_mono {P : Program} {M M' : Mem} (h : M.le M') : ∀ (rs : List (List D)) {lts b o}, RdRows P M rs lts b o → RdRows P M' rs lts b o
  | [], _, _, _, _ => trivial
  | r :: rs, _, _, _, ⟨h1, h2⟩ => ⟨RdRow_mono h r h1, RdRows_mono h rs h2⟩
theorem RdRow_mono {P : Program} {M M' : Mem} (h : M.le M') : ∀ (r : List D) {lts b o}, RdRow P M r lts b o → RdRow P M' r lts b o
  | [], _, _, _, r => r
  | d :: ds, _, _, _, r => by
    simp only [RdRow] at r ⊢
    obtain ⟨lt, lts', u, h1, h2, h3, h4⟩ := r
    exact ⟨lt, lts', u, h1, h _ _ _ h2, Rd_mono h d h3, RdRow_mono h ds h4⟩
end
section
variable {P : Program} {M : Mem}
theorem RdRow_len : ∀ {r : List D} {lts : List LT} {b o : Nat}, RdRow P M r lts b o → r.length = lts.length
  | [], _, _, _, h => by simp only [RdRow] at h; simp [h]
  | d :: ds, _, _, _, h => by
    simp only [RdRow] at h
    obtain ⟨lt, lts', u, rfl, _, _, h4⟩ := h
    simp [RdRow_len h4]
theorem RdRow_get : ∀ {r : List D} {lts : List LT} {b o : Nat}, RdRow P M r lts b o → ∀ {j : Nat} {d : D}, r[j]? = some d → ∃ lt u, lts[j]? = some lt ∧ M b (o + j) = some u ∧ d.Rd P M lt u
  | [], _, _, _, _, j, d, hd => by simp at hd
  | d :: ds, _, b, o, h, j, d', hd => by
    simp only [RdRow] at h
    obtain ⟨lt, lts', u, rfl, h2, h3, h4⟩ := h
    cases j with
    | zero => simp at hd; subst hd; exact ⟨lt, u, rfl, h2, h3⟩
    | succ j =>
      simp at hd
      obtain ⟨lt', u', a1, a2, a3⟩ := RdRow_get h4 hd
      exact ⟨lt', u', by simpa using a1, by rw [← a2]; congr 1; omega, a3⟩
theorem RdRows_get : ∀ {rs : List (List D)} {lts : List LT} {b o : Nat}, RdRows P M rs lts b o → ∀ {i : Nat} {r : List D}, rs[i]? = some r → RdRow P M r lts b (o + i * lts.length)
  | [], _, _, _, _, i, d, hd => by simp at hd
  | r :: rs, lts, b, o, ⟨h1, h2⟩, i, r', hd => by
    cases i with
    | zero => simp at hd; subst hd; simpa using h1
    | succ i =>
      simp at hd
      have := RdRows_get h2 hd
      rwa [Nat.add_assoc, show lts.length + i * lts.length = (i + 1) * lts.length by rw [Nat.succ_mul]; omega] at this
theorem RdRows_of : ∀ (rs : List (List D)) {lts : List LT} {b o : Nat}, (∀ (i : Nat) (r : List D), rs[i]? = some r → RdRow P M r lts b (o + i * lts.length)) → RdRows P M rs lts b o
  | [], _, _, _, _ => trivial
  | r :: rs, lts, b, o, h => ⟨by simpa using h 0 r (by simp), RdRows_of rs fun i r' hr => by
      have := h (i + 1) r' (by simpa using hr)
      rwa [show o + (i + 1) * lts.length = o + lts.length + i * lts.length by rw [Nat.succ_mul]; omega] at this⟩
theorem RdRows_append {rs rs' : List (List D)} {lts : List LT} {b o : Nat} (h : RdRows P M rs lts b o) (h' : RdRows P M rs' lts b (o + rs.length * lts.length)) : RdRows P M (rs ++ rs') lts b o := by
  refine RdRows_of _ fun i r hr => ?_
  rcases Nat.lt_or_ge i rs.length with hi | hi
  · rw [List.getElem?_append_left hi] at hr; exact RdRows_get h hr
  · rw [List.getElem?_append_right hi] at hr
    have := RdRows_get h' hr
    rwa [Nat.add_assoc, ← Nat.add_mul, Nat.add_sub_cancel' hi] at this
theorem RdRows_take {rs : List (List D)} {lts : List LT} {b o : Nat} (h : RdRows P M rs lts b o) (n : Nat) : RdRows P M (rs.take n) lts b o :=
  RdRows_of _ fun i r hr => by
    rw [List.getElem?_take] at hr
    split at hr
    · exact RdRows_get h hr
    · cases hr
theorem RdRows_drop {rs : List (List D)} {lts : List LT} {b o : Nat} (h : RdRows P M rs lts b o) (n : Nat) : RdRows P M (rs.drop n) lts b (o + n * lts.length) :=
  RdRows_of _ fun i r hr => by
    rw [List.getElem?_drop] at hr
    have := RdRows_get h hr
    rwa [Nat.add_mul, ← Nat.add_assoc] at this
end

/-! expressions over the variables -/
inductive Ex where
  | x (i : Nat)
  | v (u : Value)
  | lit (rows : List (List Ex))
  deriving Inhabited
mutual
def Ex.den (ρ : List D) : Ex → Option D
  | .x i => ρ[i]?
  | .v u => some (.v u)
  | .lit rows => (denRows ρ rows).map .l
def denRows (ρ : List D) : List (List Ex) → Option (List (List D))
  | [] => some []
  | r :: rs => (denRow ρ r).bind fun a => (denRows ρ rs).map fun b => a :: b
def denRow (ρ : List D) : List Ex → Option (List D)
  | [] => some []
  | x :: xs => (Ex.den ρ x).bind fun a => (denRow ρ xs).map fun b => a :: b
end
theorem env_mono {ρ ρ' : List D} (h : ρ <+: ρ') {i : Nat} {d : D} (hd : ρ[i]? = some d) : ρ'[i]? = some d := by
  obtain ⟨t, rfl⟩ := h
  have hlt : i < ρ.length := by
    rcases Nat.lt_or_ge i ρ.length with h | h
    · exact h
    · simp [List.getElem?_eq_none h] at hd
  rw [List.getElem?_append_left hlt]; exact hd
mutual
theorem den_mono {ρ ρ' : List D} (h : ρ <+: ρ') : ∀ (x : Ex) {d : D}, x.den ρ = some d → x.den ρ' = some d
  | .x i, d, e => env_mono h e
  | .v u, d, e => e
  | .lit rows, d, e => by
    simp only [Ex.den, Option.map_eq_some_iff] at e ⊢
    obtain ⟨a, ha, e⟩ := e; exact ⟨a, denRows_mono h rows ha, e⟩
theorem denRows_mono {ρ ρ' : List D} (h : ρ <+: ρ') : ∀ (x : List (List Ex)) {d}, denRows ρ x = some d → denRows ρ' x = some d
  | [], d, e => e
  | r :: rs, d, e => by
    simp only [denRows, Option.bind_eq_some_iff, Option.map_eq_some_iff] at e ⊢
    obtain ⟨a, ha, b, hb, e⟩ := e; exact ⟨a, denRow_mono h r ha, b, denRows_mono h rs hb, e⟩
theorem denRow_mono {ρ ρ' : List D} (h : ρ <+: ρ') : ∀ (x : List Ex) {d}, denRow ρ x = some d → denRow ρ' x = some d
  | [], d, e => e
  | r :: rs, d, e => by
    simp only [denRow, Option.bind_eq_some_iff, Option.map_eq_some_iff] at e ⊢
    obtain ⟨a, ha, b, hb, e⟩ := e; exact ⟨a, den_mono h r ha, b, denRow_mono h rs hb, e⟩
end

/-! values -/
inductive SV where
  | c (v : Value)
  | s (x : Ex)
  | d (e : TypeId) (x : Ex)
  | own (id : Nat)
  | slc (id off size len : Nat)
  | ptr (id off : Nat)
  | sp (cs : List SV)
  | agg (cs : List SV)
  | tup (cs : List SV)
  | fn (f : Fn) (first captured : List SV)
  | ifc (t : TypeId) (x : SV)
  | unk
  deriving Inhabited
/-- Where an object lies: its block, and the head of the slice. -/
structure Pl where
  blk : Option Nat
  hd : Value
structure Cx where
  ρ : List D
  σ : List Pl
  M : Mem
mutual
def SV.R (P : Program) (cx : Cx) : SV → Value → Prop
  | .c x, v => v = x
  | .s x, v => x.den cx.ρ = some (.v v) ∧ v.oneCell' = true
  | .d e x, v => ∃ d, x.den cx.ρ = some d ∧ d.Rd P cx.M (.sl e) v
  | .own id, v => ∃ p, cx.σ[id]? = some p ∧ v = p.hd ∧ v.oneCell' = true
  | .slc id off size len, v => ∃ p b cap, cx.σ[id]? = some p ∧ p.blk = some b ∧ v = .slice (some ⟨b, off * size, none⟩) len cap ∧ len ≤ cap
  | .ptr id off, v => ∃ p b, cx.σ[id]? = some p ∧ p.blk = some b ∧ v = .pointer (some ⟨b, off, none⟩)
  | .sp cs, v => ∃ b o, v = .pointer (some ⟨b, o, none⟩) ∧ RMem P cx cs b o
  | .agg cs, v => ∃ l, RL P cx cs l ∧ v = .agg l.toArray
  | .tup cs, v => ∃ l, RL P cx cs l ∧ v = .tuple l.toArray
  | .fn f a b, v => ∃ l m, RL P cx a l ∧ RL P cx b m ∧ v = .func f l.toArray m.toArray
  | .ifc t x, v => ∃ u, SV.R P cx x u ∧ v = .iface t u
  | .unk, _ => True
def RL (P : Program) (cx : Cx) : List SV → List Value → Prop
  | [], l => l = []
  | a :: as, l => ∃ v vs, l = v :: vs ∧ SV.R P cx a v ∧ RL P cx as vs
def RMem (P : Program) (cx : Cx) : List SV → Nat → Nat → Prop
  | [], _, _ => True
  | a :: as, b, o => (∃ u, cx.M b o = some u ∧ SV.R P cx a u) ∧ RMem P cx as b (o + 1)
end
/-- More is known. -/
structure Cx.le (c c' : Cx) : Prop where
  ρ : c.ρ <+: c'.ρ
  σ : c.σ <+: c'.σ
  M : c.M.le c'.M
theorem Cx.le.rfl {c : Cx} : c.le c := ⟨List.prefix_rfl, List.prefix_rfl, Mem.le.rfl⟩
theorem Cx.le.trans {a b c : Cx} (h : a.le b) (k : b.le c) : a.le c := ⟨h.ρ.trans k.ρ, h.σ.trans k.σ, h.M.trans k.M⟩
theorem pl_mono {σ σ' : List Pl} (h : σ <+: σ') {i : Nat} {p : Pl} (hp : σ[i]? = some p) : σ'[i]? = some p := by
  obtain ⟨t, rfl⟩ := h
  have hlt : i < σ.length := by
    rcases Nat.lt_or_ge i σ.length with h | h
    · exact h
    · simp [List.getElem?_eq_none h] at hp
  rw [List.getElem?_append_left hlt]; exact hp
section
variable {P : Program}
mutual
theorem R_mono {c c' : Cx} (h : c.le c') : ∀ (a : SV) {v : Value}, a.R P c v → a.R P c' v
  | .c x, v, r => r
  | .s x, v, r => ⟨den_mono h.ρ x r.1, r.2⟩
  | .d e x, v, r => by
    simp only [SV.R] at r ⊢
    obtain ⟨d, h1, h2⟩ := r; exact ⟨d, den_mono h.ρ x h1, Rd_mono h.M d h2⟩
  | .own id, v, r => by
    simp only [SV.R] at r ⊢
    obtain ⟨p, h1, h2⟩ := r; exact ⟨p, pl_mono h.σ h1, h2⟩
  | .slc id off size len, v, r => by
    simp only [SV.R] at r ⊢
    obtain ⟨p, b, cap, h1, h2⟩ := r; exact ⟨p, b, cap, pl_mono h.σ h1, h2⟩
  | .ptr id off, v, r => by
    simp only [SV.R] at r ⊢
    obtain ⟨p, b, h1, h2⟩ := r; exact ⟨p, b, pl_mono h.σ h1, h2⟩
  | .sp cs, v, r => by
    simp only [SV.R] at r ⊢
    obtain ⟨b, o, h1, h2⟩ := r; exact ⟨b, o, h1, RMem_mono h cs h2⟩
  | .agg cs, v, r => by
    simp only [SV.R] at r ⊢
    obtain ⟨l, h1, h2⟩ := r; exact ⟨l, RL_mono h cs h1, h2⟩
  | .tup cs, v, r => by
    simp only [SV.R] at r ⊢
    obtain ⟨l, h1, h2⟩ := r; exact ⟨l, RL_mono h cs h1, h2⟩
  | .fn f a b, v, r => by
    simp only [SV.R] at r ⊢
    obtain ⟨l, m, h1, h2, h3⟩ := r; exact ⟨l, m, RL_mono h a h1, RL_mono h b h2, h3⟩
  | .ifc t x, v, r => by
    simp only [SV.R] at r ⊢
    obtain ⟨u, h1, h2⟩ := r; exact ⟨u, R_mono h x h1, h2⟩
  | .unk, v, r => trivial
theorem RL_mono {c c' : Cx} (h : c.le c') : ∀ (as : List SV) {l : List Value}, RL P c as l → RL P c' as l
  | [], l, r => r
  | a :: as, l, r => by
    simp only [RL] at r ⊢
    obtain ⟨v, vs, h1, h2, h3⟩ := r; exact ⟨v, vs, h1, R_mono h a h2, RL_mono h as h3⟩
theorem RMem_mono {c c' : Cx} (h : c.le c') : ∀ (as : List SV) {b o : Nat}, RMem P c as b o → RMem P c' as b o
  | [], b, o, r => trivial
  | a :: as, b, o, r => by
    simp only [RMem] at r ⊢
    obtain ⟨⟨u, h1, h2⟩, h3⟩ := r; exact ⟨⟨u, h.M _ _ _ h1, R_mono h a h2⟩, RMem_mono h as h3⟩
end
variable {cx : Cx}
theorem RL_len : ∀ {as : List SV} {l : List Value}, RL P cx as l → l.length = as.length
  | [], l, r => by simp only [RL] at r; simp [r]
  | a :: as, l, r => by
    simp only [RL] at r
    obtain ⟨v, vs, rfl, _, h⟩ := r; simp [RL_len h]
theorem RL_get : ∀ {as : List SV} {l : List Value}, RL P cx as l → ∀ {i : Nat} {a : SV}, as[i]? = some a → ∃ v, l[i]? = some v ∧ a.R P cx v
  | [], l, r, i, a, h => by simp at h
  | b :: as, l, r, i, a, h => by
    simp only [RL] at r
    obtain ⟨v, vs, rfl, h1, h2⟩ := r
    cases i with
    | zero => simp at h; subst h; exact ⟨v, by simp, h1⟩
    | succ i => simp at h; obtain ⟨u, a1, a2⟩ := RL_get h2 h; exact ⟨u, by simpa using a1, a2⟩
theorem RL_of : ∀ (as : List SV) (l : List Value), l.length = as.length → (∀ (i : Nat) (a : SV), as[i]? = some a → ∃ v, l[i]? = some v ∧ a.R P cx v) → RL P cx as l
  | [], l, hl, _ => by simp only [RL]; exact List.length_eq_zero_iff.1 (by simpa using hl)
  | a :: as, [], hl, _ => by simp at hl
  | a :: as, v :: l, hl, h => by
    simp only [RL]
    obtain ⟨u, h1, h2⟩ := h 0 a (by simp)
    simp at h1; subst h1
    exact ⟨v, l, rfl, h2, RL_of as l (by simpa using hl) fun i b hb => by
      obtain ⟨u, a1, a2⟩ := h (i + 1) b (by simpa using hb)
      exact ⟨u, by simpa using a1, a2⟩⟩
theorem RL_append {as bs : List SV} {l m : List Value} (h : RL P cx as l) (k : RL P cx bs m) : RL P cx (as ++ bs) (l ++ m) := by
  refine RL_of _ _ (by simp [RL_len h, RL_len k]) fun i a ha => ?_
  have hl := RL_len h
  rcases Nat.lt_or_ge i as.length with hi | hi
  · rw [List.getElem?_append_left hi] at ha
    rw [List.getElem?_append_left (by omega)]; exact RL_get h ha
  · rw [List.getElem?_append_right hi] at ha
    rw [List.getElem?_append_right (by omega), hl]; exact RL_get k ha
theorem RL_take {as : List SV} {l : List Value} (h : RL P cx as l) (n : Nat) : RL P cx (as.take n) (l.take n) := by
  refine RL_of _ _ (by simp [RL_len h]) fun i a ha => ?_
  rw [List.getElem?_take] at ha ⊢
  split at ha
  · rename_i hlt; obtain ⟨v, h1, h2⟩ := RL_get h ha; exact ⟨v, by simp [hlt, h1], h2⟩
  · cases ha
theorem RL_drop {as : List SV} {l : List Value} (h : RL P cx as l) (n : Nat) : RL P cx (as.drop n) (l.drop n) := by
  refine RL_of _ _ (by simp [RL_len h]) fun i a ha => ?_
  rw [List.getElem?_drop] at ha ⊢
  exact RL_get h ha
theorem RL_c : ∀ l : List Value, RL P cx (l.map SV.c) l
  | [] => rfl
  | x :: l => ⟨x, l, rfl, rfl, RL_c l⟩
theorem RMem_get : ∀ {as : List SV} {b o : Nat}, RMem P cx as b o → ∀ {i : Nat} {a : SV}, as[i]? = some a → ∃ v, cx.M b (o + i) = some v ∧ a.R P cx v
  | [], b, o, r, i, a, h => by simp at h
  | a0 :: as, b, o, r, i, a, h => by
    simp only [RMem] at r
    obtain ⟨⟨u, h1, h2⟩, h3⟩ := r
    cases i with
    | zero => simp at h; subst h; exact ⟨u, h1, h2⟩
    | succ i => simp at h; obtain ⟨v, a1, a2⟩ := RMem_get h3 h; exact ⟨v, by rw [← a1]; congr 1; omega, a2⟩
theorem RMem_drop {as : List SV} {b o : Nat} (h : RMem P cx as b o) : ∀ n, n ≤ as.length → RMem P cx (as.drop n) b (o + n)
  | 0, _ => by simpa using h
  | n + 1, hn => by
    cases as with
    | nil => simp at hn
    | cons a as =>
      simp only [RMem] at h
      have := RMem_drop (as := as) (b := b) (o := o + 1) h.2 n (by simpa using hn)
      rw [show o + (n + 1) = o + 1 + n by omega]; simpa using this
theorem RMem_of : ∀ (as : List SV) {b o : Nat}, (∀ (i : Nat) (a : SV), as[i]? = some a → ∃ v, cx.M b (o + i) = some v ∧ a.R P cx v) → RMem P cx as b o
  | [], b, o, _ => trivial
  | a :: as, b, o, h => by
    simp only [RMem]
    exact ⟨by simpa using h 0 a (by simp), RMem_of as fun i c hc => by
      obtain ⟨v, h1, h2⟩ := h (i + 1) c (by simpa using hc)
      exact ⟨v, by rw [← h1]; congr 1; omega, h2⟩⟩
end
end Go.Proofs.YtfphabkdgdgnbaaGreatDoor.SE
set_option linter.unusedVariables false
set_option linter.unusedSimpArgs false
set_option linter.unusedSectionVars false
namespace Go.Proofs.YtfphabkdgdgnbaaGreatDoor.SE
open Go Go.RowKit Go.Proofs.YtfphabkdgdgnbaaGreatDoor.AE

/-- What is old is as it was, but for some blocks. -/
structure Kp (S : Nat → Prop) (w w' : World) : Prop where
  os : w'.os = w.os
  tape : w'.tape = w.tape
  output : w'.output = w.output
  size : w.heap.size ≤ w'.heap.size
  block : ∀ k, k < w.heap.size → ¬ S k → w'.heap[k]? = w.heap[k]?
theorem Kp.rfl {S : Nat → Prop} {w : World} : Kp S w w := ⟨_root_.rfl, _root_.rfl, _root_.rfl, Nat.le_refl _, fun _ _ _ => _root_.rfl⟩
theorem Kp.trans {S T : Nat → Prop} {a b c : World} (h : Kp S a b) (k : Kp T b c) (hT : ∀ k, k < a.heap.size → T k → S k) : Kp S a c :=
  ⟨k.os.trans h.os, k.tape.trans h.tape, k.output.trans h.output, Nat.le_trans h.size k.size, fun i hi hs => (k.block i (Nat.lt_of_lt_of_le hi h.size) fun ht => hs (hT i hi ht)).trans (h.block i hi hs)⟩
theorem Kp.below {w w' : World} (h : Kp (fun _ => False) w w') : Below w.heap.size w w' := ⟨h.os, h.tape, h.output, h.size, fun k hk => h.block k hk id⟩
theorem Kp.of_below {w w' : World} (h : Below w.heap.size w w') : Kp (fun _ => False) w w' := ⟨h.os, h.tape, h.output, h.size, fun k hk _ => h.block k hk⟩

/-- Abstract objects: cells that are written; a slice that grows. -/
inductive SObj where
  | box (cs : List SV) (e : TypeId)
  | grow (e : TypeId) (x : Ex)
  | dead
  deriving Inhabited
abbrev SH := List SObj
def SObj.live : SObj → Bool
  | .dead => false
  | _ => true
def ObjR (P : Program) (w0 : World) (S : Nat → Prop) (cx : Cx) (w : World) (p : Pl) : SObj → Prop
  | .box cs e => ∃ b c, p.blk = some b ∧ (S b ∨ w0.heap.size ≤ b) ∧ w.heap[b]? = some (.cells c e (0, 0)) ∧ RL P cx cs c.toList ∧ ∀ o, cx.M b o = none
  | .grow e x => ∃ rows lts, x.den cx.ρ = some (.l rows) ∧ layE P e = some lts ∧ ((rows = [] ∧ p.blk = none ∧ p.hd = .slice none 0 0) ∨
      ∃ b c cap et, p.blk = some b ∧ (S b ∨ w0.heap.size ≤ b) ∧ w.heap[b]? = some (.cells c et (0, 0)) ∧ p.hd = .slice (some ⟨b, 0, none⟩) rows.length cap ∧ rows.length ≤ cap ∧ cap * lts.length ≤ c.size ∧ RdRows P cx.M rows lts b 0 ∧
        ∀ o, rows.length * lts.length ≤ o → cx.M b o = none)
  | .dead => True
/-- Tables that lie from the start, and stay. -/
class Tb where
  tab : List (Nat × List Value)
def Tb.at [Tb] (b o : Nat) : Option Value := (Tb.tab.lookup b).bind fun l => l[o]?
variable [Tb]
structure WR (P : Program) (M0 : Mem) (w0 : World) (S : Nat → Prop) (cx : Cx) (H : SH) (w : World) : Prop where
  keep : Kp S w0 w
  mem : ∀ b o v, cx.M b o = some v → w.cell? ⟨b, o, none⟩ = some v
  old : ∀ b o, b < w0.heap.size → ¬ S b → cx.M b o = M0 b o
  len : cx.σ.length = H.length
  obj : ∀ (i : Nat) (o : SObj) (p : Pl), H[i]? = some o → cx.σ[i]? = some p → ObjR P w0 S cx w p o
  inj : ∀ (i j : Nat) (o o' : SObj) (p q : Pl) (b : Nat), H[i]? = some o → H[j]? = some o' → cx.σ[i]? = some p → cx.σ[j]? = some q → o.live = true → o'.live = true → p.blk = some b → q.blk = some b → i = j
  gl : ∀ b o v, Tb.at b o = some v → cx.M b o = some v

section
variable {P : Program} {M0 : Mem} {w0 : World} {S : Nat → Prop} {cx : Cx} {H : SH} {w : World}
theorem get_lt {α : Type} {l : List α} {i : Nat} {x : α} (h : l[i]? = some x) : i < l.length := by
  rcases Nat.lt_or_ge i l.length with h' | h'
  · exact h'
  · simp [List.getElem?_eq_none h'] at h
theorem sg_get (h : WR P M0 w0 S cx H w) {i : Nat} {o : SObj} (ho : H[i]? = some o) : ∃ p, cx.σ[i]? = some p :=
  ⟨cx.σ[i]'(by rw [h.len]; exact get_lt ho), List.getElem?_eq_getElem _⟩
/-- Where an object is the same for more is known. -/
theorem ObjR.mono {c c' : Cx} (h : c.le c') {p : Pl} : ∀ {o : SObj}, (∀ b, p.blk = some b → o.live = true → c'.M b = c.M b) → ObjR P w0 S c w p o → ObjR P w0 S c' w p o
  | .box cs e, hM, ⟨b, c, h1, h2, h3, h4, h5⟩ => ⟨b, c, h1, h2, h3, RL_mono h cs h4, fun o => by rw [hM b h1 _root_.rfl]; exact h5 o⟩
  | .grow e x, hM, ⟨rows, lts, h1, h2, h3⟩ => ⟨rows, lts, den_mono h.ρ x h1, h2, h3.imp id fun ⟨b, c, cap, et, a1, a2, a3, a4, a5, a6, a7, a8⟩ => ⟨b, c, cap, et, a1, a2, a3, a4, a5, a6, RdRows_mono h.M rows a7, fun o ho => by rw [hM b a1 _root_.rfl]; exact a8 o ho⟩⟩
  | .dead, _, _ => trivial
/-- In another world. -/
theorem ObjR.world {p : Pl} {w' : World} (hw : ∀ b, p.blk = some b → w'.heap[b]? = w.heap[b]?) : ∀ {o : SObj}, ObjR P w0 S cx w p o → ObjR P w0 S cx w' p o
  | .box cs e, ⟨b, c, h1, h2, h3, h4, h5⟩ => ⟨b, c, h1, h2, by rw [hw b h1]; exact h3, h4, h5⟩
  | .grow e x, ⟨rows, lts, h1, h2, h3⟩ => ⟨rows, lts, h1, h2, h3.imp id fun ⟨b, c, cap, et, a1, a2, a3, a4⟩ => ⟨b, c, cap, et, a1, a2, by rw [hw b a1]; exact a3, a4⟩⟩
  | .dead, _ => trivial
theorem ObjR.base {p : Pl} : ∀ {o : SObj}, ObjR P w0 S cx w p o → o.live = true → ∀ {b}, p.blk = some b → (S b ∨ w0.heap.size ≤ b) ∧ b < w.heap.size
  | .box cs e, ⟨b, c, h1, h2, h3, _⟩, _, b', hb => by
    obtain rfl : b = b' := Option.some.inj (h1.symm.trans hb)
    refine ⟨h2, ?_⟩
    rcases Nat.lt_or_ge b w.heap.size with h' | h'
    · exact h'
    · rw [Array.getElem?_eq_none h'] at h3; cases h3
  | .grow e x, ⟨rows, lts, h1, h2, h3⟩, _, b', hb => by
    rcases h3 with ⟨_, h3, _⟩ | ⟨b, c, cap, et, a1, a2, a3, _⟩
    · rw [h3] at hb; cases hb
    · obtain rfl : b = b' := Option.some.inj (a1.symm.trans hb)
      refine ⟨a2, ?_⟩
      rcases Nat.lt_or_ge b w.heap.size with h' | h'
      · exact h'
      · rw [Array.getElem?_eq_none h'] at a3; cases a3
  | .dead, _, h, _, _ => by simp [SObj.live] at h
/-- Where something is known to lie still, no cell is written. -/
theorem mem_lt (h : WR P M0 w0 S cx H w) {b o : Nat} {v : Value} (hM : cx.M b o = some v) : b < w.heap.size := by
  have := h.mem b o v hM
  rcases Nat.lt_or_ge b w.heap.size with h' | h'
  · exact h'
  · have e : w.heap[b]? = none := Array.getElem?_eq_none h'
    simp [World.cell?, e] at this
theorem WR.drawn (h : WR P M0 w0 S cx H w) (n : Nat) : WR P M0 w0 S cx H { w with drawn := n } :=
  ⟨⟨h.keep.os, h.keep.tape, h.keep.output, h.keep.size, h.keep.block⟩, h.mem, h.old, h.len, fun i o p ho hp => (h.obj i o p ho hp).world fun _ _ => rfl, h.inj, h.gl⟩
/-- More variables. -/
theorem WR.env (h : WR P M0 w0 S cx H w) {ρ' : List D} (hp : cx.ρ <+: ρ') : WR P M0 w0 S ⟨ρ', cx.σ, cx.M⟩ H w :=
  ⟨h.keep, h.mem, h.old, h.len, fun i o p ho hp' => ObjR.mono (c := cx) (c' := ⟨ρ', cx.σ, cx.M⟩) ⟨hp, List.prefix_rfl, Mem.le.rfl⟩ (fun _ _ _ => rfl) (h.obj i o p ho hp'), h.inj, h.gl⟩

/-- A new object, in a new block or nowhere. -/
theorem WR.add (h : WR P M0 w0 S cx H w) {w' : World} {M' : Mem} {p : Pl} {o : SObj} (hk : Kp S w0 w')
    (hsz : w.heap.size ≤ w'.heap.size) (hw : ∀ b, b < w.heap.size → w'.heap[b]? = w.heap[b]?) (hM : ∀ b, b < w.heap.size → M' b = cx.M b) (hmem : ∀ b x v, w.heap.size ≤ b → M' b x = some v → w'.cell? ⟨b, x, none⟩ = some v)
    (hb : ∀ b, p.blk = some b → w.heap.size ≤ b) (ho : ∀ c' : Cx, c'.ρ = cx.ρ → cx.σ <+: c'.σ → c'.M = M' → cx.le c' → ObjR P w0 S c' w' p o) :
    WR P M0 w0 S ⟨cx.ρ, cx.σ ++ [p], M'⟩ (H ++ [o]) w' ∧ cx.le ⟨cx.ρ, cx.σ ++ [p], M'⟩ := by
  have le : cx.le ⟨cx.ρ, cx.σ ++ [p], M'⟩ := ⟨List.prefix_rfl, List.prefix_append _ _, fun b x v hv => by show M' b x = some v; rw [hM b (mem_lt h hv)]; exact hv⟩
  have old : ∀ {i : Nat} {o' : SObj}, i < H.length → (H ++ [o])[i]? = some o' → H[i]? = some o' := fun hi ho => by rwa [List.getElem?_append_left hi] at ho
  have olds : ∀ {i : Nat} {q}, i < H.length → (cx.σ ++ [p])[i]? = some q → cx.σ[i]? = some q := fun hi ho => by rwa [List.getElem?_append_left (by rw [h.len]; exact hi)] at ho
  have last : ∀ {i : Nat} {o' : SObj}, ¬ i < H.length → (H ++ [o])[i]? = some o' → i = H.length ∧ o' = o := fun {i} {o'} hi ho => by
    have hl := get_lt ho
    have : i = H.length := by simp at hl; omega
    subst this; simp at ho; exact ⟨rfl, ho.symm⟩
  have lasts : ∀ {q}, (cx.σ ++ [p])[H.length]? = some q → q = p := fun hp => by
    rw [← h.len] at hp; simp at hp; exact hp.symm
  refine ⟨⟨hk, ?_, ?_, by simp [h.len], ?_, ?_, fun b x v hv => le.M b x v (h.gl b x v hv)⟩, le⟩
  · intro b x v hv
    rcases Nat.lt_or_ge b w.heap.size with hlt | hge
    · have := h.mem b x v (by rw [← hM b hlt]; exact hv)
      rw [World.cell?_of_block (w := w) (hw b hlt)]; exact this
    · exact hmem b x v hge hv
  · intro b x hb' hs
    have : b < w.heap.size := Nat.lt_of_lt_of_le hb' h.keep.size
    show M' b x = _
    rw [hM b this]; exact h.old b x hb' hs
  · intro i o' q ho' hq
    by_cases hi : i < H.length
    · have ho1 := old hi ho'
      have hq1 := olds hi hq
      have r := h.obj i o' q ho1 hq1
      cases hl : o'.live with
      | false => cases o' <;> first | trivial | simp [SObj.live] at hl
      | true =>
        have hlt : ∀ b, q.blk = some b → b < w.heap.size := fun b hb => (r.base hl hb).2
        exact (r.mono le fun b hb _ => hM b (hlt b hb)).world fun b hb => hw b (hlt b hb)
    · obtain ⟨rfl, rfl⟩ := last hi ho'
      have := lasts hq; subst this
      exact ho _ rfl le.σ rfl le
  · intro i j o1 o2 q r b h1 h2 hq hr l1 l2 e1 e2
    by_cases hi : i < H.length <;> by_cases hj : j < H.length
    · exact h.inj i j o1 o2 q r b (old hi h1) (old hj h2) (olds hi hq) (olds hj hr) l1 l2 e1 e2
    · obtain ⟨rfl, rfl⟩ := last hj h2
      have := lasts hr; subst this
      have := ((h.obj i o1 q (old hi h1) (olds hi hq)).base l1 e1).2
      have := hb b e2; omega
    · obtain ⟨rfl, rfl⟩ := last hi h1
      have := lasts hq; subst this
      have := ((h.obj j o2 r (old hj h2) (olds hj hr)).base l2 e2).2
      have := hb b e1; omega
    · rw [(last hi h1).1, (last hj h2).1]

/-- One object is written. -/
theorem WR.write (h : WR P M0 w0 S cx H w) {id : Nat} {o o' : SObj} {p : Pl} {b : Nat} {w' : World} (ho : H[id]? = some o) (hl : o.live = true) (hp : cx.σ[id]? = some p) (hb : p.blk = some b)
    (hos : w'.os = w.os) (htape : w'.tape = w.tape) (hout : w'.output = w.output) (hsize : w'.heap.size = w.heap.size)
    (hother : ∀ k, k ≠ b → w'.heap[k]? = w.heap[k]?) (hM : ∀ x v, cx.M b x = some v → w'.cell? ⟨b, x, none⟩ = some v) (hO : ObjR P w0 S cx w' p o') : WR P M0 w0 S cx (H.set id o') w' := by
  have hbase := (h.obj id o p ho hp).base hl hb
  have hid := get_lt ho
  refine ⟨⟨hos.trans h.keep.os, htape.trans h.keep.tape, hout.trans h.keep.output, by rw [hsize]; exact h.keep.size, fun k hk hs => ?_⟩, ?_, h.old, by simp [h.len], ?_, ?_, h.gl⟩
  · have hne : k ≠ b := fun e => by
      subst e
      rcases hbase.1 with hS | hge
      · exact hs hS
      · omega
    rw [hother k hne]; exact h.keep.block k hk hs
  · intro b' x v hv
    by_cases e : b' = b
    · subst e; exact hM x v hv
    · rw [World.cell?_of_block (w := w) (hother b' e)]; exact h.mem b' x v hv
  · intro i x q hx hq
    by_cases hi : i = id
    · subst hi
      rw [List.getElem?_set] at hx
      simp [hid] at hx; subst hx
      rw [hp] at hq; cases hq; exact hO
    · rw [List.getElem?_set_ne (by omega)] at hx
      have r := h.obj i x q hx hq
      cases hlx : x.live with
      | false => cases x <;> first | trivial | simp [SObj.live] at hlx
      | true => exact r.world fun b' hb' => hother b' fun e => by subst e; exact hi (h.inj i id x o q p b' hx ho hq hp hlx hl hb' hb)
  · intro i j o1 o2 q r b' h1 h2 hq hr l1 l2 e1 e2
    have sub : ∀ {k : Nat} {x : SObj}, (H.set id o')[k]? = some x → x.live = true → ∃ y, H[k]? = some y ∧ y.live = true := fun {k} {x} hx lx => by
      by_cases hk : k = id
      · subst hk; exact ⟨o, ho, hl⟩
      · rw [List.getElem?_set_ne (by omega)] at hx; exact ⟨x, hx, lx⟩
    obtain ⟨y1, a1, b1⟩ := sub h1 l1
    obtain ⟨y2, a2, b2⟩ := sub h2 l2
    exact h.inj i j y1 y2 q r b' a1 a2 hq hr b1 b2 e1 e2
/-- An object is given up. -/
theorem WR.kill (h : WR P M0 w0 S cx H w) (id : Nat) : WR P M0 w0 S cx (H.set id .dead) w := by
  have sub : ∀ {k : Nat} {x : SObj}, (H.set id .dead)[k]? = some x → x = .dead ∨ H[k]? = some x := fun {k} {x} hx => by
    by_cases hk : id = k
    · subst hk
      rw [List.getElem?_set] at hx
      split at hx
      · split at hx
        · simp at hx; exact .inl hx.symm
        · cases hx
      · rename_i hne; exact absurd rfl hne
    · rw [List.getElem?_set_ne hk] at hx; exact .inr hx
  refine ⟨h.keep, h.mem, h.old, by simp [h.len], fun i o p ho hp => ?_, fun i j o o' p q b h1 h2 hp hq l1 l2 e1 e2 => ?_, h.gl⟩
  · rcases sub ho with rfl | ho
    · trivial
    · exact h.obj i o p ho hp
  · rcases sub h1 with rfl | h1
    · simp [SObj.live] at l1
    · rcases sub h2 with rfl | h2
      · simp [SObj.live] at l2
      · exact h.inj i j o o' p q b h1 h2 hp hq l1 l2 e1 e2
/-- What nobody writes any more lies still. -/
theorem WR.still (h : WR P M0 w0 S cx H w) {id : Nat} {cs : List SV} {e : TypeId} {p : Pl} {b : Nat} (ho : H[id]? = some (.box cs e)) (hp : cx.σ[id]? = some p) (hb : p.blk = some b) :
    ∃ M', cx.M.le M' ∧ WR P M0 w0 S ⟨cx.ρ, cx.σ, M'⟩ (H.set id .dead) w ∧ RMem P ⟨cx.ρ, cx.σ, M'⟩ cs b 0 ∧ (∀ k, k ≠ b → M' k = cx.M k) ∧ (∀ o, cs.length ≤ o → M' b o = none) := by
  obtain ⟨b', c, h1, h2, h3, h4, h5⟩ := h.obj id _ p ho hp
  rw [hb] at h1; cases h1
  have hlen := RL_len h4
  let M' : Mem := fun k o => if k = b then c[o]? else cx.M k o
  have le : cx.M.le M' := fun k o v hv => by
    show (if k = b then c[o]? else cx.M k o) = some v
    by_cases e : k = b
    · subst e; rw [h5] at hv; cases hv
    · rw [if_neg e]; exact hv
  have lec : cx.le ⟨cx.ρ, cx.σ, M'⟩ := ⟨List.prefix_rfl, List.prefix_rfl, le⟩
  have hk := h.kill id
  refine ⟨M', le, ⟨h.keep, ?_, ?_, hk.len, ?_, hk.inj, fun b x v hv => le b x v (h.gl b x v hv)⟩, ?_, fun k hne => funext fun o => if_neg hne, fun o ho' => ?_⟩
  · intro k o v hv
    have hv' : (if k = b then c[o]? else cx.M k o) = some v := hv
    by_cases e : k = b
    · subst e; rw [if_pos rfl] at hv'; simp [World.cell?, h3, hv']
    · rw [if_neg e] at hv'; exact h.mem k o v hv'
  · intro k o hk' hs
    have hne : k ≠ b := fun e => by
      subst e
      rcases h2 with hS | hge
      · exact hs hS
      · omega
    show (if k = b then c[o]? else cx.M k o) = _
    rw [if_neg hne]; exact h.old k o hk' hs
  · intro i o q hi hq
    cases hl : o.live with
    | false => cases o <;> first | trivial | simp [SObj.live] at hl
    | true =>
      have hne : i ≠ id := fun e => by
        subst e
        rw [List.getElem?_set] at hi
        simp [get_lt ho] at hi; subst hi; simp [SObj.live] at hl
      rw [List.getElem?_set_ne (by omega)] at hi
      refine (h.obj i o q hi hq).mono lec fun b' hb' _ => ?_
      have : b' ≠ b := fun e => by subst e; exact hne (h.inj i id o _ q p b' hi ho hq hp hl rfl hb' hb)
      funext x; exact if_neg this
  · refine RMem_of _ fun j a ha => ?_
    obtain ⟨v, a1, a2⟩ := RL_get h4 ha
    refine ⟨v, ?_, R_mono lec a a2⟩
    show (if b = b then c[0 + j]? else _) = some v
    rw [if_pos rfl, Nat.zero_add, ← Array.getElem?_toList]; exact a1
  · show (if b = b then c[o]? else _) = none
    rw [if_pos rfl]
    rw [Array.getElem?_eq_none]
    simp at hlen; omega
end
end Go.Proofs.YtfphabkdgdgnbaaGreatDoor.SE
set_option linter.unusedVariables false
set_option linter.unusedSimpArgs false
set_option linter.unusedSectionVars false
namespace Go.Proofs.YtfphabkdgdgnbaaGreatDoor.SE
open Go Go.RowKit Go.Proofs.YtfphabkdgdgnbaaGreatDoor.AE
variable [Tb]

/-! a tree of slots -/
inductive PTS where
  | nil
  | node (o : Option SV) (l r : PTS)
  deriving Inhabited
def PTS.get : PTS → Nat → Option SV
  | .nil, _ => none
  | .node o l r, n => bif Nat.beq n 0 then o else bif Nat.beq (n % 2) 1 then l.get (n / 2) else r.get (n / 2 - 1)
def PTS.set : Nat → PTS → Nat → SV → PTS
  | 0, t, _, _ => t
  | f + 1, .nil, n, a => bif Nat.beq n 0 then .node (some a) .nil .nil else bif Nat.beq (n % 2) 1 then .node none (PTS.set f .nil (n / 2) a) .nil else .node none .nil (PTS.set f .nil (n / 2 - 1) a)
  | f + 1, .node o l r, n, a => bif Nat.beq n 0 then .node (some a) l r else bif Nat.beq (n % 2) 1 then .node o (PTS.set f l (n / 2) a) r else .node o l (PTS.set f r (n / 2 - 1) a)
theorem PTS.get_set : ∀ (f : Nat) (t : PTS) (n : Nat) (a : SV) (m : Nat), n + 1 < 2 ^ f → (PTS.set f t n a).get m = if m = n then some a else t.get m
  | 0, t, n, a, m, h => by simp at h
  | f + 1, t, n, a, m, h => by
    have hp : 2 ^ (f + 1) = 2 * 2 ^ f := by rw [Nat.pow_succ]; omega
    have key : ∀ t' : PTS, ∀ k, k + 1 < 2 ^ f → ∀ j, (PTS.set f t' k a).get j = if j = k then some a else t'.get j := fun t' k hk j => PTS.get_set f t' k a j hk
    have nilget : ∀ j, PTS.get .nil j = none := fun j => rfl
    have hb : ∀ x y : Nat, Nat.beq x y = decide (x = y) := fun x y => by
      cases e : Nat.beq x y with
      | true => simp [Nat.eq_of_beq_eq_true e]
      | false => simp [Nat.ne_of_beq_eq_false e]
    cases t with
    | nil =>
      by_cases h0 : n = 0
      · subst h0
        simp only [PTS.set, hb, decide_true, cond_true, PTS.get]
        by_cases hm : m = 0
        · simp [hm]
        · simp only [hm, decide_false, cond_false, if_false]
          cases decide (m % 2 = 1) <;> rfl
      · simp only [PTS.set, hb, h0, decide_false, cond_false]
        by_cases h1 : n % 2 = 1
        · simp only [h1, decide_true, cond_true, PTS.get, hb]
          by_cases hm : m = 0
          · simp [hm]; omega
          · simp only [hm, decide_false, cond_false]
            by_cases hm1 : m % 2 = 1
            · simp only [hm1, decide_true, cond_true]
              rw [key .nil (n / 2) (by omega) (m / 2), nilget]
              by_cases e : m = n
              · simp [e]
              · rw [if_neg (by omega), if_neg e]
            · simp only [hm1, decide_false, cond_false]
              rw [if_neg (by omega)]
        · simp only [h1, decide_false, cond_false, PTS.get, hb]
          by_cases hm : m = 0
          · simp [hm]; omega
          · simp only [hm, decide_false, cond_false]
            by_cases hm1 : m % 2 = 1
            · simp only [hm1, decide_true, cond_true]
              rw [if_neg (by omega)]
            · simp only [hm1, decide_false, cond_false]
              rw [key .nil (n / 2 - 1) (by omega) (m / 2 - 1), nilget]
              by_cases e : m = n
              · simp [e]
              · rw [if_neg (by omega), if_neg e]
    | node o l r =>
      by_cases h0 : n = 0
      · subst h0
        simp only [PTS.set, hb, decide_true, cond_true, PTS.get]
        by_cases hm : m = 0
        · simp [hm]
        · simp only [hm, decide_false, cond_false, if_false]
      · simp only [PTS.set, hb, h0, decide_false, cond_false]
        by_cases h1 : n % 2 = 1
        · simp only [h1, decide_true, cond_true, PTS.get, hb]
          by_cases hm : m = 0
          · simp [hm]; omega
          · simp only [hm, decide_false, cond_false]
            by_cases hm1 : m % 2 = 1
            · simp only [hm1, decide_true, cond_true]
              rw [key l (n / 2) (by omega) (m / 2)]
              by_cases e : m = n
              · simp [e]
              · rw [if_neg (by omega), if_neg e]
            · simp only [hm1, decide_false, cond_false]
              rw [if_neg (by omega)]
        · simp only [h1, decide_false, cond_false, PTS.get, hb]
          by_cases hm : m = 0
          · simp [hm]; omega
          · simp only [hm, decide_false, cond_false]
            by_cases hm1 : m % 2 = 1
            · simp only [hm1, decide_true, cond_true]
              rw [if_neg (by omega)]
            · simp only [hm1, decide_false, cond_false]
              rw [key r (n / 2 - 1) (by omega) (m / 2 - 1)]
              by_cases e : m = n
              · simp [e]
              · rw [if_neg (by omega), if_neg e]


/-! values that are known but for scalars -/
mutual
def SV.val (ρ : List D) : SV → Option Value
  | .c x => some x
  | .s x => match x.den ρ with
    | some (.v u) => some u
    | _ => none
  | .agg cs => (valL ρ cs).map fun l => .agg l.toArray
  | .tup cs => (valL ρ cs).map fun l => .tuple l.toArray
  | .fn f a b => (valL ρ a).bind fun x => (valL ρ b).map fun y => .func f x.toArray y.toArray
  | .ifc t x => (SV.val ρ x).map fun y => .iface t y
  | _ => none
def valL (ρ : List D) : List SV → Option (List Value)
  | [] => some []
  | a :: l => (SV.val ρ a).bind fun x => (valL ρ l).map fun y => x :: y
end
section
variable {P : Program} {cx : Cx}
mutual
theorem val_R : ∀ (a : SV) {x v : Value}, a.val cx.ρ = some x → a.R P cx v → v = x
  | .c y, x, v, h, r => by simp only [SV.val, Option.some.injEq] at h; simp only [SV.R] at r; rw [r, h]
  | .s y, x, v, h, r => by
    simp only [SV.R] at r
    simp only [SV.val, r.1, Option.some.injEq] at h; exact h
  | .agg cs, x, v, h, r => by
    simp only [SV.val, Option.map_eq_some_iff] at h
    simp only [SV.R] at r
    obtain ⟨l, hl, rfl⟩ := h; obtain ⟨m, hm, rfl⟩ := r; rw [valL_R cs hl hm]
  | .tup cs, x, v, h, r => by
    simp only [SV.val, Option.map_eq_some_iff] at h
    simp only [SV.R] at r
    obtain ⟨l, hl, rfl⟩ := h; obtain ⟨m, hm, rfl⟩ := r; rw [valL_R cs hl hm]
  | .fn f a b, x, v, h, r => by
    simp only [SV.val, Option.map_eq_some_iff, Option.bind_eq_some_iff] at h
    simp only [SV.R] at r
    obtain ⟨l, hl, l2, hl2, rfl⟩ := h; obtain ⟨m, m2, hm, hm2, rfl⟩ := r; rw [valL_R a hl hm, valL_R b hl2 hm2]
  | .ifc t y, x, v, h, r => by
    simp only [SV.val, Option.map_eq_some_iff] at h
    simp only [SV.R] at r
    obtain ⟨l, hl, rfl⟩ := h; obtain ⟨m, hm, rfl⟩ := r; rw [val_R y hl hm]
  | .d .., x, v, h, r => by simp [SV.val] at h
  | .own .., x, v, h, r => by simp [SV.val] at h
  | .slc .., x, v, h, r => by simp [SV.val] at h
  | .ptr .., x, v, h, r => by simp [SV.val] at h
  | .sp .., x, v, h, r => by simp [SV.val] at h
  | .unk, x, v, h, r => by simp [SV.val] at h
theorem valL_R : ∀ (as : List SV) {l m : List Value}, valL cx.ρ as = some l → RL P cx as m → m = l
  | [], l, m, h, r => by simp only [valL, Option.some.injEq] at h; simp only [RL] at r; rw [r, h]
  | a :: as, l, m, h, r => by
    simp only [valL, Option.map_eq_some_iff, Option.bind_eq_some_iff] at h
    simp only [RL] at r
    obtain ⟨b, hb, l2, hl2, rfl⟩ := h; obtain ⟨v, vs, rfl, hv, hvs⟩ := r; rw [val_R a hb hv, valL_R as hl2 hvs]
end
end
/-- Built of scalars alone? -/
def SV.flat : SV → Bool
  | .c _ | .s _ => true
  | .agg cs => all cs
  | .tup cs => all cs
  | .fn _ a b => all a && all b
  | .ifc _ x => x.flat
  | _ => false
where all : List SV → Bool
  | [] => true
  | a :: l => a.flat && all l
/-- Known whole? -/
def SV.toV? : SV → Option Value
  | .c x => some x
  | .agg cs => (all cs).map fun l => .agg l.toArray
  | .tup cs => (all cs).map fun l => .tuple l.toArray
  | .fn f a b => (all a).bind fun x => (all b).map fun y => .func f x.toArray y.toArray
  | .ifc t x => x.toV?.map fun y => .iface t y
  | _ => none
where all : List SV → Option (List Value)
  | [] => some []
  | a :: l => a.toV?.bind fun x => (all l).map fun y => x :: y
mutual
theorem toV_val (ρ : List D) : ∀ (a : SV) {x : Value}, a.toV? = some x → a.val ρ = some x
  | .c y, x, h => h
  | .agg cs, x, h => by
    simp only [SV.toV?, SV.val, Option.map_eq_some_iff] at h ⊢
    obtain ⟨l, hl, rfl⟩ := h; exact ⟨l, toVL_val ρ cs hl, rfl⟩
  | .tup cs, x, h => by
    simp only [SV.toV?, SV.val, Option.map_eq_some_iff] at h ⊢
    obtain ⟨l, hl, rfl⟩ := h; exact ⟨l, toVL_val ρ cs hl, rfl⟩
  | .fn f a b, x, h => by
    simp only [SV.toV?, SV.val, Option.map_eq_some_iff, Option.bind_eq_some_iff] at h ⊢
    obtain ⟨l, hl, l2, hl2, rfl⟩ := h; exact ⟨l, toVL_val ρ a hl, l2, toVL_val ρ b hl2, rfl⟩
  | .ifc t y, x, h => by
    simp only [SV.toV?, SV.val, Option.map_eq_some_iff] at h ⊢
    obtain ⟨l, hl, rfl⟩ := h; exact ⟨l, toV_val ρ y hl, rfl⟩
  | .s .., x, h => by simp [SV.toV?] at h
  | .d .., x, h => by simp [SV.toV?] at h
  | .own .., x, h => by simp [SV.toV?] at h
  | .slc .., x, h => by simp [SV.toV?] at h
  | .ptr .., x, h => by simp [SV.toV?] at h
  | .sp .., x, h => by simp [SV.toV?] at h
  | .unk, x, h => by simp [SV.toV?] at h
theorem toVL_val (ρ : List D) : ∀ (l : List SV) {x : List Value}, SV.toV?.all l = some x → valL ρ l = some x
  | [], x, h => h
  | a :: l, x, h => by
    simp only [SV.toV?.all, valL, Option.map_eq_some_iff, Option.bind_eq_some_iff] at h ⊢
    obtain ⟨b, hb, l2, hl2, rfl⟩ := h; exact ⟨b, toV_val ρ a hb, l2, toVL_val ρ l hl2, rfl⟩
end

/-! what is reckoned -/
inductive PF where
  | bin (op : BinOp) (t : TypeId) (cx cy : Bool)
  | un (op : UnOp)
  | conv (s d : TypeId)
  | index (t : TypeId)
  | indexAddr (t : TypeId)
  | slc (t : TypeId) (lo hi : Bool)
  | bi (b : Builtin) (types : List TypeId) (t : TypeId) (consts : List Bool)
  | fieldAddr (t : TypeId) (f : Nat)
  | field (t : TypeId) (f : Nat)
  | ext (i : Nat)
  | row (g : FuncId)
  | pick
  deriving DecidableEq
def flagOp (b : Bool) : Operand := bif b then .const (.bool true) else .tmp 0
def PF.run (P : Program) : PF → List Value → Option Value
  | .bin op t cx cy, [x, y] => pureRun P (do eqGuard op t (flagOp cx) (flagOp cy) x y; binOp op t x y)
  | .un op, [x] => pureRun P (Op.unary op x)
  | .conv s d, [x] => pureRun P (convert s d x)
  | .index t, [x, y] => pureRun P (Instr.index t x y)
  | .indexAddr t, [x, y] => pureRun P (Instr.indexAt t x y)
  | .slc t lo hi, x :: l => match lo, hi, l with
    | false, false, [] => pureRun P (Instr.sliceAt t x none none none)
    | true, false, [a] => pureRun P (Instr.sliceAt t x (some a) none none)
    | false, true, [b] => pureRun P (Instr.sliceAt t x none (some b) none)
    | true, true, [a, b] => pureRun P (Instr.sliceAt t x (some a) (some b) none)
    | _, _, _ => none
  | .bi b types t consts, l => match pureRun P (builtin b types.toArray t consts.toArray l.toArray) with
    | some (.value v) => some v
    | _ => none
  | .fieldAddr t f, [x] => pureRun P (Instr.fieldAt t x f)
  | .field t f, [x] => pureRun P (Instr.field t x f)
  | .ext i, [x] => pureRun P (Instr.extract x i)
  | .row g, l => match pureRun P (callFunc g l.toArray) with
    | some (.value v) => some v
    | _ => none
  | .pick, [.bool c, x, y] => some (bif c then x else y)
  | _, _ => none

/-- What binds variables. -/
inductive Pr where
  | pure (f : PF) (args : List SV)
  | llen (x : Ex)
  | row (n : Nat) (x : Ex) (i : SV)
  | sub (x : Ex) (lo hi : Option SV)
  | cat (x y : Ex)
  | catS (x : Ex) (a : SV)
  | call (g : Nat) (args : List Ex)
  | toStr (x : Ex)
  | toBytes (a : SV)
  | fail
/-- Whole numbers, as places. -/
def natOf : Value → Option Nat
  | .int _ (.ofNat n) => some n
  | _ => none
def SV.nat (ρ : List D) (a : SV) : Option Nat := (a.val ρ).bind natOf
def optNat (ρ : List D) (d : Nat) : Option SV → Option Nat
  | none => some d
  | some a => a.nat ρ
def bytesOf : List (List D) → Option (List Int)
  | [] => some []
  | [.v (.int .u8 n)] :: l => (bytesOf l).map fun r => n :: r
  | _ => none
/-- No slice is longer. -/
def mostRows : Nat := 1000000
def Pr.den (P : Program) (orc : Nat → List D → Option (List D)) (ρ : List D) : Pr → Option (List D)
  | .pure f args => (valL ρ args).bind fun vs => (f.run P vs).bind fun v => bif v.oneCell' then some [.v v] else none
  | .llen x => match x.den ρ with
    | some (.l rows) => some [.v (goInt rows.length)]
    | _ => none
  | .row n x i => match x.den ρ, i.nat ρ with
    | some (.l rows), some j => (rows[j]?).bind fun r => bif Nat.beq r.length n then some r else none
    | _, _ => none
  | .sub x lo hi => match x.den ρ with
    | some (.l rows) => (optNat ρ 0 lo).bind fun l => (optNat ρ rows.length hi).bind fun h => bif Nat.ble l h && Nat.ble h rows.length then some [.l ((rows.take h).drop l)] else none
    | _ => none
  | .cat x y => match x.den ρ, y.den ρ with
    | some (.l a), some (.l b) => bif Nat.ble (a.length + b.length) mostRows then some [.l (a ++ b)] else none
    | _, _ => none
  | .catS x y => match x.den ρ, y.val ρ with
    | some (.l a), some (.string s) => bif Nat.ble (a.length + s.data.toList.length) mostRows then some [.l (a ++ s.data.toList.map fun b => [.v (.int .u8 b.toNat)])] else none
    | _, _ => none
  | .call g args => (denRow ρ args).bind fun ds => orc g ds
  | .toStr x => match x.den ρ with
    | some (.l rows) => (bytesOf rows).map fun ns => [.v (.string ⟨(ns.map fun n => UInt8.ofNat n.toNat).toArray⟩)]
    | _ => none
  | .toBytes a => match a.val ρ with
    | some (.string s) => some [.l (s.data.toList.map fun b => [.v (.int .u8 b.toNat)])]
    | _ => none
  | .fail => none
end Go.Proofs.YtfphabkdgdgnbaaGreatDoor.SE
