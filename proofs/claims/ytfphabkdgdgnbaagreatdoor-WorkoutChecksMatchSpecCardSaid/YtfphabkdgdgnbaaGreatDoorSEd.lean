import Derived.Test.YtfphabkdgdgnbaaGreatDoorSEc
set_option linter.unusedVariables false
set_option linter.unusedSimpArgs false
set_option linter.unusedSectionVars false
namespace Go.Proofs.YtfphabkdgdgnbaaGreatDoor.SE
open Go Go.RowKit Go.Proofs.YtfphabkdgdgnbaaGreatDoor.AE
variable [Tb]

/-! another naming of variables and objects -/
mutual
def Ex.inst (f : Nat → Option Ex) : Ex → Option Ex
  | .x i => f i
  | .v u => some (.v u)
  | .lit rows => (instRows f rows).map .lit
def instRows (f : Nat → Option Ex) : List (List Ex) → Option (List (List Ex))
  | [] => some []
  | r :: rs => (instRow f r).bind fun a => (instRows f rs).map fun b => a :: b
def instRow (f : Nat → Option Ex) : List Ex → Option (List Ex)
  | [] => some []
  | x :: xs => (Ex.inst f x).bind fun a => (instRow f xs).map fun b => a :: b
end
mutual
def SV.inst (f : Nat → Option Ex) (g : Nat → Option Nat) : SV → Option SV
  | .c v => some (.c v)
  | .s x => (x.inst f).map .s
  | .d e x => (x.inst f).map (.d e)
  | .own i => (g i).map .own
  | .slc i off sz n => (g i).map fun j => .slc j off sz n
  | .ptr i off => (g i).map fun j => .ptr j off
  | .sp cs => (instL f g cs).map .sp
  | .agg cs => (instL f g cs).map .agg
  | .tup cs => (instL f g cs).map .tup
  | .fn k a b => (instL f g a).bind fun a' => (instL f g b).map fun b' => .fn k a' b'
  | .ifc t x => (SV.inst f g x).map (.ifc t)
  | .unk => some .unk
def instL (f : Nat → Option Ex) (g : Nat → Option Nat) : List SV → Option (List SV)
  | [] => some []
  | a :: l => (SV.inst f g a).bind fun b => (instL f g l).map fun m => b :: m
end
def SObj.inst (f : Nat → Option Ex) (g : Nat → Option Nat) : SObj → Option SObj
  | .box cs e => (instL f g cs).map fun ds => .box ds e
  | .grow e x => (x.inst f).map (.grow e)
  | .dead => some .dead
def instH (f : Nat → Option Ex) (g : Nat → Option Nat) : SH → Option SH
  | [] => some []
  | o :: l => (o.inst f g).bind fun p => (instH f g l).map fun m => p :: m

section
variable {P : Program}
/-- What one context says, another says of the names there. -/
structure Ren (f : Nat → Option Ex) (g : Nat → Option Nat) (c c' : Cx) : Prop where
  x : ∀ i y d, f i = some y → c.ρ[i]? = some d → y.den c'.ρ = some d
  id : ∀ i j p, g i = some j → c.σ[i]? = some p → c'.σ[j]? = some p
  M : c.M.le c'.M
variable {f : Nat → Option Ex} {g : Nat → Option Nat} {c c' : Cx}
mutual
theorem den_inst (h : Ren f g c c') : ∀ (x : Ex) {y d}, x.inst f = some y → x.den c.ρ = some d → y.den c'.ρ = some d
  | .x i, y, d, hy, hd => h.x i y d hy hd
  | .v u, y, d, hy, hd => by simp only [Ex.inst, Option.some.injEq] at hy; subst hy; exact hd
  | .lit rows, y, d, hy, hd => by
    simp only [Ex.inst, Option.map_eq_some_iff] at hy
    obtain ⟨r, hr, rfl⟩ := hy
    simp only [Ex.den, Option.map_eq_some_iff] at hd ⊢
    obtain ⟨a, ha, rfl⟩ := hd
    exact ⟨a, denRows_inst h rows hr ha, rfl⟩
theorem denRows_inst (h : Ren f g c c') : ∀ (x : List (List Ex)) {y d}, instRows f x = some y → denRows c.ρ x = some d → denRows c'.ρ y = some d
  | [], y, d, hy, hd => by simp only [instRows, Option.some.injEq] at hy; subst hy; exact hd
  | r :: rs, y, d, hy, hd => by
    simp only [instRows, Option.map_eq_some_iff, Option.bind_eq_some_iff] at hy
    obtain ⟨a, ha, b, hb, rfl⟩ := hy
    simp only [denRows, Option.map_eq_some_iff, Option.bind_eq_some_iff] at hd ⊢
    obtain ⟨u, hu, v, hv, rfl⟩ := hd
    exact ⟨u, denRow_inst h r ha hu, v, denRows_inst h rs hb hv, rfl⟩
theorem denRow_inst (h : Ren f g c c') : ∀ (x : List Ex) {y d}, instRow f x = some y → denRow c.ρ x = some d → denRow c'.ρ y = some d
  | [], y, d, hy, hd => by simp only [instRow, Option.some.injEq] at hy; subst hy; exact hd
  | r :: rs, y, d, hy, hd => by
    simp only [instRow, Option.map_eq_some_iff, Option.bind_eq_some_iff] at hy
    obtain ⟨a, ha, b, hb, rfl⟩ := hy
    simp only [denRow, Option.map_eq_some_iff, Option.bind_eq_some_iff] at hd ⊢
    obtain ⟨u, hu, v, hv, rfl⟩ := hd
    exact ⟨u, den_inst h r ha hu, v, denRow_inst h rs hb hv, rfl⟩
end
mutual
theorem R_inst (h : Ren f g c c') : ∀ (a : SV) {b : SV} {v : Value}, a.inst f g = some b → a.R P c v → b.R P c' v
  | .c x, b, v, hb, r => by simp only [SV.inst, Option.some.injEq] at hb; subst hb; exact r
  | .s x, b, v, hb, r => by
    simp only [SV.inst, Option.map_eq_some_iff] at hb
    obtain ⟨y, hy, rfl⟩ := hb
    exact ⟨den_inst h x hy r.1, r.2⟩
  | .d e x, b, v, hb, r => by
    simp only [SV.inst, Option.map_eq_some_iff] at hb
    obtain ⟨y, hy, rfl⟩ := hb
    simp only [SV.R] at r ⊢
    obtain ⟨d, h1, h2⟩ := r; exact ⟨d, den_inst h x hy h1, Rd_mono h.M d h2⟩
  | .own id, b, v, hb, r => by
    simp only [SV.inst, Option.map_eq_some_iff] at hb
    obtain ⟨y, hy, rfl⟩ := hb
    simp only [SV.R] at r ⊢
    obtain ⟨p, h1, h2⟩ := r; exact ⟨p, h.id _ _ _ hy h1, h2⟩
  | .slc id off size len, b, v, hb, r => by
    simp only [SV.inst, Option.map_eq_some_iff] at hb
    obtain ⟨y, hy, rfl⟩ := hb
    simp only [SV.R] at r ⊢
    obtain ⟨p, b, cap, h1, h2⟩ := r; exact ⟨p, b, cap, h.id _ _ _ hy h1, h2⟩
  | .ptr id off, b, v, hb, r => by
    simp only [SV.inst, Option.map_eq_some_iff] at hb
    obtain ⟨y, hy, rfl⟩ := hb
    simp only [SV.R] at r ⊢
    obtain ⟨p, b, h1, h2⟩ := r; exact ⟨p, b, h.id _ _ _ hy h1, h2⟩
  | .sp cs, b, v, hb, r => by
    simp only [SV.inst, Option.map_eq_some_iff] at hb
    obtain ⟨y, hy, rfl⟩ := hb
    simp only [SV.R] at r ⊢
    obtain ⟨b, o, h1, h2⟩ := r; exact ⟨b, o, h1, RMem_inst h cs hy h2⟩
  | .agg cs, b, v, hb, r => by
    simp only [SV.inst, Option.map_eq_some_iff] at hb
    obtain ⟨y, hy, rfl⟩ := hb
    simp only [SV.R] at r ⊢
    obtain ⟨l, h1, h2⟩ := r; exact ⟨l, RL_inst h cs hy h1, h2⟩
  | .tup cs, b, v, hb, r => by
    simp only [SV.inst, Option.map_eq_some_iff] at hb
    obtain ⟨y, hy, rfl⟩ := hb
    simp only [SV.R] at r ⊢
    obtain ⟨l, h1, h2⟩ := r; exact ⟨l, RL_inst h cs hy h1, h2⟩
  | .fn k x y, b, v, hb, r => by
    simp only [SV.inst, Option.map_eq_some_iff, Option.bind_eq_some_iff] at hb
    obtain ⟨x', hx, y', hy, rfl⟩ := hb
    simp only [SV.R] at r ⊢
    obtain ⟨l, m, h1, h2, h3⟩ := r; exact ⟨l, m, RL_inst h x hx h1, RL_inst h y hy h2, h3⟩
  | .ifc t x, b, v, hb, r => by
    simp only [SV.inst, Option.map_eq_some_iff] at hb
    obtain ⟨y, hy, rfl⟩ := hb
    simp only [SV.R] at r ⊢
    obtain ⟨u, h1, h2⟩ := r; exact ⟨u, R_inst h x hy h1, h2⟩
  | .unk, b, v, hb, r => by simp only [SV.inst, Option.some.injEq] at hb; subst hb; exact r
theorem RL_inst (h : Ren f g c c') : ∀ (as : List SV) {bs : List SV} {l : List Value}, instL f g as = some bs → RL P c as l → RL P c' bs l
  | [], bs, l, hb, r => by simp only [instL, Option.some.injEq] at hb; subst hb; exact r
  | a :: as, bs, l, hb, r => by
    simp only [instL, Option.map_eq_some_iff, Option.bind_eq_some_iff] at hb
    obtain ⟨x', hx, y', hy, rfl⟩ := hb
    simp only [RL] at r ⊢
    obtain ⟨v, vs, h1, h2, h3⟩ := r; exact ⟨v, vs, h1, R_inst h a hx h2, RL_inst h as hy h3⟩
theorem RMem_inst (h : Ren f g c c') : ∀ (as : List SV) {bs : List SV} {b o : Nat}, instL f g as = some bs → RMem P c as b o → RMem P c' bs b o
  | [], bs, b, o, hb, r => by simp only [instL, Option.some.injEq] at hb; subst hb; exact r
  | a :: as, bs, b, o, hb, r => by
    simp only [instL, Option.map_eq_some_iff, Option.bind_eq_some_iff] at hb
    obtain ⟨x', hx, y', hy, rfl⟩ := hb
    simp only [RMem] at r ⊢
    obtain ⟨⟨u, h1, h2⟩, h3⟩ := r; exact ⟨⟨u, h.M _ _ _ h1, R_inst h a hx h2⟩, RMem_inst h as hy h3⟩
end
/-- And back. -/
structure Ner (f : Nat → Option Ex) (g : Nat → Option Nat) (c c' : Cx) : Prop where
  x : ∀ i y d, f i = some y → y.den c.ρ = some d → c'.ρ[i]? = some d
  id : ∀ i j p, g i = some j → c.σ[j]? = some p → c'.σ[i]? = some p
  M : c.M.le c'.M
mutual
theorem den_tsni (h : Ner f g c c') : ∀ (x : Ex) {y d}, x.inst f = some y → y.den c.ρ = some d → x.den c'.ρ = some d
  | .x i, y, d, hy, hd => h.x i y d hy hd
  | .v u, y, d, hy, hd => by simp only [Ex.inst, Option.some.injEq] at hy; subst hy; exact hd
  | .lit rows, y, d, hy, hd => by
    simp only [Ex.inst, Option.map_eq_some_iff] at hy
    obtain ⟨r, hr, rfl⟩ := hy
    simp only [Ex.den, Option.map_eq_some_iff] at hd ⊢
    obtain ⟨a, ha, rfl⟩ := hd
    exact ⟨a, denRows_tsni h rows hr ha, rfl⟩
theorem denRows_tsni (h : Ner f g c c') : ∀ (x : List (List Ex)) {y d}, instRows f x = some y → denRows c.ρ y = some d → denRows c'.ρ x = some d
  | [], y, d, hy, hd => by simp only [instRows, Option.some.injEq] at hy; subst hy; exact hd
  | r :: rs, y, d, hy, hd => by
    simp only [instRows, Option.map_eq_some_iff, Option.bind_eq_some_iff] at hy
    obtain ⟨a, ha, b, hb, rfl⟩ := hy
    simp only [denRows, Option.map_eq_some_iff, Option.bind_eq_some_iff] at hd ⊢
    obtain ⟨u, hu, v, hv, rfl⟩ := hd
    exact ⟨u, denRow_tsni h r ha hu, v, denRows_tsni h rs hb hv, rfl⟩
theorem denRow_tsni (h : Ner f g c c') : ∀ (x : List Ex) {y d}, instRow f x = some y → denRow c.ρ y = some d → denRow c'.ρ x = some d
  | [], y, d, hy, hd => by simp only [instRow, Option.some.injEq] at hy; subst hy; exact hd
  | r :: rs, y, d, hy, hd => by
    simp only [instRow, Option.map_eq_some_iff, Option.bind_eq_some_iff] at hy
    obtain ⟨a, ha, b, hb, rfl⟩ := hy
    simp only [denRow, Option.map_eq_some_iff, Option.bind_eq_some_iff] at hd ⊢
    obtain ⟨u, hu, v, hv, rfl⟩ := hd
    exact ⟨u, den_tsni h r ha hu, v, denRow_tsni h rs hb hv, rfl⟩
end
end
/-! equal expressions -/
mutual
def eqEx : Ex → Ex → Bool
  | .x i, .x j => Nat.beq i j
  | .v u, .v v => eqV u v
  | .lit r, .lit s => eqRows r s
  | _, _ => false
def eqRows : List (List Ex) → List (List Ex) → Bool
  | [], [] => true
  | a :: l, b :: m => eqRow a b && eqRows l m
  | _, _ => false
def eqRow : List Ex → List Ex → Bool
  | [], [] => true
  | a :: l, b :: m => eqEx a b && eqRow l m
  | _, _ => false
end
mutual
theorem eqEx_ok : ∀ {a b : Ex}, eqEx a b = true → a = b
  | .x i, .x j, h => by rw [Nat.eq_of_beq_eq_true h]
  | .v u, .v v, h => by rw [eqV_ok h]
  | .lit r, .lit s, h => by rw [eqRows_ok h]
  | .x _, .v _, h => by simp [eqEx] at h
  | .x _, .lit _, h => by simp [eqEx] at h
  | .v _, .x _, h => by simp [eqEx] at h
  | .v _, .lit _, h => by simp [eqEx] at h
  | .lit _, .x _, h => by simp [eqEx] at h
  | .lit _, .v _, h => by simp [eqEx] at h
theorem eqRows_ok : ∀ {a b : List (List Ex)}, eqRows a b = true → a = b
  | [], [], _ => rfl
  | a :: l, b :: m, h => by simp only [eqRows, Bool.and_eq_true] at h; rw [eqRow_ok h.1, eqRows_ok h.2]
  | [], _ :: _, h => by simp [eqRows] at h
  | _ :: _, [], h => by simp [eqRows] at h
theorem eqRow_ok : ∀ {a b : List Ex}, eqRow a b = true → a = b
  | [], [], _ => rfl
  | a :: l, b :: m, h => by simp only [eqRow, Bool.and_eq_true] at h; rw [eqEx_ok h.1, eqRow_ok h.2]
  | [], _ :: _, h => by simp [eqRow] at h
  | _ :: _, [], h => by simp [eqRow] at h
end
def eqOEx : Option Ex → Ex → Bool
  | some a, b => eqEx a b
  | none, _ => false
theorem eqOEx_ok {a : Option Ex} {b : Ex} (h : eqOEx a b = true) : a = some b := by
  cases a with
  | none => cases h
  | some x => rw [eqEx_ok h]

/-! does a value fit a pattern? ι: where the pattern's objects are (none: nowhere, a nil slice) -/
def isIdx (ι : List (Option Nat)) (i j : Nat) : Bool :=
  match ι[i]? with
  | some (some k) => Nat.beq k j
  | _ => false
def isNone (ι : List (Option Nat)) (i : Nat) : Bool :=
  match ι[i]? with
  | some none => true
  | _ => false
theorem isIdx_ok {ι : List (Option Nat)} {i j : Nat} (h : isIdx ι i j = true) : ι[i]? = some (some j) := by
  unfold isIdx at h
  split at h
  · rename_i k e; rw [e, Nat.eq_of_beq_eq_true h]
  · cases h
theorem isNone_ok {ι : List (Option Nat)} {i : Nat} (h : isNone ι i = true) : ι[i]? = some none := by
  unfold isNone at h
  split at h
  · assumption
  · cases h
def isNil : Value → Bool
  | .slice none 0 0 => true
  | _ => false
def fitD (P : Program) (f : Nat → Option Ex) (H : SH) (e : TypeId) (x : Ex) (a : SV) : Bool :=
  match a with
  | .c u => isNil u && eqOEx (x.inst f) (.lit []) && (layE P e).isSome
  | a => match asData H a with
    | some (e', y) => Nat.beq e' e && eqOEx (x.inst f) y
    | none => false
mutual
def fitV (P : Program) (f : Nat → Option Ex) (ι : List (Option Nat)) (H : SH) : SV → SV → Bool
  | .unk, _ => true
  | .s x, .s y => eqOEx (x.inst f) y
  | .s x, .c u => eqOEx (x.inst f) (.v u) && u.oneCell'
  | .d e x, a => fitD P f H e x a
  | .own i, .own j => isIdx ι i j
  | .own i, .c u => isNil u && isNone ι i
  | .slc i o s n, .slc j o' s' n' => isIdx ι i j && Nat.beq o o' && Nat.beq s s' && Nat.beq n n'
  | .ptr i o, .ptr j o' => isIdx ι i j && Nat.beq o o'
  | .sp cs, .sp ds => fitL P f ι H cs ds
  | .agg cs, .agg ds => fitL P f ι H cs ds
  | .agg cs, .c (.agg vs) => fitL P f ι H cs (vs.toList.map .c)
  | .tup cs, .tup ds => fitL P f ι H cs ds
  | .tup cs, .c (.tuple vs) => fitL P f ι H cs (vs.toList.map .c)
  | .fn k a b, .fn k' a' b' => eqFn k k' && fitL P f ι H a a' && fitL P f ι H b b'
  | .fn k a b, .c (.func k' a' b') => eqFn k k' && fitL P f ι H a (a'.toList.map .c) && fitL P f ι H b (b'.toList.map .c)
  | .ifc t x, .ifc t' y => Nat.beq t t' && fitV P f ι H x y
  | .c u, .c v => eqV u v
  | _, _ => false
def fitL (P : Program) (f : Nat → Option Ex) (ι : List (Option Nat)) (H : SH) : List SV → List SV → Bool
  | [], [] => true
  | a :: l, b :: m => fitV P f ι H a b && fitL P f ι H l m
  | _, _ => false
end
theorem isNil_ok {u : Value} (h : isNil u = true) : u = .slice none 0 0 := by
  unfold isNil at h
  split at h
  · rfl
  · cases h
structure Fit (f : Nat → Option Ex) (ι : List (Option Nat)) (c c' : Cx) : Prop where
  x : ∀ i y d, f i = some y → y.den c.ρ = some d → c'.ρ[i]? = some d
  id : ∀ (i j : Nat) (p : Pl), ι[i]? = some (some j) → c.σ[j]? = some p → c'.σ[i]? = some p
  nil : ∀ i : Nat, ι[i]? = some none → c'.σ[i]? = some ⟨none, .slice none 0 0⟩
  M : c.M.le c'.M
section
variable {P : Program} {M0 : Mem} {w0 : World} {S : Nat → Prop} {H : SH} {w : World} {f : Nat → Option Ex} {ι : List (Option Nat)} {c c' : Cx}
theorem Fit.ner (h : Fit f ι c c') : Ner f (fun _ => none) c c' := ⟨h.x, fun _ _ _ e => (by cases e), h.M⟩
theorem fit_den (h : Fit f ι c c') {x y : Ex} {d : D} (he : eqOEx (x.inst f) y = true) (hd : y.den c.ρ = some d) : x.den c'.ρ = some d :=
  den_tsni h.ner x (eqOEx_ok he) hd
mutual
theorem fitV_ok (hW : WR P M0 w0 S c H w) (h : Fit f ι c c') : ∀ (t a : SV) {v : Value}, fitV P f ι H t a = true → a.R P c v → t.R P c' v
  | .unk, _, v, _, _ => trivial
  | .s x, a, v, ht, r => by
    cases a with
    | s y => simp only [fitV] at ht; exact ⟨fit_den h ht r.1, r.2⟩
    | c u =>
      simp only [fitV, Bool.and_eq_true] at ht
      simp only [SV.R] at r; subst r
      exact ⟨fit_den h ht.1 rfl, ht.2⟩
    | _ => simp [fitV] at ht
  | .d e x, a, v, ht, r => by
    simp only [fitV] at ht
    unfold fitD at ht
    split at ht
    · rename_i u
      simp only [Bool.and_eq_true] at ht
      simp only [SV.R] at r; subst r
      have hn := isNil_ok ht.1.1
      subst hn
      obtain ⟨lts, hl⟩ := Option.isSome_iff_exists.1 ht.2
      exact ⟨.l [], fit_den h ht.1.2 rfl, e, lts, none, 0, 0, rfl, hl, rfl, rfl, Nat.le_refl _, fun hne => absurd rfl hne⟩
    · split at ht
      · rename_i e' y hd
        simp only [Bool.and_eq_true] at ht
        obtain ⟨d, h1, h2⟩ := asData_ok hW hd r
        have he := Nat.eq_of_beq_eq_true ht.1
        subst he
        exact ⟨d, fit_den h ht.2 h1, Rd_mono h.M d h2⟩
      · cases ht
  | .own i, a, v, ht, r => by
    cases a with
    | own j =>
      simp only [fitV] at ht
      simp only [SV.R] at r ⊢
      obtain ⟨p, h1, h2⟩ := r
      exact ⟨p, h.id i j p (isIdx_ok ht) h1, h2⟩
    | c u =>
      simp only [fitV, Bool.and_eq_true] at ht
      simp only [SV.R] at r; subst r
      rw [isNil_ok ht.1]
      exact ⟨_, h.nil i (isNone_ok ht.2), rfl, rfl⟩
    | _ => simp [fitV] at ht
  | .slc i o s n, a, v, ht, r => by
    cases a with
    | slc j o' s' n' =>
      simp only [fitV, Bool.and_eq_true] at ht
      obtain ⟨⟨⟨h1, h2⟩, h3⟩, h4⟩ := ht
      have h2 := Nat.eq_of_beq_eq_true h2
      have h3 := Nat.eq_of_beq_eq_true h3
      have h4 := Nat.eq_of_beq_eq_true h4
      subst h2 h3 h4
      simp only [SV.R] at r ⊢
      obtain ⟨p, b, cap, g1, g2⟩ := r
      exact ⟨p, b, cap, h.id i j p (isIdx_ok h1) g1, g2⟩
    | _ => simp [fitV] at ht
  | .ptr i o, a, v, ht, r => by
    cases a with
    | ptr j o' =>
      simp only [fitV, Bool.and_eq_true] at ht
      have h2 := Nat.eq_of_beq_eq_true ht.2
      subst h2
      simp only [SV.R] at r ⊢
      obtain ⟨p, b, g1, g2⟩ := r
      exact ⟨p, b, h.id i j p (isIdx_ok ht.1) g1, g2⟩
    | _ => simp [fitV] at ht
  | .sp cs, a, v, ht, r => by
    cases a with
    | sp ds =>
      simp only [fitV] at ht
      simp only [SV.R] at r ⊢
      obtain ⟨b, o, g1, g2⟩ := r
      exact ⟨b, o, g1, fitM_ok hW h cs ds ht g2⟩
    | _ => simp [fitV] at ht
  | .agg cs, a, v, ht, r => by
    cases a with
    | agg ds =>
      simp only [fitV] at ht
      simp only [SV.R] at r ⊢
      obtain ⟨l, g1, g2⟩ := r
      exact ⟨l, fitL_ok hW h cs ds ht g1, g2⟩
    | c u =>
      cases u with
      | agg vs =>
        simp only [fitV] at ht
        simp only [SV.R] at r; subst r
        exact ⟨vs.toList, fitL_ok hW h cs _ ht (RL_c _), by simp⟩
      | _ => simp [fitV] at ht
    | _ => simp [fitV] at ht
  | .tup cs, a, v, ht, r => by
    cases a with
    | tup ds =>
      simp only [fitV] at ht
      simp only [SV.R] at r ⊢
      obtain ⟨l, g1, g2⟩ := r
      exact ⟨l, fitL_ok hW h cs ds ht g1, g2⟩
    | c u =>
      cases u with
      | tuple vs =>
        simp only [fitV] at ht
        simp only [SV.R] at r; subst r
        exact ⟨vs.toList, fitL_ok hW h cs _ ht (RL_c _), by simp⟩
      | _ => simp [fitV] at ht
    | _ => simp [fitV] at ht
  | .fn k x y, a, v, ht, r => by
    cases a with
    | fn k' x' y' =>
      simp only [fitV, Bool.and_eq_true] at ht
      have hk := eqFn_ok ht.1.1
      subst hk
      simp only [SV.R] at r ⊢
      obtain ⟨l, m, g1, g2, g3⟩ := r
      exact ⟨l, m, fitL_ok hW h x x' ht.1.2 g1, fitL_ok hW h y y' ht.2 g2, g3⟩
    | c u =>
      cases u with
      | func k' x' y' =>
        simp only [fitV, Bool.and_eq_true] at ht
        have hk := eqFn_ok ht.1.1
        subst hk
        simp only [SV.R] at r; subst r
        exact ⟨x'.toList, y'.toList, fitL_ok hW h x _ ht.1.2 (RL_c _), fitL_ok hW h y _ ht.2 (RL_c _), by simp⟩
      | _ => simp [fitV] at ht
    | _ => simp [fitV] at ht
  | .ifc t x, a, v, ht, r => by
    cases a with
    | ifc t' y =>
      simp only [fitV, Bool.and_eq_true] at ht
      have hk := Nat.eq_of_beq_eq_true ht.1
      subst hk
      simp only [SV.R] at r ⊢
      obtain ⟨u, g1, g2⟩ := r
      exact ⟨u, fitV_ok hW h x y ht.2 g1, g2⟩
    | _ => simp [fitV] at ht
  | .c u, a, v, ht, r => by
    cases a with
    | c u' => simp only [fitV] at ht; have := eqV_ok ht; subst this; exact r
    | _ => simp [fitV] at ht
theorem fitL_ok (hW : WR P M0 w0 S c H w) (h : Fit f ι c c') : ∀ (ts as : List SV) {l : List Value}, fitL P f ι H ts as = true → RL P c as l → RL P c' ts l
  | [], [], l, _, r => r
  | t :: ts, a :: as, l, ht, r => by
    simp only [fitL, Bool.and_eq_true] at ht
    simp only [RL] at r ⊢
    obtain ⟨v, vs, g1, g2, g3⟩ := r
    exact ⟨v, vs, g1, fitV_ok hW h t a ht.1 g2, fitL_ok hW h ts as ht.2 g3⟩
  | [], _ :: _, l, ht, r => by simp [fitL] at ht
  | _ :: _, [], l, ht, r => by simp [fitL] at ht
theorem fitM_ok (hW : WR P M0 w0 S c H w) (h : Fit f ι c c') : ∀ (ts as : List SV) {b o : Nat}, fitL P f ι H ts as = true → RMem P c as b o → RMem P c' ts b o
  | [], [], b, o, _, r => trivial
  | t :: ts, a :: as, b, o, ht, r => by
    simp only [fitL, Bool.and_eq_true] at ht
    simp only [RMem] at r ⊢
    obtain ⟨⟨u, g1, g2⟩, g3⟩ := r
    exact ⟨⟨u, h.M _ _ _ g1, fitV_ok hW h t a ht.1 g2⟩, fitM_ok hW h ts as ht.2 g3⟩
  | [], _ :: _, b, o, ht, r => by simp [fitL] at ht
  | _ :: _, [], b, o, ht, r => by simp [fitL] at ht
end
end
/-! objects -/
def fitO (P : Program) (f : Nat → Option Ex) (ι : List (Option Nat)) (H : SH) : SObj → Option Nat → Bool
  | .dead, _ => true
  | .box cs e, some j => match H[j]? with
    | some (.box ds e') => Nat.beq e e' && fitL P f ι H cs ds
    | _ => false
  | .grow e x, some j => match H[j]? with
    | some (.grow e' y) => Nat.beq e e' && eqOEx (x.inst f) y
    | _ => false
  | .grow e x, none => eqOEx (x.inst f) (.lit []) && (layE P e).isSome
  | .box _ _, none => false
def fitH (P : Program) (f : Nat → Option Ex) (ι : List (Option Nat)) (H : SH) : SH → List (Option Nat) → Bool
  | [], [] => true
  | o :: l, i :: m => fitO P f ι H o i && fitH P f ι H l m
  | _, _ => false
theorem fitH_get {P : Program} {f : Nat → Option Ex} {ι : List (Option Nat)} {H : SH} : ∀ {l : SH} {m : List (Option Nat)}, fitH P f ι H l m = true → l.length = m.length ∧ ∀ (i : Nat) (o : SObj), l[i]? = some o → ∃ k, m[i]? = some k ∧ fitO P f ι H o k = true
  | [], [], _ => ⟨rfl, fun i o h => by simp at h⟩
  | o :: l, k :: m, h => by
    simp only [fitH, Bool.and_eq_true] at h
    obtain ⟨h1, h2⟩ := fitH_get h.2
    refine ⟨by simp [h1], fun i o' ho => ?_⟩
    cases i with
    | zero => simp at ho; subst ho; exact ⟨k, rfl, h.1⟩
    | succ i => simpa using h2 i o' (by simpa using ho)
  | [], _ :: _, h => by simp [fitH] at h
  | _ :: _, [], h => by simp [fitH] at h
/-- No object twice. -/
def nodupN : List Nat → Bool
  | [] => true
  | a :: l => !(l.any (Nat.beq a)) && nodupN l
def usedN : List (Option Nat) → List Nat
  | [] => []
  | some j :: l => j :: usedN l
  | none :: l => usedN l
theorem nodup_ok : ∀ {ι : List (Option Nat)}, nodupN (usedN ι) = true → ∀ (i j k : Nat), ι[i]? = some (some k) → ι[j]? = some (some k) → i = j
  | [], _, i, j, k, h, _ => by simp at h
  | none :: l, hn, i, j, k, h1, h2 => by
    cases i with
    | zero => simp at h1
    | succ i => cases j with
      | zero => simp at h2
      | succ j => rw [nodup_ok (ι := l) hn i j k (by simpa using h1) (by simpa using h2)]
  | some a :: l, hn, i, j, k, h1, h2 => by
    simp only [usedN, nodupN, Bool.and_eq_true, Bool.not_eq_true'] at hn
    have mem : ∀ (m : List (Option Nat)) (q : Nat), m[q]? = some (some k) → k ∈ usedN m := by
      intro m
      induction m with
      | nil => intro q h; simp at h
      | cons b m ih =>
        intro q h
        cases q with
        | zero => simp at h; subst h; simp [usedN]
        | succ q => have := ih q (by simpa using h); cases b <;> simp [usedN, this]
    have no : a = k → ∀ q, l[q]? = some (some k) → False := fun e q hq => by
      subst e
      have hm := mem l q hq
      have : (usedN l).any (Nat.beq a) = true := List.any_eq_true.2 ⟨a, hm, Nat.beq_refl a⟩
      rw [hn.1] at this; cases this
    cases i with
    | zero => cases j with
      | zero => rfl
      | succ j => simp at h1; exact (no h1 j (by simpa using h2)).elim
    | succ i => cases j with
      | zero => simp at h2; exact (no h2 i (by simpa using h1)).elim
      | succ j => rw [nodup_ok (ι := l) hn.2 i j k (by simpa using h1) (by simpa using h2)]
section
variable {P : Program} {M0 : Mem} {w0 : World} {S : Nat → Prop} {H : SH} {w : World} {f : Nat → Option Ex} {ι : List (Option Nat)} {c c' : Cx}
/-- The objects of a pattern. -/
theorem fitO_ok (hW : WR P M0 w0 S c H w) (h : Fit f ι c c') (hM : c'.M = c.M) {w1 : World} {S1 : Nat → Prop} {o : SObj} {i : Nat} {k : Option Nat} {p : Pl} (hk : ι[i]? = some k) (hf : fitO P f ι H o k = true) (hp : c'.σ[i]? = some p)
    (hS : ∀ b, p.blk = some b → o.live = true → S1 b ∨ w1.heap.size ≤ b) (hσ : ∀ j, k = some j → ∃ q, c.σ[j]? = some q) : ObjR P w1 S1 c' w p o := by
  unfold fitO at hf
  split at hf
  · trivial
  · rename_i cs e j
    split at hf
    · rename_i ds e' ho
      simp only [Bool.and_eq_true] at hf
      have he := Nat.eq_of_beq_eq_true hf.1
      subst he
      obtain ⟨q, hq⟩ := hσ j rfl
      have := h.id i j q hk hq
      rw [hp] at this; cases this
      obtain ⟨b, cc, h1, h2, h3, h4, h5⟩ := hW.obj j _ p ho hq
      exact ⟨b, cc, h1, hS b h1 rfl, h3, fitL_ok hW h cs ds hf.2 h4, fun o => by rw [hM]; exact h5 o⟩
    · cases hf
  · rename_i e x j
    split at hf
    · rename_i e' y ho
      simp only [Bool.and_eq_true] at hf
      have he := Nat.eq_of_beq_eq_true hf.1
      subst he
      obtain ⟨q, hq⟩ := hσ j rfl
      have := h.id i j q hk hq
      rw [hp] at this; cases this
      obtain ⟨rows, lts, h1, h2, h3⟩ := hW.obj j _ p ho hq
      exact ⟨rows, lts, fit_den h hf.2 h1, h2, h3.imp id fun ⟨b, cc, cap, et, a1, a2, a3, a4, a5, a6, a7, a8⟩ => ⟨b, cc, cap, et, a1, hS b a1 rfl, a3, a4, a5, a6, by rw [hM]; exact a7, fun o ho => by rw [hM]; exact a8 o ho⟩⟩
    · cases hf
  · rename_i e x
    simp only [Bool.and_eq_true] at hf
    obtain ⟨lts, hl⟩ := Option.isSome_iff_exists.1 hf.2
    have := h.nil i hk
    rw [hp] at this; cases this
    exact ⟨[], lts, fit_den h hf.1 rfl, hl, .inl ⟨rfl, rfl, rfl⟩⟩
  · cases hf
/-- Where a pattern's objects lie. -/
def pickPl (σ : List Pl) : List (Option Nat) → List Pl
  | [] => []
  | none :: l => ⟨none, .slice none 0 0⟩ :: pickPl σ l
  | some j :: l => (σ[j]?.getD ⟨none, undef⟩) :: pickPl σ l
theorem pickPl_len (σ : List Pl) : ∀ ι : List (Option Nat), (pickPl σ ι).length = ι.length
  | [] => rfl
  | none :: l => by simp [pickPl, pickPl_len σ l]
  | some j :: l => by simp [pickPl, pickPl_len σ l]
theorem pickPl_get (σ : List Pl) : ∀ (ι : List (Option Nat)) (i : Nat), (∀ j p, ι[i]? = some (some j) → σ[j]? = some p → (pickPl σ ι)[i]? = some p) ∧ (ι[i]? = some none → (pickPl σ ι)[i]? = some ⟨none, .slice none 0 0⟩)
  | [], i => ⟨fun j p h => by simp at h, fun h => by simp at h⟩
  | none :: l, 0 => ⟨fun j p h => by simp at h, fun _ => rfl⟩
  | some k :: l, 0 => ⟨fun j p h hp => by simp at h; subst h; simp [pickPl, hp], fun h => by simp at h⟩
  | none :: l, i + 1 => by simpa [pickPl] using pickPl_get σ l i
  | some k :: l, i + 1 => by simpa [pickPl] using pickPl_get σ l i
end
end Go.Proofs.YtfphabkdgdgnbaaGreatDoor.SE
set_option linter.unusedVariables false
set_option linter.unusedSimpArgs false
set_option linter.unusedSectionVars false
namespace Go.Proofs.YtfphabkdgdgnbaaGreatDoor.SE
open Go Go.RowKit Go.Proofs.YtfphabkdgdgnbaaGreatDoor.AE
variable [Tb]

/-- What is said of a function: called with such arguments, over such objects, it returns such a value and leaves such objects. -/
structure Sig where
  f : FuncId
  args : List SV
  Hi : SH
  ni : Nat
  res : SV
  Ho : SH
  no : Nat
def blkOf (σ : List Pl) : Nat → Prop := fun b => ∃ p ∈ σ, p.blk = some b
def SigOK (P : Program) (g : Sig) (m : List D → Option (List D)) : Prop :=
  ∀ (ρ : List D) (σ : List Pl) (M : Mem) (w : World) (vs : List Value) (outs : List D), ρ.length = g.ni → WR P M w (blkOf σ) ⟨ρ, σ, M⟩ g.Hi w → RL P ⟨ρ, σ, M⟩ g.args vs → m ρ = some outs → outs.length = g.no →
    Calls P g.f vs.toArray w fun e w' => ∃ σ' M' v, e = .returned v ∧ σ <+: σ' ∧ M.le M' ∧ WR P M w (blkOf σ) ⟨ρ ++ outs, σ', M'⟩ g.Ho w' ∧ g.res.R P ⟨ρ ++ outs, σ', M'⟩ v

/-! an inst by total functions always is -/
section
variable {f : Nat → Ex} {g : Nat → Nat}
mutual
theorem inst_some : ∀ x : Ex, ∃ y, x.inst (fun i => some (f i)) = some y
  | .x i => ⟨_, rfl⟩
  | .v u => ⟨_, rfl⟩
  | .lit rows => let ⟨r, hr⟩ := instRows_some rows; ⟨.lit r, by simp [Ex.inst, hr]⟩
theorem instRows_some : ∀ x : List (List Ex), ∃ y, instRows (fun i => some (f i)) x = some y
  | [] => ⟨_, rfl⟩
  | r :: rs => let ⟨a, ha⟩ := instRow_some r; let ⟨b, hb⟩ := instRows_some rs; ⟨a :: b, by simp [instRows, ha, hb]⟩
theorem instRow_some : ∀ x : List Ex, ∃ y, instRow (fun i => some (f i)) x = some y
  | [] => ⟨_, rfl⟩
  | r :: rs => let ⟨a, ha⟩ := inst_some r; let ⟨b, hb⟩ := instRow_some rs; ⟨a :: b, by simp [instRow, ha, hb]⟩
end
mutual
theorem instV_some : ∀ x : SV, ∃ y, x.inst (fun i => some (f i)) (fun i => some (g i)) = some y
  | .c v => ⟨_, rfl⟩
  | .s x => let ⟨r, hr⟩ := inst_some (f := f) x; ⟨.s r, by simp [SV.inst, hr]⟩
  | .d e x => let ⟨r, hr⟩ := inst_some (f := f) x; ⟨.d e r, by simp [SV.inst, hr]⟩
  | .own i => ⟨_, rfl⟩
  | .slc i o s n => ⟨_, rfl⟩
  | .ptr i o => ⟨_, rfl⟩
  | .sp cs => let ⟨r, hr⟩ := instL_some cs; ⟨.sp r, by simp [SV.inst, hr]⟩
  | .agg cs => let ⟨r, hr⟩ := instL_some cs; ⟨.agg r, by simp [SV.inst, hr]⟩
  | .tup cs => let ⟨r, hr⟩ := instL_some cs; ⟨.tup r, by simp [SV.inst, hr]⟩
  | .fn k a b => let ⟨r, hr⟩ := instL_some a; let ⟨q, hq⟩ := instL_some b; ⟨.fn k r q, by simp [SV.inst, hr, hq]⟩
  | .ifc t x => let ⟨r, hr⟩ := instV_some x; ⟨.ifc t r, by simp [SV.inst, hr]⟩
  | .unk => ⟨_, rfl⟩
theorem instL_some : ∀ x : List SV, ∃ y, instL (fun i => some (f i)) (fun i => some (g i)) x = some y
  | [] => ⟨_, rfl⟩
  | r :: rs => let ⟨a, ha⟩ := instV_some r; let ⟨b, hb⟩ := instL_some rs; ⟨a :: b, by simp [instL, ha, hb]⟩
end
theorem instO_some : ∀ x : SObj, ∃ y, x.inst (fun i => some (f i)) (fun i => some (g i)) = some y
  | .box cs e => let ⟨r, hr⟩ := instL_some (f := f) (g := g) cs; ⟨.box r e, by simp [SObj.inst, hr]⟩
  | .grow e x => let ⟨r, hr⟩ := inst_some (f := f) x; ⟨.grow e r, by simp [SObj.inst, hr]⟩
  | .dead => ⟨_, rfl⟩
end
def SV.ren (f : Nat → Ex) (g : Nat → Nat) (a : SV) : SV := (a.inst (fun i => some (f i)) (fun i => some (g i))).getD .unk
def SObj.ren (f : Nat → Ex) (g : Nat → Nat) (o : SObj) : SObj := (o.inst (fun i => some (f i)) (fun i => some (g i))).getD .dead
/-- Objects are laid in the places of others. -/
def setAll : SH → List Nat → List SObj → SH
  | H, j :: ι, o :: l => setAll (H.set j o) ι l
  | H, _, _ => H
theorem setAll_len : ∀ (H : SH) (ι : List Nat) (l : List SObj), (setAll H ι l).length = H.length
  | H, [], l => by cases l <;> rfl
  | H, j :: ι, [] => rfl
  | H, j :: ι, o :: l => by simp [setAll, setAll_len]
theorem setAll_out : ∀ (H : SH) (ι : List Nat) (l : List SObj) (j : Nat), j ∉ ι → (setAll H ι l)[j]? = H[j]?
  | H, [], l, j, _ => by cases l <;> rfl
  | H, k :: ι, [], j, _ => rfl
  | H, k :: ι, o :: l, j, h => by
    simp only [List.mem_cons, not_or] at h
    rw [setAll, setAll_out _ ι l j h.2, List.getElem?_set_ne (fun e => h.1 e.symm)]
theorem setAll_in : ∀ (H : SH) (ι : List Nat) (l : List SObj) (i j : Nat), ι.length ≤ l.length → nodupN ι = true → ι[i]? = some j → j < H.length → (setAll H ι l)[j]? = l[i]?
  | H, [], l, i, j, _, _, h, _ => by simp at h
  | H, k :: ι, [], i, j, hl, _, h, _ => by simp at hl
  | H, k :: ι, o :: l, i, j, hl, hn, h, hj => by
    simp only [nodupN, Bool.and_eq_true, Bool.not_eq_true'] at hn
    cases i with
    | zero =>
      simp at h; subst h
      have hk : k ∉ ι := fun hm => by
        have : ι.any (Nat.beq k) = true := List.any_eq_true.2 ⟨k, hm, Nat.beq_refl k⟩
        rw [hn.1] at this; cases this
      rw [setAll, setAll_out _ ι l k hk]
      simp [hj]
    | succ i =>
      rw [setAll, setAll_in _ ι l i j (by simpa using hl) hn.2 (by simpa using h) (by simpa using hj)]
      simp
theorem usedN_some : ∀ ι : List Nat, usedN (ι.map some) = ι
  | [] => rfl
  | a :: l => by simp [usedN, usedN_some l]

section
variable {P : Program} {orc : Nat → List D → Option (List D)} {M0 : Mem} {w0 : World} {S : Nat → Prop} {cx : Cx} {H : SH} {w : World}
theorem denRow_get {ρ : List D} : ∀ {β : List Ex} {ds : List D}, denRow ρ β = some ds → β.length = ds.length ∧ ∀ (i : Nat) (y : Ex), β[i]? = some y → ∃ d, y.den ρ = some d ∧ ds[i]? = some d
  | [], ds, h => by simp only [denRow, Option.some.injEq] at h; subst h; exact ⟨rfl, fun i y h => by simp at h⟩
  | x :: xs, ds, h => by
    simp only [denRow, Option.bind_eq_some_iff, Option.map_eq_some_iff] at h
    obtain ⟨a, ha, b, hb, rfl⟩ := h
    obtain ⟨h1, h2⟩ := denRow_get hb
    refine ⟨by simp [h1], fun i y hy => ?_⟩
    cases i with
    | zero => simp at hy; subst hy; exact ⟨a, ha, rfl⟩
    | succ i => simpa using h2 i y (by simpa using hy)
theorem objR_ren {f : Nat → Ex} {g : Nat → Nat} {c c' : Cx} {w1 : World} {S1 : Nat → Prop} (h : Ren (fun i => some (f i)) (fun i => some (g i)) c c') (hM : c'.M = c.M) {p : Pl} (hS : ∀ b, p.blk = some b → S1 b ∨ w1.heap.size ≤ b → S b ∨ w0.heap.size ≤ b) :
    ∀ {o : SObj}, ObjR P w1 S1 c w p o → ObjR P w0 S c' w p (o.ren f g)
  | .dead, _ => trivial
  | .box cs e, ⟨b, cc, h1, h2, h3, h4, h5⟩ => by
    obtain ⟨r, hr⟩ := instL_some (f := f) (g := g) cs
    have : (SObj.box cs e).ren f g = .box r e := by simp [SObj.ren, SObj.inst, hr]
    rw [this]
    exact ⟨b, cc, h1, hS b h1 h2, h3, RL_inst h cs hr h4, fun o => by rw [hM]; exact h5 o⟩
  | .grow e x, ⟨rows, lts, h1, h2, h3⟩ => by
    obtain ⟨r, hr⟩ := inst_some (f := f) x
    have : (SObj.grow e x).ren f g = .grow e r := by simp [SObj.ren, SObj.inst, hr]
    rw [this]
    exact ⟨rows, lts, den_inst h x hr h1, h2, h3.imp id fun ⟨b, cc, cap, et, a1, a2, a3, a4, a5, a6, a7, a8⟩ => ⟨b, cc, cap, et, a1, hS b a1 a2, a3, a4, a5, a6, by rw [hM]; exact a7, fun o ho => by rw [hM]; exact a8 o ho⟩⟩
theorem ren_live {f : Nat → Ex} {g : Nat → Nat} : ∀ {o : SObj}, (o.ren f g).live = true → o.live = true
  | .dead, h => h
  | .box .., _ => rfl
  | .grow .., _ => rfl

/-- The call of a function of which something is said. -/
def sigStep (P : Program) (g : Sig) (k : Nat) (β : List Ex) (ι : List Nat) (as : List SV) (H : SH) : Option AS' :=
  bif fitL P (β[·]?) (ι.map some) H g.args as && fitH P (β[·]?) (ι.map some) H g.Hi (ι.map some) && nodupN ι && Nat.beq β.length g.ni && g.Hi.all SObj.live && Nat.ble g.Hi.length g.Ho.length && ι.all (Nat.blt · H.length) then
    some (some (.call k β, g.no), ι, fun b =>
      let f : Nat → Ex := fun i => bif Nat.blt i g.ni then β.getD i default else .x (b + (i - g.ni))
      let r : Nat → Nat := fun i => bif Nat.blt i ι.length then ι.getD i 0 else H.length + (i - ι.length)
      (some (g.res.ren f r), setAll H ι ((g.Ho.take ι.length).map (·.ren f r)) ++ (g.Ho.drop ι.length).map (·.ren f r)))
  else none
theorem blt_lt {a b : Nat} : Nat.blt a b = decide (a < b) := by
  cases h : Nat.blt a b with
  | true => simp [of_blt h]
  | false =>
    rcases Nat.lt_or_ge a b with h' | h'
    · have : Nat.blt a b = true := Nat.ble_eq_true_of_le h'
      rw [h] at this; cases this
    · simp; omega
theorem sigStep_ok (h : WR P M0 w0 S cx H w) {g : Sig} {k : Nat} {β : List Ex} {ι : List Nat} {as : List SV} {vs : List Value} {st : AS'} {base : Nat} (hg : SigOK P g (orc k)) (has : RL P cx as vs) (hr : sigStep P g k β ι as H = some st) (hb : Bd P orc cx.ρ base st.1) :
    (st.2.2 base).1.isSome = true ∧ Calls P g.f vs.toArray w fun e w' => ∃ v, e = .returned v ∧ Acts P M0 w0 S cx H w st.2.1 (st.2.2 base).2 (st.2.2 base).1 v w' := by
  unfold sigStep at hr
  cases hc : (fitL P (β[·]?) (ι.map some) H g.args as && fitH P (β[·]?) (ι.map some) H g.Hi (ι.map some) && nodupN ι && Nat.beq β.length g.ni && g.Hi.all SObj.live && Nat.ble g.Hi.length g.Ho.length && ι.all (Nat.blt · H.length)) with
  | false => rw [hc] at hr; cases hr
  | true =>
    rw [hc] at hr
    simp only [cond_true, Option.some.injEq] at hr
    simp only [Bool.and_eq_true] at hc
    obtain ⟨⟨⟨⟨⟨⟨f1, f2⟩, f3⟩, f4⟩, f5⟩, f6⟩, f7⟩ := hc
    have f4 := Nat.eq_of_beq_eq_true f4
    have f6 := Nat.le_of_ble_eq_true f6
    obtain ⟨hHi, hfo⟩ := fitH_get f2
    simp only [List.length_map] at hHi
    subst hr
    refine ⟨rfl, ?_⟩
    obtain ⟨ds', b1, b2, b3⟩ := hb
    simp only [Pr.den, Option.bind_eq_some_iff] at b1
    obtain ⟨ds, hds, hout⟩ := b1
    obtain ⟨hβl, hβ⟩ := denRow_get hds
    have hnd := fun i j k => nodup_ok (ι := ι.map some) (by rw [usedN_some]; exact f3) i j k
    have hιlt : ∀ i j : Nat, ι[i]? = some j → j < H.length := fun i j hj => by
      have := List.all_eq_true.1 f7 j (List.mem_of_getElem? hj)
      exact of_blt this
    have hsome : ∀ i j : Nat, (ι.map some)[i]? = some (some j) ↔ ι[i]? = some j := fun i j => by
      simp
    let σ' := pickPl cx.σ (ι.map some)
    let c1 : Cx := ⟨ds, σ', cx.M⟩
    have hlenσ : σ'.length = ι.length := by simp [σ', pickPl_len]
    have hfit : Fit (β[·]?) (ι.map some) cx c1 := ⟨fun i y d hy hd => by
        obtain ⟨d', h1, h2⟩ := hβ i y hy
        rw [hd] at h1; cases h1; exact h2, fun i j p hj hp => (pickPl_get cx.σ _ i).1 j p hj hp, fun i hi => by simp at hi, Mem.le.rfl⟩
    have hpl : ∀ i j : Nat, ι[i]? = some j → ∃ p, cx.σ[j]? = some p ∧ σ'[i]? = some p := fun i j hj => by
      have hlt := hιlt i j hj
      have hp : cx.σ[j]? = some (cx.σ[j]'(by rw [h.len]; exact hlt)) := List.getElem?_eq_getElem _
      exact ⟨_, hp, hfit.id i j _ ((hsome i j).2 hj) hp⟩
    have hobj : ∀ (i : Nat) (o : SObj), g.Hi[i]? = some o → ∃ (j : Nat) (o' : SObj), ι[i]? = some j ∧ H[j]? = some o' ∧ o'.live = true ∧ fitO P (β[·]?) (ι.map some) H o (some j) = true := fun i o ho => by
      obtain ⟨kk, h1, h2⟩ := hfo i o ho
      simp only [List.getElem?_map, Option.map_eq_some_iff] at h1
      obtain ⟨j, hj, rfl⟩ := h1
      have hl := List.all_eq_true.1 f5 o (List.mem_of_getElem? ho)
      cases o with
      | dead => simp [SObj.live] at hl
      | box cs e =>
        have h2' := h2
        simp only [fitO] at h2
        split at h2
        · rename_i ds e' hH; exact ⟨j, _, hj, hH, rfl, h2'⟩
        · cases h2
      | grow e x =>
        have h2' := h2
        simp only [fitO] at h2
        split at h2
        · rename_i e' y hH; exact ⟨j, _, hj, hH, rfl, h2'⟩
        · cases h2
    have hblk : ∀ b, blkOf σ' b → ∃ (i j : Nat) (p : Pl) (o : SObj), ι[i]? = some j ∧ cx.σ[j]? = some p ∧ H[j]? = some o ∧ o.live = true ∧ p.blk = some b := by
      rintro b ⟨p, hp, hpb⟩
      obtain ⟨i, hi⟩ := List.mem_iff_getElem?.1 hp
      have hil : i < ι.length := by rw [← hlenσ]; exact get_lt hi
      have hj : ι[i]? = some ι[i] := List.getElem?_eq_getElem hil
      obtain ⟨p', hp', hpi⟩ := hpl i _ hj
      rw [hi] at hpi; cases hpi
      obtain ⟨j', o', g1, g2, g3, g4⟩ := hobj i g.Hi[i] (List.getElem?_eq_getElem (by omega))
      rw [hj] at g1; cases g1
      exact ⟨i, _, p, o', hj, hp', g2, g3, hpb⟩
    have hW1 : WR P cx.M w (blkOf σ') c1 g.Hi w := by
      refine ⟨Kp.rfl, h.mem, fun _ _ _ _ => rfl, by rw [hlenσ, hHi], fun i o p ho hp => ?_, fun i j o o' p q b ho ho' hp hq hl hl' hpb hqb => ?_, h.gl⟩
      · obtain ⟨j, o', g1, g2, g3, g4⟩ := hobj i o ho
        exact fitO_ok h hfit rfl ((hsome i j).2 g1) |> fun F => F g4 hp (fun b hb _ => .inl ⟨p, List.mem_of_getElem? hp, hb⟩) fun j' hj' => by cases hj'; obtain ⟨q, hq, _⟩ := hpl i j g1; exact ⟨q, hq⟩
      · obtain ⟨ji, oi, g1, g2, g3, g4⟩ := hobj i o ho
        obtain ⟨jj, oj, k1, k2, k3, k4⟩ := hobj j o' ho'
        obtain ⟨p', hp', hpi⟩ := hpl i ji g1
        obtain ⟨q', hq', hqj⟩ := hpl j jj k1
        have hp0 : σ'[i]? = some p := hp
        have hq0 : σ'[j]? = some q := hq
        rw [hp0] at hpi; cases hpi
        rw [hq0] at hqj; cases hqj
        have := h.inj ji jj oi oj p q b g2 k2 hp' hq' g3 k3 hpb hqb
        subst this
        exact hnd i j ji ((hsome i ji).2 g1) ((hsome j ji).2 k1)
    refine (hg ds σ' cx.M w vs ds' (by omega) hW1 (fitL_ok h hfit g.args as f1 has) hout b2).mono ?_
    rintro e w' ⟨σ2, M2, v, rfl, hσ2, hM2, hW2, hres⟩
    refine ⟨v, rfl, ?_⟩
    let f : Nat → Ex := fun i => bif Nat.blt i g.ni then β.getD i default else .x (base + (i - g.ni))
    let r : Nat → Nat := fun i => bif Nat.blt i ι.length then ι.getD i 0 else H.length + (i - ι.length)
    let cx2 : Cx := ⟨cx.ρ, cx.σ ++ σ2.drop ι.length, M2⟩
    have hle : cx.le cx2 := ⟨List.prefix_rfl, List.prefix_append _ _, hM2⟩
    have hlen2 : ι.length ≤ σ2.length := by
      obtain ⟨t, rfl⟩ := hσ2; simp [hlenσ]
    have rIn : ∀ i, i < ι.length → ∃ j, ι[i]? = some j ∧ r i = j := fun i hi => by
      have hj : ι[i]? = some ι[i] := List.getElem?_eq_getElem hi
      refine ⟨_, hj, ?_⟩
      simp only [r, blt_lt, hi, decide_true, cond_true, List.getD_eq_getElem?_getD, hj, Option.getD_some]
    have rOut : ∀ i, ¬ i < ι.length → r i = H.length + (i - ι.length) := fun i hi => by
      simp only [r, blt_lt, hi, decide_false, cond_false]
    have hren : Ren (fun i => some (f i)) (fun i => some (r i)) ⟨ds ++ ds', σ2, M2⟩ cx2 := by
      refine ⟨fun i y d hy hd => ?_, fun i j p hj hp => ?_, Mem.le.rfl⟩
      · simp only [Option.some.injEq] at hy; subst hy
        simp only at hd
        by_cases hi : i < g.ni
        · simp only [f, blt_lt, hi, decide_true, cond_true]
          have hiβ : i < β.length := by omega
          rw [List.getElem?_append_left (by omega)] at hd
          obtain ⟨d', h1, h2⟩ := hβ i _ (List.getElem?_eq_getElem hiβ)
          rw [hd] at h2; cases h2
          simpa [List.getD_eq_getElem?_getD, hiβ] using h1
        · simp only [f, blt_lt, hi, decide_false, cond_false, Ex.den]
          rw [List.getElem?_append_right (by omega)] at hd
          have := b3 _ d hd
          rw [← hβl, f4] at this; exact this
      · simp only [Option.some.injEq] at hj; subst hj
        simp only at hp
        by_cases hi : i < ι.length
        · obtain ⟨j, hj, e⟩ := rIn i hi
          rw [e]
          obtain ⟨p', hp', hpi⟩ := hpl i j hj
          have := pl_mono hσ2 hpi
          rw [hp] at this; cases this
          exact pl_mono hle.σ hp'
        · rw [rOut i hi]
          show (cx.σ ++ σ2.drop ι.length)[_]? = _
          rw [List.getElem?_append_right (by rw [h.len]; omega), h.len, List.getElem?_drop, ← hp]
          congr 1; omega
    have hS2 : ∀ b, blkOf σ' b ∨ w.heap.size ≤ b → S b ∨ w0.heap.size ≤ b := by
      rintro b (hb | hb)
      · obtain ⟨i, j, p, o, _, hp, ho, hl, hpb⟩ := hblk b hb
        exact ((h.obj j o p ho hp).base hl hpb).1
      · exact .inr (Nat.le_trans h.keep.size hb)
    let H2 : SH := setAll H ι ((g.Ho.take ι.length).map (·.ren f r)) ++ (g.Ho.drop ι.length).map (·.ren f r)
    have hHolen : ι.length ≤ g.Ho.length := by omega
    have hH2 : ∀ (j : Nat) (o : SObj), H2[j]? = some o → (j ∉ ι ∧ j < H.length ∧ H[j]? = some o) ∨ ∃ i o1, g.Ho[i]? = some o1 ∧ o = o1.ren f r ∧ r i = j := by
      intro j o ho
      rcases Nat.lt_or_ge j H.length with hj | hj
      · have ho' : (setAll H ι ((g.Ho.take ι.length).map (·.ren f r)))[j]? = some o := by
          rw [← ho]; show _ = (setAll _ _ _ ++ _)[j]?
          rw [List.getElem?_append_left (by rw [setAll_len]; exact hj)]
        by_cases hm : j ∈ ι
        · obtain ⟨i, hi⟩ := List.mem_iff_getElem?.1 hm
          have hil := get_lt hi
          rw [setAll_in H ι _ i j (by simp; omega) f3 hi hj] at ho'
          simp only [List.getElem?_map, List.getElem?_take, if_pos hil, Option.map_eq_some_iff] at ho'
          obtain ⟨o1, h1, h2⟩ := ho'
          obtain ⟨j', h3, h4⟩ := rIn i hil
          rw [hi] at h3; cases h3
          exact .inr ⟨i, o1, h1, h2.symm, h4⟩
        · rw [setAll_out _ _ _ _ hm] at ho'
          exact .inl ⟨hm, hj, ho'⟩
      · have ho' : ((g.Ho.drop ι.length).map (·.ren f r))[j - H.length]? = some o := by
          rw [← ho]; show _ = (setAll _ _ _ ++ _)[j]?
          rw [List.getElem?_append_right (by rw [setAll_len]; exact hj), setAll_len]
        simp only [List.getElem?_map, List.getElem?_drop, Option.map_eq_some_iff] at ho'
        obtain ⟨o1, h1, h2⟩ := ho'
        refine .inr ⟨_, o1, h1, h2.symm, ?_⟩
        rw [rOut _ (by omega)]; omega
    have untouched : ∀ (j : Nat) (o : SObj) (p : Pl) (b : Nat), j ∉ ι → H[j]? = some o → o.live = true → cx.σ[j]? = some p → p.blk = some b → ¬ blkOf σ' b ∧ b < w.heap.size := by
      intro j o p b hj ho hl hp hpb
      refine ⟨fun hb => ?_, blk_lt h ho hl hp hpb⟩
      obtain ⟨i, j', p', o', hi, hp', ho', hl', hpb'⟩ := hblk b hb
      have := h.inj j j' o o' p p' b ho ho' hp hp' hl hl' hpb hpb'
      subst this
      exact hj (List.mem_of_getElem? hi)
    have hgetσ : ∀ (i : Nat) (o1 : SObj) (q : Pl), g.Ho[i]? = some o1 → cx2.σ[r i]? = some q → σ2[i]? = some q := by
      intro i o1 q ho hq
      have hil : i < σ2.length := by
        have := hW2.len
        simp only at this
        rw [this]; exact get_lt ho
      have := hren.id i (r i) _ rfl (List.getElem?_eq_getElem hil)
      rw [hq] at this; cases this
      exact List.getElem?_eq_getElem hil
    have hWc : WR P M0 w0 S cx2 H2 w' := by
      refine ⟨h.keep.trans hW2.keep fun b hb hs => ?_, hW2.mem, fun b o hb hs => ?_, ?_, fun j o p ho hp => ?_, fun i j o o' p q b ho ho' hp hq hl hl' hpb hqb => ?_, hW2.gl⟩
      · rcases hS2 b (.inl hs) with h1 | h1
        · exact h1
        · omega
      · have hn : ¬ blkOf σ' b := fun hb' => by
          rcases hS2 b (.inl hb') with h1 | h1
          · exact hs h1
          · omega
        have h1 := hW2.old b o (Nat.lt_of_lt_of_le hb h.keep.size) hn
        show M2 b o = _
        rw [show M2 b o = cx.M b o from h1]; exact h.old b o hb hs
      · show (cx.σ ++ σ2.drop ι.length).length = (setAll _ _ _ ++ _).length
        have := hW2.len
        simp only at this
        simp only [List.length_append, List.length_drop, setAll_len, List.length_map, h.len, this]
      · rcases hH2 j o ho with ⟨hj, hjl, hoj⟩ | ⟨i, o1, h1, rfl, rfl⟩
        · have hp' : cx.σ[j]? = some p := by
            have : cx2.σ[j]? = some p := hp
            rwa [show cx2.σ = cx.σ ++ σ2.drop ι.length from rfl, List.getElem?_append_left (by rw [h.len]; exact hjl)] at this
          cases hl : o.live with
          | false => cases o <;> first | trivial | simp [SObj.live] at hl
          | true =>
            refine ((h.obj j o p hoj hp').mono hle fun b hb _ => ?_).world fun b hb => ?_
            · obtain ⟨u1, u2⟩ := untouched j o p b hj hoj hl hp' hb
              funext x; exact hW2.old b x u2 u1
            · obtain ⟨u1, u2⟩ := untouched j o p b hj hoj hl hp' hb
              exact hW2.keep.block b u2 u1
        · exact objR_ren hren rfl (fun b _ hb => hS2 b hb) (hW2.obj i o1 p h1 (hgetσ i o1 p h1 hp))
      · have σold : ∀ {j : Nat} {q : Pl}, j < H.length → cx2.σ[j]? = some q → cx.σ[j]? = some q := fun {j} {q} hj hq => by
          rwa [show cx2.σ = cx.σ ++ σ2.drop ι.length from rfl, List.getElem?_append_left (by rw [h.len]; exact hj)] at hq
        rcases hH2 i o ho with ⟨hi, hil, hoi⟩ | ⟨i1, o1, h1, rfl, rfl⟩ <;> rcases hH2 j o' ho' with ⟨hj, hjl, hoj⟩ | ⟨i2, o2, h2, rfl, rfl⟩
        · exact h.inj i j o o' p q b hoi hoj (σold hil hp) (σold hjl hq) hl hl' hpb hqb
        · obtain ⟨u1, u2⟩ := untouched i o p b hi hoi hl (σold hil hp) hpb
          rcases ((hW2.obj i2 o2 q h2 (hgetσ i2 o2 q h2 hq)).base (ren_live hl') hqb).1 with h3 | h3
          · exact absurd h3 u1
          · omega
        · obtain ⟨u1, u2⟩ := untouched j o' q b hj hoj hl' (σold hjl hq) hqb
          rcases ((hW2.obj i1 o1 p h1 (hgetσ i1 o1 p h1 hp)).base (ren_live hl) hpb).1 with h3 | h3
          · exact absurd h3 u1
          · omega
        · rw [hW2.inj i1 i2 o1 o2 p q b h1 h2 (hgetσ i1 o1 p h1 hp) (hgetσ i2 o2 q h2 hq) (ren_live hl) (ren_live hl') hpb hqb]
    refine ⟨cx2, hle, rfl, hWc, ?_, fun i o p b hi ho hl hp hpb => ?_⟩
    · obtain ⟨y, hy⟩ := instV_some (f := f) (g := r) g.res
      have : g.res.ren f r = y := by simp [SV.ren, hy]
      show (g.res.ren f r).R P cx2 v
      rw [this]
      exact R_inst hren g.res hy hres
    · obtain ⟨u1, u2⟩ := untouched i o p b hi ho hl hp hpb
      exact hW2.keep.block b u2 u1
end
end Go.Proofs.YtfphabkdgdgnbaaGreatDoor.SE
set_option linter.unusedVariables false
set_option linter.unusedSimpArgs false
set_option linter.unusedSectionVars false
namespace Go.Proofs.YtfphabkdgdgnbaaGreatDoor.SE
open Go Go.RowKit Go.Proofs.YtfphabkdgdgnbaaGreatDoor.AE
variable [Tb]

/-! what a piece of code comes to: a tree of bindings and tests -/
inductive Tree (α : Type) where
  | leaf (a : α)
  | out (l : Nat) (es : List Ex)
  | op (p : Pr) (k : Nat) (t : Tree α)
  | ite (x : Ex) (a b : Tree α)
  | fail
  | join (l : Nat) (t r : Tree α)
  | loop (l : Nat) (es : List Ex) (body : Tree α)
inductive Out (α : Type) where
  | leaf (a : α) (ρ : List D)
  | out (l : Nat) (ds : List D)
def iterD {α : Type} (f : List D → Option (Out α)) (l : Nat) : Nat → List D → Option (Out α)
  | 0, _ => none
  | m + 1, ds => match f ds with
    | some (.out l' ds') => bif Nat.beq l' l then iterD f l m ds' else some (.out l' ds')
    | r => r
def Tree.den {α : Type} (P : Program) (orc : Nat → List D → Option (List D)) (k : Nat) : Tree α → List D → Option (Out α)
  | .leaf a, ρ => some (.leaf a ρ)
  | .out l es, ρ => (denRow ρ es).map (.out l)
  | .op p n t, ρ => (p.den P orc ρ).bind fun ds => bif Nat.beq ds.length n then Tree.den P orc k t (ρ ++ ds) else none
  | .ite x a b, ρ => match x.den ρ with
    | some (.v (.bool true)) => Tree.den P orc k a ρ
    | some (.v (.bool false)) => Tree.den P orc k b ρ
    | _ => none
  | .fail, _ => none
  | .join l t r, ρ => match Tree.den P orc k t ρ with
    | some (.out l' ds) => bif Nat.beq l' l then Tree.den P orc k r (ρ ++ ds) else some (.out l' ds)
    | o => o
  | .loop l es body, ρ => (denRow ρ es).bind fun ds => iterD (fun ds => Tree.den P orc k body (ρ ++ ds)) l k ds
/-- Every leaf goes on. -/
def Tree.bindM {α β : Type} (f : α → Option (Tree β)) : Tree α → Option (Tree β)
  | .leaf a => f a
  | .out l es => some (.out l es)
  | .op p n t => (Tree.bindM f t).map (.op p n)
  | .ite x a b => (Tree.bindM f a).bind fun a' => (Tree.bindM f b).map fun b' => .ite x a' b'
  | .fail => some .fail
  | .join l t r => (Tree.bindM f t).bind fun t' => (Tree.bindM f r).map fun r' => .join l t' r'
  | .loop l es body => (Tree.bindM f body).map (.loop l es)
/-- No join and no loop bears this number. -/
def Tree.avoids {α : Type} (l : Nat) : Tree α → Bool
  | .leaf _ | .out _ _ | .fail => true
  | .op _ _ t => t.avoids l
  | .ite _ a b => a.avoids l && b.avoids l
  | .join m t r => !Nat.beq m l && t.avoids l && r.avoids l
  | .loop m _ body => !Nat.beq m l && body.avoids l
def Tree.leaves {α : Type} : Tree α → List α
  | .leaf a => [a]
  | .out _ _ | .fail => []
  | .op _ _ t => t.leaves
  | .ite _ a b => a.leaves ++ b.leaves
  | .join _ t r => t.leaves ++ r.leaves
  | .loop _ _ body => body.leaves
/-- It ends in leaves alone. -/
def Closed {α : Type} (P : Program) (orc : Nat → List D → Option (List D)) (k : Nat) (T : Tree α) : Prop := ∀ ρ l ds, T.den P orc k ρ ≠ some (.out l ds)
section
variable {α β : Type} {P : Program} {orc : Nat → List D → Option (List D)} {k : Nat}
def thenD (g : α → List D → Option (Out β)) : Option (Out α) → Option (Out β)
  | some (.leaf a ρ) => g a ρ
  | some (.out l ds) => some (.out l ds)
  | none => none
theorem iter_bind {f : List D → Option (Out α)} {f' : List D → Option (Out β)} {g : α → List D → Option (Out β)} {l : Nat} (hf : ∀ ds, f' ds = thenD g (f ds)) (hg : ∀ a ρ l' ds, g a ρ = some (.out l' ds) → l' ≠ l) :
    ∀ (m : Nat) (ds : List D), iterD f' l m ds = thenD g (iterD f l m ds)
  | 0, ds => rfl
  | m + 1, ds => by
    simp only [iterD, hf]
    cases hfd : f ds with
    | none => rfl
    | some o =>
      cases o with
      | leaf a ρ =>
        simp only [thenD]
        cases hga : g a ρ with
        | none => rfl
        | some o' =>
          cases o' with
          | leaf b ρ' => rfl
          | out l' ds' =>
            have : Nat.beq l' l = false := by
              cases hb : Nat.beq l' l with
              | true => exact absurd (Nat.eq_of_beq_eq_true hb) (hg a ρ l' ds' hga)
              | false => rfl
            simp [this]
      | out l' ds' =>
        simp only [thenD]
        cases hb : Nat.beq l' l with
        | true => simp only [cond_true]; exact iter_bind hf hg m ds'
        | false => simp [thenD]
theorem den_bindM {f : α → Option (Tree β)} : ∀ (T : Tree α) {T' : Tree β}, T.bindM f = some T' → (∀ a t ρ l ds, f a = some t → t.den P orc k ρ = some (.out l ds) → T.avoids l = true) →
    ∀ ρ, T'.den P orc k ρ = thenD (fun a ρ' => match f a with | some t => t.den P orc k ρ' | none => none) (T.den P orc k ρ)
  | .leaf a, T', h, _, ρ => by simp only [Tree.bindM] at h; simp [Tree.den, thenD, h]
  | .out l es, T', h, _, ρ => by
    simp only [Tree.bindM, Option.some.injEq] at h; subst h
    simp only [Tree.den]
    cases denRow ρ es <;> rfl
  | .op p n t, T', h, hn, ρ => by
    simp only [Tree.bindM, Option.map_eq_some_iff] at h
    obtain ⟨t', ht, rfl⟩ := h
    simp only [Tree.den]
    cases p.den P orc ρ with
    | none => rfl
    | some ds =>
      simp only [Option.bind_some]
      cases Nat.beq ds.length n with
      | true => simp only [cond_true]; exact den_bindM t ht hn _
      | false => rfl
  | .ite x a b, T', h, hn, ρ => by
    simp only [Tree.bindM, Option.map_eq_some_iff, Option.bind_eq_some_iff] at h
    obtain ⟨a', ha, b', hb, rfl⟩ := h
    simp only [Tree.avoids, Bool.and_eq_true] at hn
    have ia := den_bindM a ha (fun a0 t ρ l ds h1 h2 => (hn a0 t ρ l ds h1 h2).1) ρ
    have ib := den_bindM b hb (fun a0 t ρ l ds h1 h2 => (hn a0 t ρ l ds h1 h2).2) ρ
    simp only [Tree.den]
    split
    · exact ia
    · exact ib
    · rfl
  | .fail, T', h, _, ρ => by simp only [Tree.bindM, Option.some.injEq] at h; subst h; rfl
  | .join l t r, T', h, hn, ρ => by
    simp only [Tree.bindM, Option.map_eq_some_iff, Option.bind_eq_some_iff] at h
    obtain ⟨t', ht, r', hr, rfl⟩ := h
    simp only [Tree.avoids, Bool.and_eq_true, Bool.not_eq_true'] at hn
    have it := den_bindM t ht (fun a0 t ρ l ds h1 h2 => (hn a0 t ρ l ds h1 h2).1.2) ρ
    have ir := fun ρ => den_bindM r hr (fun a0 t ρ l ds h1 h2 => (hn a0 t ρ l ds h1 h2).2) ρ
    simp only [Tree.den, it]
    cases htd : t.den P orc k ρ with
    | none => rfl
    | some o =>
      cases o with
      | leaf a ρ' =>
        simp only [thenD]
        cases hfa : f a with
        | none => rfl
        | some u =>
          simp only
          cases hu : u.den P orc k ρ' with
          | none => rfl
          | some o' =>
            cases o' with
            | leaf b ρ2 => rfl
            | out l' ds' =>
              have := (hn a u ρ' l' ds' hfa hu).1.1
              have : Nat.beq l' l = false := by
                cases hb : Nat.beq l' l with
                | true => rw [Nat.eq_of_beq_eq_true hb, Nat.beq_refl] at this; cases this
                | false => rfl
              simp [this]
      | out l' ds' =>
        simp only [thenD]
        cases Nat.beq l' l with
        | true => simp only [cond_true]; exact ir _
        | false => rfl
  | .loop l es body, T', h, hn, ρ => by
    simp only [Tree.bindM, Option.map_eq_some_iff] at h
    obtain ⟨b', hb, rfl⟩ := h
    simp only [Tree.avoids, Bool.and_eq_true, Bool.not_eq_true'] at hn
    have ib := fun ρ => den_bindM body hb (fun a0 t ρ l ds h1 h2 => (hn a0 t ρ l ds h1 h2).2) ρ
    simp only [Tree.den]
    cases denRow ρ es with
    | none => rfl
    | some ds =>
      simp only [Option.bind_some]
      refine iter_bind (fun ds => ib _) (fun a ρ' l' ds' hg e => ?_) k ds
      cases hfa : f a with
      | none => rw [hfa] at hg; cases hg
      | some u =>
        rw [hfa] at hg
        have := (hn a u ρ' l' ds' hfa hg).1
        rw [e, Nat.beq_refl] at this; cases this
/-- A leaf's variables are more. -/
theorem den_ext : ∀ (T : Tree α) {ρ ρ' : List D} {a : α}, T.den P orc k ρ = some (.leaf a ρ') → ρ <+: ρ'
  | .leaf a, ρ, ρ', b, h => by simp only [Tree.den, Option.some.injEq, Out.leaf.injEq] at h; rw [h.2]; exact List.prefix_rfl
  | .out l es, ρ, ρ', b, h => by simp only [Tree.den, Option.map_eq_some_iff] at h; obtain ⟨_, _, h⟩ := h; cases h
  | .op p n t, ρ, ρ', b, h => by
    simp only [Tree.den, Option.bind_eq_some_iff] at h
    obtain ⟨ds, _, h⟩ := h
    cases hb : Nat.beq ds.length n with
    | true => simp only [hb, cond_true] at h; exact (List.prefix_append _ _).trans (den_ext t h)
    | false => simp [hb] at h
  | .ite x a b, ρ, ρ', c, h => by
    simp only [Tree.den] at h
    split at h
    · exact den_ext a h
    · exact den_ext b h
    · cases h
  | .fail, ρ, ρ', b, h => by simp [Tree.den] at h
  | .join l t r, ρ, ρ', b, h => by
    simp only [Tree.den] at h
    split at h
    · rename_i l' ds ht
      cases hb : Nat.beq l' l with
      | true => simp only [hb, cond_true] at h; exact (List.prefix_append _ _).trans (den_ext r h)
      | false => simp [hb] at h
    · exact den_ext t h
  | .loop l es body, ρ, ρ', b, h => by
    simp only [Tree.den, Option.bind_eq_some_iff] at h
    obtain ⟨ds, _, h⟩ := h
    have : ∀ (m : Nat) (ds : List D), iterD (fun ds => body.den P orc k (ρ ++ ds)) l m ds = some (.leaf b ρ') → ρ <+: ρ' := by
      intro m
      induction m with
      | zero => intro ds h; cases h
      | succ m ih =>
        intro ds h
        simp only [iterD] at h
        split at h
        · rename_i l' ds' _
          cases hb : Nat.beq l' l with
          | true => simp only [hb, cond_true] at h; exact ih ds' h
          | false => simp [hb] at h
        · rename_i hh; exact (List.prefix_append _ _).trans (den_ext body h)
    exact this k ds h
theorem closed_leaf (a : α) : Closed P orc k (.leaf a) := fun ρ l ds h => by simp [Tree.den] at h
theorem closed_fail : Closed P orc k (.fail : Tree α) := fun ρ l ds h => by simp [Tree.den] at h
theorem closed_bindM {f : α → Option (Tree β)} {T : Tree α} {T' : Tree β} (h : T.bindM f = some T') (hT : Closed P orc k T) (hf : ∀ a t, f a = some t → Closed P orc k t) : Closed P orc k T' := by
  intro ρ l ds hd
  rw [den_bindM T h (fun a t ρ l ds h1 h2 => absurd h2 (hf a t h1 ρ l ds)) ρ] at hd
  cases ht : T.den P orc k ρ with
  | none => rw [ht] at hd; cases hd
  | some o =>
    cases o with
    | leaf a ρ' =>
      rw [ht] at hd
      simp only [thenD] at hd
      cases hfa : f a with
      | none => rw [hfa] at hd; cases hd
      | some t => rw [hfa] at hd; exact hf a t hfa _ _ _ hd
    | out l' ds' => exact hT _ _ _ ht
theorem closed_op {p : Pr} {n : Nat} {T : Tree α} (h : Closed P orc k T) : Closed P orc k (.op p n T) := fun ρ l ds hd => by
  simp only [Tree.den, Option.bind_eq_some_iff] at hd
  obtain ⟨es, _, hd⟩ := hd
  cases hb : Nat.beq es.length n with
  | true => simp only [hb, cond_true] at hd; exact h _ _ _ hd
  | false => simp [hb] at hd
theorem closed_ite {x : Ex} {a b : Tree α} (ha : Closed P orc k a) (hb : Closed P orc k b) : Closed P orc k (.ite x a b) := fun ρ l ds hd => by
  simp only [Tree.den] at hd
  split at hd
  · exact ha _ _ _ hd
  · exact hb _ _ _ hd
  · cases hd
end
end Go.Proofs.YtfphabkdgdgnbaaGreatDoor.SE
set_option linter.unusedVariables false
set_option linter.unusedSimpArgs false
set_option linter.unusedSectionVars false
namespace Go.Proofs.YtfphabkdgdgnbaaGreatDoor.SE
open Go Go.RowKit Go.Proofs.YtfphabkdgdgnbaaGreatDoor.AE
variable [Tb]

/-- A state: the slots, the objects, how many variables there are. -/
structure SS where
  T : PTS
  H : SH
  n : Nat
  deriving Inhabited
def ev (T : PTS) : Operand → Option SV
  | .tmp t => T.get t
  | .const v => some (.c v)
  | .global g => some (.c (.pointer (some ⟨g, 0, none⟩)))
  | .func f => some (.c (.func (.func f) #[] #[]))
def sPut (n : Nat) (dst : Option Tmp) (a : SV) (T : PTS) : Option PTS :=
  match dst with
  | none => some T
  | some d => bif Nat.blt d n && Nat.blt d 4000 then some (T.set 12 d a) else none

/-! a pattern is met: what its variables are, and its objects (searched, not trusted) -/
def findN {α : Type} (i : Nat) : List (Nat × α) → Option α
  | [] => none
  | (j, a) :: l => bif Nat.beq j i then some a else findN i l
structure GW where
  β : List (Nat × Ex)
  ι : List (Nat × Option Nat)
mutual
def gathV (H : SH) : SV → SV → GW → GW
  | .s (.x i), .s y, g => ⟨(i, y) :: g.β, g.ι⟩
  | .s (.x i), .c u, g => ⟨(i, .v u) :: g.β, g.ι⟩
  | .d _ (.x i), .c _, g => ⟨(i, .lit []) :: g.β, g.ι⟩
  | .d _ (.x i), a, g => match asData H a with
    | some (_, y) => ⟨(i, y) :: g.β, g.ι⟩
    | none => g
  | .own i, .own j, g => ⟨g.β, (i, some j) :: g.ι⟩
  | .own i, .c _, g => ⟨g.β, (i, none) :: g.ι⟩
  | .ptr i _, .ptr j _, g => ⟨g.β, (i, some j) :: g.ι⟩
  | .slc i _ _ _, .slc j _ _ _, g => ⟨g.β, (i, some j) :: g.ι⟩
  | .sp cs, .sp ds, g => gathL H cs ds g
  | .agg cs, .agg ds, g => gathL H cs ds g
  | .agg cs, .c (.agg vs), g => gathL H cs (vs.toList.map .c) g
  | .tup cs, .tup ds, g => gathL H cs ds g
  | .tup cs, .c (.tuple vs), g => gathL H cs (vs.toList.map .c) g
  | .fn _ a b, .fn _ a' b', g => gathL H b b' (gathL H a a' g)
  | .fn _ a b, .c (.func _ a' b'), g => gathL H b (b'.toList.map .c) (gathL H a (a'.toList.map .c) g)
  | .ifc _ x, .ifc _ y, g => gathV H x y g
  | _, _, g => g
def gathL (H : SH) : List SV → List SV → GW → GW
  | a :: l, b :: m, g => gathL H l m (gathV H a b g)
  | _, _, g => g
end
def gathO (H : SH) : SObj → Option (Option Nat) → GW → GW
  | .box cs _, some (some j), g => match H[j]? with
    | some (.box ds _) => gathL H cs ds g
    | _ => g
  | .grow _ (.x i), some (some j), g => match H[j]? with
    | some (.grow _ y) => ⟨(i, y) :: g.β, g.ι⟩
    | _ => g
  | .grow _ (.x i), some none, g => ⟨(i, .lit []) :: g.β, g.ι⟩
  | _, _, g => g
def gathH (H : SH) : SH → Nat → GW → GW
  | [], _, g => g
  | o :: l, i, g => gathH H l (i + 1) (gathO H o (findN i g.ι) g)
def GW.exs (g : GW) (n0 : Nat) : Nat → List Ex
  | 0 => []
  | k + 1 => ((findN n0 g.β).getD (.v undef)) :: g.exs (n0 + 1) k
def GW.ids (g : GW) (n0 : Nat) : Nat → List (Option Nat)
  | 0 => []
  | k + 1 => ((findN n0 g.ι).getD none) :: g.ids (n0 + 1) k
def idsOf : List (Option Nat) → List Nat
  | [] => []
  | some i :: l => i :: idsOf l
  | none :: l => 1000000 :: idsOf l

/-! calls -/
def trySigs (P : Program) (all : List Sig) (f : FuncId) (as : List SV) (H : SH) : List Sig → Nat → Option AS'
  | [], _ => none
  | g :: l, k =>
    let next := trySigs P all f as H l (k + 1)
    bif Nat.beq g.f f then
      let w := gathH H g.Hi 0 (gathL H g.args as ⟨[], []⟩)
      match sigStep P g k (w.exs 0 g.ni) (idsOf (w.ids 0 g.Hi.length)) as H with
      | some r => some r
      | none => next
    else next
def callStep (P : Program) (sg : List Sig) (ev : Operand → Option SV) (o : Oper) (H : SH) : Option AS' :=
  match o.op with
  | .call c => match c.callee with
    | .value f => (evL ev c.args.toList).bind fun args => (ev f).bind fun fv => (fnOf fv).bind fun g => match P.funcs[g.1]? with
      | some fn => match fn.body with
        | some _ => trySigs P sg g.1 (g.2.1 ++ args ++ g.2.2) H sg 0
        | none => none
      | none => none
    | _ => none
  | _ => none
inductive Stp where
  | val (v : VS)
  | act (a : AS')
def Stp.p : Stp → Option (Pr × Nat)
  | .val v => v.1
  | .act a => a.1
def Stp.touched : Stp → List Nat
  | .val _ => []
  | .act a => a.2.1
def Stp.res (H : SH) (b : Nat) : Stp → SV × SH
  | .val v => (v.2 b, H)
  | .act a => ((a.2.2 b).1.getD (.c undef), (a.2.2 b).2)
def stp (P : Program) (sg : List Sig) (o : Oper) (st : SS) : Option Stp :=
  match vStep P (ev st.T) o st.H with
  | some v => some (.val v)
  | none => match aStep P (ev st.T) o st.H with
    | some a => some (.act a)
    | none => (callStep P sg (ev st.T) o st.H).map .act

section
variable {P : Program} {orc : Nat → List D → Option (List D)} {sg : List Sig} {M0 : Mem} {w0 : World} {S : Nat → Prop} {cx : Cx} {w : World} {ds : List Deferred} {nt : Nat} {st : SS} {a : Act}
def TR (P : Program) (cx : Cx) (n : Nat) (T : PTS) (tmps : Array Value) : Prop :=
  tmps.size = n ∧ ∀ (t : Nat) (x : SV), T.get t = some x → ∃ v, x.R P cx v ∧ tmps[t]? = some v
structure SR (P : Program) (M0 : Mem) (w0 : World) (S : Nat → Prop) (ds : List Deferred) (cx : Cx) (nt : Nat) (st : SS) (a : Act) (w : World) : Prop where
  wr : WR P M0 w0 S cx st.H w
  tr : TR P cx nt st.T a.tmps
  df : a.defers = ds
  n : cx.ρ.length = st.n
theorem TR.mono {c c' : Cx} (h : c.le c') {n T tmps} (r : TR P c n T tmps) : TR P c' n T tmps :=
  ⟨r.1, fun t x hx => let ⟨v, h1, h2⟩ := r.2 t x hx; ⟨v, R_mono h x h1, h2⟩⟩
theorem ev_ok {n : Nat} {T : PTS} {a : Act} (r : TR P cx n T a.tmps) : EvR P cx (ev T) a.eval := by
  intro x b hb
  cases x with
  | tmp t =>
    obtain ⟨v, h1, h2⟩ := r.2 t b hb
    simp only [Act.eval, Array.getD_eq_getD_getElem?, h2, Option.getD_some]; exact h1
  | const v => simp only [ev, Option.some.injEq] at hb; subst hb; rfl
  | global g => simp only [ev, Option.some.injEq] at hb; subst hb; rfl
  | func f => simp only [ev, Option.some.injEq] at hb; subst hb; rfl
theorem put_ok {n : Nat} {T T' : PTS} {a : Act} (r : TR P cx n T a.tmps) {dst : Option Tmp} {b : SV} {v : Value} (hb : b.R P cx v) (h : sPut n dst b T = some T') : TR P cx n T' (a.put dst v).tmps := by
  cases dst with
  | none => simp only [sPut, Option.some.injEq] at h; subst h; exact r
  | some d =>
    simp only [sPut] at h
    cases hd : (Nat.blt d n && Nat.blt d 4000) with
    | false => simp only [hd, cond_false] at h; cases h
    | true =>
      simp only [hd, cond_true, Option.some.injEq] at h; subst h
      simp only [Bool.and_eq_true] at hd
      have h1 : @LT.lt Nat _ d n := of_blt hd.1
      have h2 : @LT.lt Nat _ d 4000 := of_blt hd.2
      have h3 : @LT.lt Nat _ (d + 1) (2 ^ 12) := Nat.lt_of_lt_of_le (Nat.succ_lt_succ h2) (by decide)
      refine ⟨by simp [Act.put, r.1], fun t c hc => ?_⟩
      rw [PTS.get_set 12 T d b t h3] at hc
      simp only [Act.put]
      by_cases e : t = d
      · subst e
        simp only [if_true, Option.some.injEq] at hc; subst hc
        exact ⟨v, hb, by have := r.1; simp [Array.getElem?_setIfInBounds, this, h1]⟩
      · rw [if_neg e] at hc
        obtain ⟨u, hu, ht⟩ := r.2 t c hc
        exact ⟨u, hu, by rw [Array.getElem?_setIfInBounds_ne (Ne.symm e)]; exact ht⟩
theorem trySigs_ok {f : FuncId} {as : List SV} {H : SH} {r : AS'} : ∀ {l : List Sig} {k : Nat}, trySigs P sg f as H l k = some r → ∃ j g β ι, l[j]? = some g ∧ g.f = f ∧ sigStep P g (k + j) β ι as H = some r
  | [], k, h => by simp [trySigs] at h
  | g :: l, k, h => by
    have tl : trySigs P sg f as H l (k + 1) = some r → ∃ j g' β ι, (g :: l)[j]? = some g' ∧ g'.f = f ∧ sigStep P g' (k + j) β ι as H = some r := fun h => by
      obtain ⟨j, g', β, ι, h1, h2, h3⟩ := trySigs_ok h
      exact ⟨j + 1, g', β, ι, by simpa using h1, h2, by rw [← h3]; congr 1; omega⟩
    simp only [trySigs] at h
    cases hb : Nat.beq g.f f with
    | false => simp only [hb, cond_false] at h; exact tl h
    | true =>
      simp only [hb, cond_true] at h
      split at h
      · rename_i r' hr
        simp only [Option.some.injEq] at h; subst h
        exact ⟨0, g, _, _, rfl, Nat.eq_of_beq_eq_true hb, hr⟩
      · exact tl h
/-- What a step of one operation comes to. -/
theorem stp_ok (hNG : NG P) (hsg : ∀ k g, sg[k]? = some g → SigOK P g (orc k)) (hW : WR P M0 w0 S cx st.H w) (hT : TR P cx nt st.T a.tmps) {o : Oper} {s : Stp} {base : Nat} (hs : stp P sg o st = some s) (hb : Bd P orc cx.ρ base s.p) {next : Act → World → Prop} {Q : Exit → Act → World → Prop}
    (hn : ∀ cx' v w', cx.le cx' → cx'.ρ = cx.ρ → WR P M0 w0 S cx' (s.res st.H base).2 w' → (s.res st.H base).1.R P cx' v → (∀ (i : Nat) (x : SObj) (p : Pl) (b : Nat), i ∉ s.touched → st.H[i]? = some x → x.live = true → cx.σ[i]? = some p → p.blk = some b → w'.heap[b]? = w.heap[b]?) → next (a.put o.dst v) w') :
    o.wp P a w next Q := by
  have hρ := ev_ok hT
  unfold Oper.wp
  unfold stp at hs
  split at hs
  · rename_i v hv
    simp only [Option.some.injEq] at hs; subst hs
    obtain ⟨u, h1, h2⟩ := vStep_ok hW hρ hv hb
    rw [h2 w hW.agree]
    exact hn cx u w .rfl rfl hW h1 fun _ _ _ _ _ _ _ _ _ => rfl
  · split at hs
    · rename_i ac hac
      simp only [Option.some.injEq] at hs; subst hs
      obtain ⟨u, w', h1, cx', h2, h3, h4, h5, h6⟩ := aStep_ok hW hρ hac hb
      rw [h1]
      have hn' := hn cx' u w' h2 h3 h4
      cases hh : (ac.2.2 base).1 with
      | none =>
        rw [hh] at h5
        simp only at h5; subst h5
        refine hn' ?_ h6
        simp [Stp.res, hh, SV.R]
      | some x =>
        rw [hh] at h5
        refine hn' ?_ h6
        simpa [Stp.res, hh] using h5
    · simp only [Option.map_eq_some_iff] at hs
      obtain ⟨ac, hac, rfl⟩ := hs
      unfold callStep at hac
      split at hac
      · rename_i c hop
        split at hac
        · rename_i f hcal
          simp only [Option.bind_eq_some_iff] at hac
          obtain ⟨args, hargs, fv, hfv, ⟨g, x, y⟩, hg, hac⟩ := hac
          simp only at hac
          split at hac
          · rename_i fn hfn
            split at hac
            · rename_i body hbody
              obtain ⟨j, sgj, β, ι, q1, q2, q3⟩ := trySigs_ok hac
              obtain ⟨vs, hvs, hcall⟩ := call_run (t := o.type) hcal hfv hg hargs hρ
              have hex : execOp a.eval o = (do let d ← resolve a.eval c o.type; invoke d.target d.args) := by unfold execOp; simp only [hop]
              rw [hex, hcall]
              have hng := hNG g fn hfn
              have hrun : (callFunc g vs.toArray).run P w = .ok (.enter g vs.toArray) w := by
                simp only [callFunc, Sem.run_bind, run_program, Result.andThen_ok, hfn, hng, Bool.false_eq_true, if_false, hbody, Option.isNone_some]
                rfl
              rw [hrun]
              rw [Nat.zero_add] at q3
              obtain ⟨hsome, hcalls⟩ := sigStep_ok (base := base) hW (hsg j sgj q1) hvs q3 hb
              rw [q2] at hcalls
              refine hcalls.mono ?_
              rintro e w' ⟨v, rfl, cx', h2, h3, h4, h5, h6⟩
              have hn' := hn cx' v w' h2 h3 h4
              cases hh : (ac.2.2 base).1 with
              | none => rw [hh] at hsome; cases hsome
              | some z =>
                rw [hh] at h5
                exact hn' (by simpa [Stp.res, hh] using h5) h6
            · cases hac
          · cases hac
        · cases hac
      · cases hac
end
end Go.Proofs.YtfphabkdgdgnbaaGreatDoor.SE
