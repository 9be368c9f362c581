import Derived.Test.YtfphabkdgdgnbaaGreatDoorSEf
import Derived.OpenShut
import Derived.ChangeArms
import Derived.DataReads
import Derived.WideShapes
set_option linter.unusedVariables false
set_option linter.unusedSimpArgs false
set_option linter.unusedSectionVars false
namespace Go.Proofs.YtfphabkdgdgnbaaGreatDoor.SE
open Go Go.RowKit Go.Proofs.YtfphabkdgdgnbaaGreatDoor.AE
variable [Tb]

/-! reckoning with trees -/
abbrev I (n : Int) : D := .v (.int .i64 n)
abbrev U (n : Int) : D := .v (.int .u8 n)
abbrev B (b : Bool) : D := .v (.bool b)
abbrev St (s : ByteArray) : D := .v (.string s)
section
variable {α : Type} {P : Program} {orc : Orc} {ρ : List D}
def opK (o : Option (List D)) (n : Nat) (k : List D → Option (Out α)) : Option (Out α) := o.bind fun ds => bif Nat.beq ds.length n then k ds else none
def iteK (o : Option D) (a b : Option (Out α)) : Option (Out α) := match o with
  | some (.v (.bool true)) => a
  | some (.v (.bool false)) => b
  | _ => none
def joinK (o : Option (Out α)) (l : Nat) (k : List D → Option (Out α)) : Option (Out α) := match o with
  | some (.out l' ds) => bif Nat.beq l' l then k ds else some (.out l' ds)
  | o => o
def outK (l : Nat) (o : Option (List D)) : Option (Out α) := o.map (.out l)
def loopK (o : Option (List D)) (k : List D → Option (Out α)) : Option (Out α) := o.bind k
/-- What comes behind. -/
noncomputable def kF (P : Program) (orc : Orc) (t : Tree α) (ρ ds : List D) : Option (Out α) := Tree.denE P orc t (ρ ++ ds)
@[simp] theorem kF_app {t : Tree α} {ds : List D} : kF P orc t ρ ds = Tree.denE P orc t (ρ ++ ds) := rfl
@[simp] theorem denE_op {p : Pr} {n : Nat} {t : Tree α} : Tree.denE P orc (.op p n t) ρ = opK (p.den P orc ρ) n (kF P orc t ρ) := rfl
@[simp] theorem denE_ite {x : Ex} {a b : Tree α} : Tree.denE P orc (.ite x a b) ρ = iteK (x.den ρ) (Tree.denE P orc a ρ) (Tree.denE P orc b ρ) := rfl
@[simp] theorem denE_join {l : Nat} {t r : Tree α} : Tree.denE P orc (.join l t r) ρ = joinK (Tree.denE P orc t ρ) l (kF P orc r ρ) := rfl
@[simp] theorem denE_out {l : Nat} {es : List Ex} : Tree.denE P orc (α := α) (.out l es) ρ = outK l (denRow ρ es) := rfl
@[simp] theorem denE_leaf {a : α} : Tree.denE P orc (.leaf a) ρ = some (.leaf a ρ) := rfl
@[simp] theorem denE_fail : Tree.denE P orc (α := α) .fail ρ = none := rfl
@[simp] theorem denE_loop {l : Nat} {es : List Ex} {b : Tree α} : Tree.denE P orc (.loop l es b) ρ = loopK (denRow ρ es) (iterE (kF P orc b ρ) l) := rfl
@[simp] theorem opK_1 {d : D} {k : List D → Option (Out α)} : opK (some [d]) 1 k = k [d] := rfl
@[simp] theorem opK_2 {d e : D} {k : List D → Option (Out α)} : opK (some [d, e]) 2 k = k [d, e] := rfl
@[simp] theorem opK_n {l : List D} {n : Nat} (h : l.length = n) {k : List D → Option (Out α)} : opK (some l) n k = k l := by simp [opK, h]
@[simp] theorem opK_none {n : Nat} {k : List D → Option (Out α)} : opK none n k = none := rfl
@[simp] theorem opK_if {c : Prop} [Decidable c] {a b : Option (List D)} {n : Nat} {k : List D → Option (Out α)} : opK (if c then a else b) n k = if c then opK a n k else opK b n k := by split <;> rfl
@[simp] theorem iteK_b {c : Bool} {a b : Option (Out α)} : iteK (some (.v (.bool c))) a b = if c = true then a else b := by cases c <;> rfl
@[simp] theorem joinK_eq {l : Nat} {ds : List D} {k : List D → Option (Out α)} : joinK (some (.out l ds)) l k = k ds := by simp [joinK]
@[simp] theorem joinK_ne {l l' : Nat} (h : l' ≠ l) {ds : List D} {k : List D → Option (Out α)} : joinK (some (.out l' ds)) l k = some (.out l' ds) := by
  have : Nat.beq l' l = false := by
    cases e : Nat.beq l' l with
    | false => rfl
    | true => exact absurd (Nat.eq_of_beq_eq_true e) h
  simp [joinK, this]
@[simp] theorem joinK_none {l : Nat} {k : List D → Option (Out α)} : joinK none l k = none := rfl
@[simp] theorem joinK_leaf {l : Nat} {a : α} {k : List D → Option (Out α)} : joinK (some (.leaf a ρ)) l k = some (.leaf a ρ) := rfl
@[simp] theorem joinK_if {c : Prop} [Decidable c] {a b : Option (Out α)} {l : Nat} {k : List D → Option (Out α)} : joinK (if c then a else b) l k = if c then joinK a l k else joinK b l k := by split <;> rfl
@[simp] theorem outOf_if {c : Prop} [Decidable c] {a b : Option (Out α)} : outOf (if c then a else b) = if c then outOf a else outOf b := by split <;> rfl
@[simp] theorem outOf_out {l : Nat} {ds : List D} : outOf (some (.out l ds : Out α)) = some ds := rfl
@[simp] theorem outOf_none : outOf (none : Option (Out α)) = none := rfl
@[simp] theorem outK_some {l : Nat} {ds : List D} : outK (α := α) l (some ds) = some (.out l ds) := rfl
@[simp] theorem loopK_some {ds : List D} {k : List D → Option (Out α)} : loopK (some ds) k = k ds := rfl
/-- Rounds: how one follows the other. -/
theorem iterE_K (f : List D → Option (Out α)) (l : Nat) (ds : List D) : iterE f l ds = joinK (f ds) l (fun ds' => iterE f l ds') := by
  rw [iterE_step]; unfold joinK
  cases f ds with
  | none => rfl
  | some o => cases o <;> rfl
/-! what operations come to -/
def pv (o : Option Value) : Option (List D) := o.bind fun v => bif v.oneCell' then some [.v v] else none
@[simp] theorem den_pure {f : PF} {args : List SV} : Pr.den P orc ρ (.pure f args) = (valL ρ args).bind fun vs => pv (f.run P vs) := rfl
@[simp] theorem pv_int {k : IntKind} {n : Int} : pv (some (.int k n)) = some [.v (.int k n)] := rfl
@[simp] theorem pv_bool {b : Bool} : pv (some (.bool b)) = some [.v (.bool b)] := rfl
@[simp] theorem pv_str {s : ByteArray} : pv (some (.string s)) = some [.v (.string s)] := rfl
@[simp] theorem run_lss {t : TypeId} {c d : Bool} {k : IntKind} {a b : Int} : PF.run P (.bin .lss t c d) [.int k a, .int k b] = some (.bool (decide (a < b))) := by cases k <;> rfl
@[simp] theorem run_leq {t : TypeId} {c d : Bool} {k : IntKind} {a b : Int} : PF.run P (.bin .leq t c d) [.int k a, .int k b] = some (.bool (decide (a ≤ b))) := by cases k <;> rfl
@[simp] theorem run_gtr {t : TypeId} {c d : Bool} {k : IntKind} {a b : Int} : PF.run P (.bin .gtr t c d) [.int k a, .int k b] = some (.bool (decide (b < a))) := by cases k <;> rfl
@[simp] theorem run_geq {t : TypeId} {c d : Bool} {k : IntKind} {a b : Int} : PF.run P (.bin .geq t c d) [.int k a, .int k b] = some (.bool (decide (b ≤ a))) := by cases k <;> rfl
@[simp] theorem run_eql {t : TypeId} {c d : Bool} {k : IntKind} {a b : Int} : PF.run P (.bin .eql t c d) [.int k a, .int k b] = some (.bool (decide (a = b))) := by cases k <;> rfl
@[simp] theorem run_neq {t : TypeId} {c d : Bool} {k : IntKind} {a b : Int} : PF.run P (.bin .neq t c d) [.int k a, .int k b] = some (.bool (!decide (a = b))) := by cases k <;> rfl
@[simp] theorem run_add {t : TypeId} {c d : Bool} {k : IntKind} {a b : Int} : PF.run P (.bin .add t c d) [.int k a, .int k b] = some (.int k (k.wrap (a + b))) := by cases k <;> rfl
@[simp] theorem run_sub {t : TypeId} {c d : Bool} {k : IntKind} {a b : Int} : PF.run P (.bin .sub t c d) [.int k a, .int k b] = some (.int k (k.wrap (a - b))) := by cases k <;> rfl
@[simp] theorem run_mul {t : TypeId} {c d : Bool} {k : IntKind} {a b : Int} : PF.run P (.bin .mul t c d) [.int k a, .int k b] = some (.int k (k.wrap (a * b))) := by cases k <;> rfl
@[simp] theorem run_not {b : Bool} : PF.run P (.un .not) [.bool b] = some (.bool (!b)) := rfl
@[simp] theorem den_call {g : Nat} {args : List Ex} : Pr.den P orc ρ (.call g args) = (denRow ρ args).bind fun ds => orc g ds := rfl
def llenK (o : Option D) : Option (List D) := match o with
  | some (.l rows) => some [.v (goInt rows.length)]
  | _ => none
@[simp] theorem den_llen {x : Ex} : Pr.den P orc ρ (.llen x) = llenK (x.den ρ) := rfl
@[simp] theorem llenK_l {rows : List (List D)} : llenK (some (.l rows)) = some [I rows.length] := rfl
def rowK (n : Nat) (o : Option D) (i : Option Nat) : Option (List D) := match o, i with
  | some (.l rows), some j => (rows[j]?).bind fun r => bif Nat.beq r.length n then some r else none
  | _, _ => none
@[simp] theorem den_row {n : Nat} {x : Ex} {i : SV} : Pr.den P orc ρ (.row n x i) = rowK n (x.den ρ) (i.nat ρ) := rfl
@[simp] theorem nat_val {a : SV} : a.nat ρ = (a.val ρ).bind natOf := rfl
@[simp] theorem natOf_int {k : IntKind} {n : Nat} : natOf (.int k (n : Int)) = some n := rfl
theorem natOf_ofNat {k : IntKind} {n : Int} (h : 0 ≤ n) : natOf (.int k n) = some n.toNat := by
  obtain ⟨m, rfl⟩ := Int.eq_ofNat_of_zero_le h; rfl
theorem rowK_l {n j : Nat} {rows : List (List D)} {r : List D} (h : rows[j]? = some r) (hl : r.length = n) : rowK n (some (.l rows)) (some j) = some r := by simp [rowK, h, hl]
theorem pureRun_bind {β γ : Type} {s : Sem β} {f : β → Sem γ} : pureRun P (s >>= f) = (pureRun P s).bind fun a => pureRun P (f a) := by
  show pureRun P (Sem.bind s f) = _
  induction s <;> first | rfl | (simp only [Sem.bind, pureRun, *]; done) | (simp [Sem.bind, pureRun, *]; done)
theorem pureRun_und {t : TypeId} {d : TypeDesc} (ht : P.underlying t = some d) : pureRun P (underlying t) = some d := by
  show pureRun P (match P.underlying t with | some d => Pure.pure d | none => stuck "no such type") = _
  rw [ht]; rfl
theorem eq_int {d : Nat} {t : TypeId} {k k2 : IntKind} {a b : Int} (ht : P.underlying t = some (.int k2)) : pureRun P (Op.equalIn (d + 1) t (.int k a) (.int k b)) = some (a == b) := by
  rw [Op.equalIn, pureRun_bind, pureRun_und ht]; simp; rfl
theorem eq_bool {d : Nat} {t : TypeId} {a b : Bool} (ht : P.underlying t = some .bool) : pureRun P (Op.equalIn (d + 1) t (.bool a) (.bool b)) = some (a == b) := by
  rw [Op.equalIn, pureRun_bind, pureRun_und ht]; rfl
@[simp] theorem pureRun_pure {β : Type} {a : β} : pureRun P (pure a) = some a := rfl
@[simp] theorem pureRun_if {β : Type} {c : Prop} [Decidable c] {a b : Sem β} : pureRun P (if c then a else b) = if c then pureRun P a else pureRun P b := by split <;> rfl
theorem run_beq {t : TypeId} {c d a b : Bool} (ht : P.underlying t = some .bool) : PF.run P (.bin .eql t c d) [.bool a, .bool b] = some (.bool (a == b)) := by
  show pureRun P (Op.equalIn (9999 + 1) t (.bool a) (.bool b) >>= fun z => Pure.pure (Value.bool z)) = _
  rw [pureRun_bind, eq_bool ht]; rfl
theorem run_bne {t : TypeId} {c d a b : Bool} (ht : P.underlying t = some .bool) : PF.run P (.bin .neq t c d) [.bool a, .bool b] = some (.bool (!(a == b))) := by
  show pureRun P (Op.equalIn (9999 + 1) t (.bool a) (.bool b) >>= fun z => Pure.pure (Value.bool (!z))) = _
  rw [pureRun_bind, eq_bool ht]; rfl
theorem run_len {t t' : TypeId} {s : ByteArray} {c : Bool} (ht : P.underlying t = some .string) : PF.run P (.bi .len [t] t' [c]) [.string s] = some (.int .i64 s.size) := by
  have : pureRun P (Builtin.len_ #[t] t' #[.string s]) = some (.int .i64 s.size) := by
    show pureRun P (underlying t >>= _) = _
    rw [pureRun_bind, pureRun_und ht]; rfl
  show (match pureRun P (Builtin.len_ #[t] t' #[.string s] >>= fun v => Pure.pure (Next.value v)) with
    | some (.value v) => some v
    | _ => none) = _
  rw [pureRun_bind, this]; rfl
@[simp] theorem run_seq {t : TypeId} {c d : Bool} {a b : ByteArray} : PF.run P (.bin .eql t c d) [.string a, .string b] = some (.bool (a.toList == b.toList)) := rfl
@[simp] theorem run_sne {t : TypeId} {c d : Bool} {a b : ByteArray} : PF.run P (.bin .neq t c d) [.string a, .string b] = some (.bool (!(a.toList == b.toList))) := rfl
theorem run_at {t : TypeId} {s : ByteArray} {i : Nat} (ht : P.underlying t = some .string) (h : i < s.size) : PF.run P (.index t) [.string s, .int .i64 i] = some (.int .u8 (s[i]'h).toNat) := by
  show pureRun P (underlying t >>= _) = _
  rw [pureRun_bind, pureRun_und ht]
  have h0 : s[i]? = some s[i] := getElem?_pos s i h
  have h1 : (if (0 : Int) ≤ (i : Int) then s[(i : Int).toNat]? else none) = some s[i] := by rw [if_pos (Int.natCast_nonneg _)]; exact h0
  show pureRun P (match (if (0 : Int) ≤ (i : Int) then s[(i : Int).toNat]? else none) with
    | some b => Pure.pure (Value.int .u8 b.toNat)
    | none => boundsPanic .i64 i s.size .index) = _
  rw [h1]; rfl
/-! rounds over lists -/
section
variable {A X : Type}
/-- One round after the other. -/
def runX (step : A → X → A ⊕ Option (Out α)) (fin : A → Option (Out α)) : List X → A → Option (Out α)
  | [], a => fin a
  | x :: l, a => match step a x with
    | .inl a' => runX step fin l a'
    | .inr o => o
/-- It leaves the rounds. -/
def Exits (l : Nat) (o : Option (Out α)) : Prop := ∀ ds, o ≠ some (.out l ds)
theorem Exits.join {l : Nat} {o : Option (Out α)} (h : Exits l o) (k : List D → Option (Out α)) : joinK o l k = o := by
  cases o with
  | none => rfl
  | some o =>
    cases o with
    | leaf a ρ => rfl
    | out l' ds => exact joinK_ne fun e => h ds (by rw [e])
theorem exits_out {l l' : Nat} {ds : List D} (h : l' ≠ l) : Exits (α := α) l (some (.out l' ds)) := fun ds' e => h (by cases e; rfl)
theorem iter_run {f : List D → Option (Out α)} {l : Nat} {enc : A → List D} {step : A → X → A ⊕ Option (Out α)} {fin : A → Option (Out α)} {Inv : Nat → A → Prop} {xs : List X}
    (hstep : ∀ (i : Nat) (x : X) (a : A), xs[i]? = some x → Inv i a → f (I i :: enc a) = match step a x with
      | .inl a' => some (.out l (I (i + 1 : Nat) :: enc a'))
      | .inr o => o)
    (hinv : ∀ (i : Nat) (x : X) (a a' : A), xs[i]? = some x → Inv i a → step a x = .inl a' → Inv (i + 1) a')
    (hexit : ∀ (i : Nat) (x : X) (a : A) (o : Option (Out α)), xs[i]? = some x → Inv i a → step a x = .inr o → Exits l o)
    (hend : ∀ a, Inv xs.length a → f (I xs.length :: enc a) = fin a ∧ Exits l (fin a)) {a : A} (ha : Inv 0 a) : iterE f l (I 0 :: enc a) = runX step fin xs a := by
  have key : ∀ (suf pre : List X), xs = pre ++ suf → ∀ a, Inv pre.length a → iterE f l (I pre.length :: enc a) = runX step fin suf a := by
    intro suf
    induction suf with
    | nil =>
      intro pre h a ha
      simp only [List.append_nil] at h; subst h
      obtain ⟨h1, h2⟩ := hend a ha
      rw [iterE_K, h1, h2.join]; rfl
    | cons x suf ih =>
      intro pre h a ha
      have hx : xs[pre.length]? = some x := by rw [h]; simp
      rw [iterE_K, hstep _ _ _ hx ha]
      simp only [runX]
      cases hs : step a x with
      | inl a' =>
        simp only [joinK_eq]
        have := ih (pre ++ [x]) (by simp [h]) a' (by simpa using hinv _ _ _ _ hx ha hs)
        simpa using this
      | inr o => exact (hexit _ _ _ _ hx ha hs).join _
  exact key xs [] rfl a ha
/-- Rounds that look for something. -/
theorem iter_all {f : List D → Option (Out α)} {l n : Nat} {p : Nat → Bool} {o1 o2 : Option (Out α)} (hstep : ∀ i, i < n → f [I i] = if p i = true then some (.out l [I (i + 1 : Nat)]) else o1)
    (hend : f [I n] = o2) (h1 : Exits l o1) (h2 : Exits l o2) : iterE f l [I 0] = if (List.range n).all p = true then o2 else o1 := by
  have key : ∀ k i, i + k = n → iterE f l [I i] = if (List.range' i k).all p = true then o2 else o1 := by
    intro k
    induction k with
    | zero =>
      intro i h
      obtain rfl : i = n := by omega
      rw [iterE_K, hend, h2.join]; simp
    | succ k ih =>
      intro i h
      rw [iterE_K, hstep i (by omega)]
      cases hp : p i with
      | true =>
        rw [if_pos rfl, joinK_eq, ih (i + 1) (by omega), List.range'_succ, List.all_cons, hp, Bool.true_and]
      | false =>
        rw [if_neg (by simp), h1.join, List.range'_succ, List.all_cons, hp, Bool.false_and, if_neg (by simp)]
  have := key n 0 (by omega)
  rw [List.range_eq_range']
  exact this
end
attribute [simp] valL SV.val Ex.den denRow
end
end Go.Proofs.YtfphabkdgdgnbaaGreatDoor.SE
set_option linter.unusedVariables false
set_option linter.unusedSimpArgs false
set_option linter.unusedSectionVars false
namespace Go.Proofs.YtfphabkdgdgnbaaGreatDoor.SE
open Go Go.RowKit Go.Proofs.YtfphabkdgdgnbaaGreatDoor.AE
universe u

/-! what is handed in, as data -/
def memOf (w : World) : Mem := fun b o => w.cell? ⟨b, o, none⟩
def Cells (P : Program) (M : Mem) : List D → List LT → List Value → Prop
  | [], lts, cs => lts = [] ∧ cs = []
  | d :: ds, lts, cs => ∃ lt lts' u us, lts = lt :: lts' ∧ cs = u :: us ∧ d.Rd P M lt u ∧ Cells P M ds lts' us
theorem Cells.row {P : Program} {M : Mem} {b : Nat} : ∀ {ds : List D} {lts : List LT} {cs : List Value} {o : Nat}, Cells P M ds lts cs → (∀ (j : Nat) (u : Value), cs[j]? = some u → M b (o + j) = some u) → RdRow P M ds lts b o
  | [], lts, cs, o, h, _ => by simp only [Cells] at h; simp only [RdRow]; exact h.1
  | d :: ds, lts, cs, o, h, hM => by
    simp only [Cells] at h
    obtain ⟨lt, lts', u, us, rfl, rfl, h1, h2⟩ := h
    simp only [RdRow]
    exact ⟨lt, lts', u, rfl, hM 0 u rfl, h1, h2.row fun j v hj => by rw [show o + 1 + j = o + (j + 1) by omega]; exact hM (j + 1) v (by simpa using hj)⟩
theorem Cells.append {P : Program} {M : Mem} : ∀ {ds ds' : List D} {lts lts' : List LT} {cs cs' : List Value}, Cells P M ds lts cs → Cells P M ds' lts' cs' → Cells P M (ds ++ ds') (lts ++ lts') (cs ++ cs')
  | [], ds', lts, lts', cs, cs', h, k => by simp only [Cells] at h; obtain ⟨rfl, rfl⟩ := h; exact k
  | d :: ds, ds', lts, lts', cs, cs', h, k => by
    simp only [Cells] at h
    obtain ⟨lt, l', u, us, rfl, rfl, h1, h2⟩ := h
    exact ⟨lt, l' ++ lts', u, us ++ cs', rfl, rfl, h1, h2.append k⟩
theorem Cells.len {P : Program} {M : Mem} : ∀ {ds : List D} {lts : List LT} {cs : List Value}, Cells P M ds lts cs → lts.length = ds.length ∧ cs.length = ds.length
  | [], lts, cs, h => by simp only [Cells] at h; obtain ⟨rfl, rfl⟩ := h; exact ⟨rfl, rfl⟩
  | d :: ds, lts, cs, h => by
    simp only [Cells] at h
    obtain ⟨lt, l', u, us, rfl, rfl, h1, h2⟩ := h
    have := h2.len
    simp [this.1, this.2]

/-- What is read of a type, at a depth, is data of a form. -/
structure DecT {α : Type} (P : Program) (n : Nat) (t : TypeId) (enc : α → List D) (lts : List LT) (wf : α → Prop) : Prop where
  sz : lts.length = P.cellsOf t
  rd : ∀ {H : Type} (e : TypeId × Value → H) (w : World) (cs : List Value) (x : DataW H × List MemPlace), DataW.trod e P w 0 (fun _ => true) true n t cs = some x → ∃ a, Cells P (memOf w) (enc a) lts cs ∧ wf a

section
variable {P : Program} {n : Nat} {t : TypeId}
theorem cells1 {M : Mem} {x : Value} (h : x.oneCell' = true) : Cells P M [.v x] [.sc] [x] := ⟨.sc, [], x, [], rfl, rfl, by simp [D.Rd, h], rfl, rfl⟩
theorem decT_int {k : IntKind} (ht : P.underlying t = some (.int k)) (hc : P.cellsOf t = 1) : DecT P n t (fun z : Int => [.v (.int k z)]) [.sc] fun z => (Lit.int k z).wf = true :=
  ⟨by rw [hc]; rfl, fun e w cs x h => by
    obtain ⟨z, rfl, _, hw⟩ := DataW.trod_int ht h
    exact ⟨z, cells1 rfl, hw⟩⟩
theorem decT_bool (ht : P.underlying t = some .bool) (hc : P.cellsOf t = 1) : DecT P n t (fun z : Bool => [.v (.bool z)]) [.sc] fun _ => True :=
  ⟨by rw [hc]; rfl, fun e w cs x h => by
    obtain ⟨z, rfl, _⟩ := DataW.trod_bool ht h
    exact ⟨z, cells1 rfl, trivial⟩⟩
theorem decT_string (ht : P.underlying t = some .string) (hc : P.cellsOf t = 1) : DecT P n t (fun z : ByteArray => [.v (.string z)]) [.sc] fun s => s.size ≤ maxLen :=
  ⟨by rw [hc]; rfl, fun e w cs x h => by
    obtain ⟨z, rfl, _, hw⟩ := DataW.trod_string ht h
    exact ⟨z, cells1 rfl, hw⟩⟩
theorem collectT {α : Type} {R : Nat → α → Prop} : ∀ (m : Nat), (∀ i, i < m → ∃ a, R i a) → ∃ xs : List α, xs.length = m ∧ ∀ i a, xs[i]? = some a → R i a
  | 0, _ => ⟨[], rfl, fun i a h => by simp at h⟩
  | m + 1, h => by
    obtain ⟨xs, hl, hx⟩ := collectT m fun i hi => h i (Nat.lt_succ_of_lt hi)
    obtain ⟨a, ha⟩ := h m (Nat.lt_succ_self m)
    refine ⟨xs ++ [a], by simp [hl], fun i b hb => ?_⟩
    rcases Nat.lt_or_ge i xs.length with hi | hi
    · rw [List.getElem?_append_left hi] at hb; exact hx i b hb
    · rw [List.getElem?_append_right hi] at hb
      have : i - xs.length = 0 := by
        rcases Nat.eq_zero_or_pos (i - xs.length) with h0 | h0
        · exact h0
        · rw [List.getElem?_eq_none (by simp; omega)] at hb; cases hb
      rw [this] at hb
      simp at hb; subst hb
      have : i = m := by omega
      subst this; exact ha
theorem rows_of {M : Mem} {lts : List LT} {b : Nat} : ∀ {rs : List (List D)} {o : Nat}, (∀ (i : Nat) (r : List D), rs[i]? = some r → RdRow P M r lts b (o + i * lts.length)) → RdRows P M rs lts b o
  | [], o, h => by simp only [RdRows]
  | r :: rs, o, h => by
    simp only [RdRows]
    refine ⟨by simpa using h 0 r rfl, rows_of fun i r' hr => ?_⟩
    have := h (i + 1) r' (by simpa using hr)
    rw [show o + lts.length + i * lts.length = o + (i + 1) * lts.length by rw [Nat.succ_mul]; omega]; exact this
theorem decT_slice {α : Type} {enc : α → List D} {lts : List LT} {wf : α → Prop} {e : TypeId} (ht : P.underlying t = some (.slice e)) (hc : P.cellsOf t = 1) (hlay : layE P e = some lts) (h0 : DecT P n e enc lts wf) :
    DecT P (n + 1) t (fun xs : List α => [.l (xs.map enc)]) [.sl e] fun xs => xs.length ≤ maxLen ∧ ∀ a ∈ xs, wf a :=
  ⟨by rw [hc]; rfl, fun e' w cs x h => by
    have hpos := layE_len hlay
    rcases DataW.trod_slice ht h with ⟨rfl, _⟩ | ⟨a, len, cap, elems, rest, m, hm, rfl, _, _, hl, hcap, hlen, hel, _, _⟩
    · refine ⟨[], ⟨.sl e, [], _, [], rfl, rfl, ?_, rfl, rfl⟩, by simp, fun a ha => by cases ha⟩
      simp only [D.Rd, List.map_nil]
      exact ⟨e, lts, none, 0, 0, rfl, hlay, rfl, rfl, Nat.le_refl _, fun h => absurd rfl h⟩
    · obtain rfl : n = m := by omega
      have each : ∀ i, i < len → ∃ b : α, wf b ∧ ∃ c : List Value, c.length = lts.length ∧ Cells P (memOf w) (enc b) lts c ∧ ∀ j u, c[j]? = some u → w.cell? (a.add (i * lts.length + j)) = some u := by
        intro i hi
        have h1 := hel i hi
        rw [List.getElem?_eq_getElem (by omega)] at h1
        simp only [Option.bind_eq_some_iff] at h1
        obtain ⟨c, hcs, h1⟩ := h1
        obtain ⟨b, hK, hwf⟩ := h0.rd e' w c _ h1
        obtain ⟨_, hcl, hcc⟩ := World.cells?_some hcs
        refine ⟨b, hwf, c, by rw [hcl, h0.sz], hK, fun j u hu => ?_⟩
        have hj : j < c.length := by
          rcases Nat.lt_or_ge j c.length with h | h
          · exact h
          · rw [List.getElem?_eq_none h] at hu; cases hu
        have := hcc j (by omega)
        rw [hu] at this
        rw [h0.sz, ← this]
        congr 1
        unfold Addr.add
        by_cases h1 : i * P.cellsOf e = 0 <;> by_cases h2 : j = 0 <;> simp [h1, h2, Nat.add_assoc]
      obtain ⟨xs, hxl, hx⟩ := collectT len each
      refine ⟨xs, ⟨.sl e, [], _, [], rfl, rfl, ?_, rfl, rfl⟩, by rw [hxl]; omega, fun b hb => ?_⟩
      · simp only [D.Rd]
        refine ⟨e, lts, some a, len, cap, rfl, hlay, rfl, by simp [hxl], hl, fun hne => ?_⟩
        have h0len : 0 < len := by
          rcases Nat.eq_zero_or_pos len with h0 | h0
          · exfalso; apply hne; rw [h0] at hxl; simp [List.length_eq_zero_iff.1 hxl]
          · exact h0
        have hspot : a.spot = none := by
          obtain ⟨_, c, hcl, _, hcc⟩ := hx 0 xs[0] (List.getElem?_eq_getElem (by omega))
          have := hcc 0 c[0] (List.getElem?_eq_getElem (by omega))
          exact World.cell?_spot (by simpa [Addr.add] using this)
        obtain ⟨ab, ao, as⟩ := a
        simp only at hspot; subst hspot
        refine ⟨ab, ao, rfl, rows_of fun i r hr => ?_⟩
        rw [List.getElem?_map, Option.map_eq_some_iff] at hr
        obtain ⟨b, hb, rfl⟩ := hr
        obtain ⟨_, c, hcl, hK, hcc⟩ := hx i b hb
        refine hK.row fun j u hu => ?_
        have := hcc j u hu
        show w.cell? ⟨ab, ao + i * lts.length + j, none⟩ = some u
        rw [← this, Nat.add_assoc]; congr 1
        unfold Addr.add
        by_cases hz : i * lts.length + j = 0
        · rw [if_pos hz, hz]; rfl
        · rw [if_neg hz]
      · obtain ⟨i, hi⟩ := List.getElem?_of_mem hb
        exact (hx i b hi).1⟩
/-- The same of fields from an offset on. -/
structure DecTF {α : Type} (P : Program) (n : Nat) (fs : List Field) (off : Nat) (enc : α → List D) (lts : List LT) (wf : α → Prop) : Prop where
  rd : ∀ {H : Type} (e : TypeId × Value → H) (w : World) (cs : List Value), (∀ (i : Nat) (f : Field), fs[i]? = some f → ∃ x, DataW.trod e P w 0 (fun _ => true) true n f.type ((cs.drop f.offset).take (P.cellsOf f.type)) = some x) → ∃ a, Cells P (memOf w) (enc a) lts ((cs.drop off).take lts.length) ∧ wf a
theorem decT_last {α : Type} {enc : α → List D} {lts : List LT} {wf : α → Prop} {f : Field} {off : Nat} (h : DecT P n f.type enc lts wf) (ho : f.offset = off) : DecTF P n [f] off enc lts wf :=
  ⟨fun e w cs hf => by
    obtain ⟨x, hx⟩ := hf 0 f rfl
    obtain ⟨a, hK, hw⟩ := h.rd e w _ x hx
    rw [ho, ← h.sz] at hK
    exact ⟨a, hK, hw⟩⟩
theorem decT_cons {α β : Type} {enc : α → List D} {enc' : β → List D} {lts lts' : List LT} {wf : α → Prop} {wg : β → Prop} {f : Field} {fs : List Field} {off : Nat} (h : DecT P n f.type enc lts wf) (ho : f.offset = off) (hr : DecTF P n fs (off + lts.length) enc' lts' wg) :
    DecTF P n (f :: fs) off (fun p : α × β => enc p.1 ++ enc' p.2) (lts ++ lts') fun p => wf p.1 ∧ wg p.2 :=
  ⟨fun e w cs hf => by
    obtain ⟨x, hx⟩ := hf 0 f rfl
    obtain ⟨a, hK, hw⟩ := h.rd e w _ x hx
    obtain ⟨b, hKb, hwb⟩ := hr.rd e w cs fun i g hg => hf (i + 1) g (by simpa using hg)
    rw [ho, ← h.sz] at hK
    refine ⟨(a, b), ?_, hw, hwb⟩
    have := hK.append hKb
    rw [List.length_append, List.take_add, List.drop_drop]
    exact this⟩
theorem decT_struct {α : Type} {enc : α → List D} {lts : List LT} {wf : α → Prop} {fs : Array Field} (ht : P.underlying t = some (.struct fs)) (hc : P.cellsOf t = lts.length) (h : DecTF P n fs.toList 0 enc lts wf) : DecT P (n + 1) t enc lts wf :=
  ⟨hc.symm, fun e w cs x hx => by
    obtain ⟨xs, m, hm, _, hl, hxl, hf⟩ := DataW.trod_struct ht hx
    obtain rfl : n = m := by omega
    obtain ⟨a, hK, hw⟩ := h.rd e w cs fun i f hi => by
      have hi' : fs[i]? = some f := by simpa using hi
      have := hf i f hi'
      have hlt : i < xs.length := by
        rw [hxl]
        rcases Nat.lt_or_ge i fs.size with h | h
        · exact h
        · rw [Array.getElem?_eq_none h] at hi'; cases hi'
      exact ⟨xs[i], by rw [this, List.getElem?_eq_getElem hlt]⟩
    refine ⟨a, ?_, hw⟩
    have e1 : (cs.drop 0).take lts.length = cs := by rw [List.drop_zero]; exact List.take_of_length_le (by rw [hl, hc]; exact Nat.le_refl _)
    rw [e1] at hK; exact hK⟩
/-- Under another form. -/
theorem decT_iso {α β : Type} {enc : α → List D} {enc' : β → List D} {lts : List LT} {wf : α → Prop} {wf' : β → Prop} (g : α → β) (he : ∀ a, enc' (g a) = enc a) (hwf : ∀ a, wf a → wf' (g a)) (h : DecT P n t enc lts wf) : DecT P n t enc' lts wf' :=
  ⟨h.sz, fun e w cs x hx => by
    obtain ⟨a, hK, hw⟩ := h.rd e w cs x hx
    exact ⟨g a, by rw [he]; exact hK, hwf a hw⟩⟩
/-- At whatever depth. -/
theorem decT_of {α : Type} {enc : α → List D} {lts : List LT} {wf : α → Prop} (h : ∀ n, DecT P n t enc lts wf) {H : Type} {e : TypeId × Value → H} {w : World} {v : Value} {x : DataW H} {ps : List MemPlace} (ht : DataW.Trod e P w 0 (fun _ => true) true t v x ps) :
    ∃ a, Cells P (memOf w) (enc a) lts v.cells.toList ∧ wf a := by
  obtain ⟨fuel, hf⟩ := ht
  exact (h fuel).rd e w _ _ hf
theorem decT_zero {α : Type} {enc : α → List D} {lts : List LT} {wf : α → Prop} (hs : lts.length = P.cellsOf t) : DecT P 0 t enc lts wf := ⟨hs, fun e w cs x h => by simp [DataW.trod] at h⟩
end
/-- How a row of cells is handed in. -/
def svOf : List LT → Nat → List SV
  | [], _ => []
  | .sc :: l, i => .s (.x i) :: svOf l (i + 1)
  | .sl e :: l, i => .d e (.x i) :: svOf l (i + 1)
theorem cells_RL {P : Program} {cx : Cx} : ∀ {ds : List D} {lts : List LT} {cs : List Value} {i : Nat}, Cells P cx.M ds lts cs → (∀ (j : Nat) (d : D), ds[j]? = some d → cx.ρ[i + j]? = some d) → RL P cx (svOf lts i) cs
  | [], lts, cs, i, h, _ => by simp only [Cells] at h; obtain ⟨rfl, rfl⟩ := h; simp [svOf, RL]
  | d :: ds, lts, cs, i, h, hρ => by
    simp only [Cells] at h
    obtain ⟨lt, lts', u, us, rfl, rfl, h1, h2⟩ := h
    have hr := cells_RL (i := i + 1) h2 fun j d hj => by rw [show i + 1 + j = i + (j + 1) by omega]; exact hρ (j + 1) d (by simpa using hj)
    have h0 := hρ 0 d rfl
    cases lt with
    | sc =>
      simp only [svOf, RL]
      refine ⟨u, us, rfl, ?_, hr⟩
      cases d with
      | v x => simp only [D.Rd] at h1; obtain ⟨_, rfl, ho⟩ := h1; exact ⟨h0, ho⟩
      | l rows => simp only [D.Rd] at h1; obtain ⟨_, _, _, _, _, h, _⟩ := h1; cases h
    | sl e =>
      simp only [svOf, RL]
      exact ⟨u, us, rfl, ⟨d, h0, h1⟩, hr⟩
/-! at the start of a law -/
section
variable [Tb] {P : Program}
theorem WR.start {w : World} (hG : ∀ b o v, Tb.at b o = some v → w.cell? ⟨b, o, none⟩ = some v) (ρ : List D) : WR P (memOf w) w (blkOf []) ⟨ρ, [], memOf w⟩ [] w :=
  ⟨.rfl, fun _ _ _ h => h, fun _ _ _ _ => rfl, rfl, fun i o p h => by simp at h, fun i j o o' p q b h => by simp at h, hG⟩
/-- What is computed is what a call returns. -/
theorem SigOK.call {g : Sig} {m : List D → Option (List D)} (h : SigOK P g m) (hHi : g.Hi = []) {w : World} (hG : ∀ b o v, Tb.at b o = some v → w.cell? ⟨b, o, none⟩ = some v) {ρ outs : List D} {vs : List Value} (hρ : ρ.length = g.ni)
    (ha : RL P ⟨ρ, [], memOf w⟩ g.args vs) (hm : m ρ = some outs) (ho : outs.length = g.no) : Calls P g.f vs.toArray w fun e w' => ∃ σ' M' v, e = .returned v ∧ g.res.R P ⟨ρ ++ outs, σ', M'⟩ v ∧ Below w.heap.size w w' := by
  refine (h ρ [] (memOf w) w vs outs hρ (by rw [hHi]; exact WR.start hG ρ) ha hm ho).mono ?_
  rintro e w' ⟨σ', M', v, rfl, _, _, hW, hr⟩
  refine ⟨σ', M', v, rfl, hr, Kp.below ?_⟩
  have : blkOf [] = fun _ => False := by
    funext b; simp [blkOf]
  rw [← this]; exact hW.keep
/-- A function that is told elsewhere. -/
theorem SigOK.of_calls {g : Sig} {m : List D → Option (List D)} (hHi : g.Hi = []) (hHo : g.Ho = [])
    (h : ∀ (ρ : List D) (M : Mem) (w : World) (vs : List Value) (outs : List D), ρ.length = g.ni → (∀ b o v, M b o = some v → w.cell? ⟨b, o, none⟩ = some v) → (∀ b o v, Tb.at b o = some v → M b o = some v) → RL P ⟨ρ, [], M⟩ g.args vs → m ρ = some outs →
      Calls P g.f vs.toArray w fun e w' => ∃ M' v, e = .returned v ∧ Below w.heap.size w w' ∧ M.le M' ∧ (∀ b o v, M' b o = some v → w'.cell? ⟨b, o, none⟩ = some v) ∧ (∀ b o, b < w.heap.size → M' b o = M b o) ∧ g.res.R P ⟨ρ ++ outs, [], M'⟩ v) : SigOK P g m := by
  intro ρ σ M w vs outs hρ hW ha hm ho
  rw [hHi] at hW
  have hσ : σ = [] := List.length_eq_zero_iff.1 hW.len
  subst hσ
  refine (h ρ M w vs outs hρ hW.mem hW.gl ha hm).mono ?_
  rintro e w' ⟨M', v, rfl, hb, hle, hmem, hold, hr⟩
  refine ⟨[], M', v, rfl, List.prefix_rfl, hle, ?_, hr⟩
  rw [hHo]
  have hf : blkOf [] = fun _ => False := by
    funext b; simp [blkOf]
  exact ⟨by rw [hf]; exact Kp.of_below hb, hmem, fun b o hb _ => hold b o hb, rfl, fun i o p h => by simp at h, fun i j o o' p q b h => by simp at h, fun b o v hv => hle b o v (hW.gl b o v hv)⟩
theorem ent_tree {g : Sig} {sg : List Sig} {T : Tree Unit} {n k : Nat} (h : (sg[n]?).bind (fun g => fnTree P sg (drawX P sg) g k) = some T) (hg : sg[n]? = some g) : EntOK P sg (drawX P sg) g (.tree T) := by
  rw [hg] at h; exact ⟨k, h⟩
end
end Go.Proofs.YtfphabkdgdgnbaaGreatDoor.SE
