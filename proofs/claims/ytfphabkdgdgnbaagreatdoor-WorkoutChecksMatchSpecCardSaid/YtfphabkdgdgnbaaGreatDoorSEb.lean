import Derived.Test.YtfphabkdgdgnbaaGreatDoorSEa
set_option linter.unusedVariables false
set_option linter.unusedSimpArgs false
set_option linter.unusedSectionVars false
namespace Go.Proofs.YtfphabkdgdgnbaaGreatDoor.SE
open Go Go.RowKit Go.Proofs.YtfphabkdgdgnbaaGreatDoor.AE
variable [Tb]

/-- A world in which what is known lies as it does here. -/
structure Agree (cx : Cx) (H : SH) (w w' : World) : Prop where
  mem : ∀ b o v, cx.M b o = some v → w'.cell? ⟨b, o, none⟩ = some v
  obj : ∀ (i : Nat) (o : SObj) (p : Pl) (b : Nat), H[i]? = some o → o.live = true → cx.σ[i]? = some p → p.blk = some b → w'.heap[b]? = w.heap[b]?
/-- A value, whatever becomes of the rest. -/
def VOK (P : Program) (cx : Cx) (H : SH) (w : World) (s : Sem Value) (a : SV) : Prop := ∃ v, a.R P cx v ∧ ∀ w', Agree cx H w w' → s.run P w' = .ok v w'
/-- What binds has bound. -/
def Bd (P : Program) (orc : Nat → List D → Option (List D)) (ρ : List D) (base : Nat) : Option (Pr × Nat) → Prop
  | none => True
  | some (pr, k) => ∃ ds, pr.den P orc ρ = some ds ∧ ds.length = k ∧ ∀ j d, ds[j]? = some d → ρ[base + j]? = some d
abbrev VS := Option (Pr × Nat) × (Nat → SV)

section
variable {P : Program} {orc : Nat → List D → Option (List D)} {M0 : Mem} {w0 : World} {S : Nat → Prop} {cx : Cx} {H : SH} {w : World}
theorem WR.agree (h : WR P M0 w0 S cx H w) : Agree cx H w w := ⟨h.mem, fun _ _ _ _ _ _ _ _ => rfl⟩

/-! scalars -/
def pureStep (P : Program) (f : PF) (args : List SV) : Option VS :=
  match SV.toV?.all args with
  | some vs => (f.run P vs).map fun v => (none, fun _ => .c v)
  | none => bif SV.flat.all args then some (some (.pure f args, 1), fun b => .s (.x b)) else none
theorem pureStep_ok {f : PF} {args : List SV} {vs : List Value} {st : VS} {base : Nat} (ha : RL P cx args vs) (h : pureStep P f args = some st) (hb : Bd P orc cx.ρ base st.1) :
    ∃ v, (st.2 base).R P cx v ∧ f.run P vs = some v := by
  unfold pureStep at h
  split at h
  · rename_i vs' hvs
    simp only [Option.map_eq_some_iff] at h
    obtain ⟨v, hv, rfl⟩ := h
    have e := valL_R (cx := cx) args (toVL_val cx.ρ args hvs) ha
    subst e
    exact ⟨v, rfl, hv⟩
  · cases hf : SV.flat.all args with
    | false => simp [hf] at h
    | true =>
      simp only [hf, cond_true, Option.some.injEq] at h; subst h
      obtain ⟨ds, h1, h2, h3⟩ := hb
      simp only [Pr.den, Option.bind_eq_some_iff] at h1
      obtain ⟨vs', hvs, v, hv, h1⟩ := h1
      cases h1c : v.oneCell' with
      | false => simp [h1c] at h1
      | true =>
        simp only [h1c, cond_true, Option.some.injEq] at h1; subst h1
        have e := valL_R (cx := cx) args hvs ha
        subst e
        exact ⟨v, ⟨by simpa [Ex.den] using h3 0 _ rfl, h1c⟩, hv⟩

/-! data -/
def asData (H : SH) : SV → Option (TypeId × Ex)
  | .d e x => some (e, x)
  | .own id => match H[id]? with
    | some (.grow e x) => some (e, x)
    | _ => none
  | _ => none
theorem asData_ok (h : WR P M0 w0 S cx H w) {a : SV} {e : TypeId} {x : Ex} {v : Value} (ha : asData H a = some (e, x)) (hr : a.R P cx v) : ∃ d, x.den cx.ρ = some d ∧ d.Rd P cx.M (.sl e) v := by
  unfold asData at ha
  split at ha
  · simp only [Option.some.injEq, Prod.mk.injEq] at ha
    obtain ⟨rfl, rfl⟩ := ha; exact hr
  · rename_i id
    split at ha
    · rename_i e' x' ho
      simp only [Option.some.injEq, Prod.mk.injEq] at ha
      obtain ⟨rfl, rfl⟩ := ha
      simp only [SV.R] at hr
      obtain ⟨p, hp, rfl, _⟩ := hr
      obtain ⟨rows, lts, h1, h2, h3⟩ := h.obj id _ p ho hp
      refine ⟨_, h1, ?_⟩
      simp only [D.Rd]
      rcases h3 with ⟨rfl, _, h4⟩ | ⟨b, c, cap, et, a1, a2, a3, a4, a5, a6, a7, a8⟩
      · exact ⟨e', lts, none, 0, 0, rfl, h2, h4, rfl, Nat.le_refl _, fun hne => absurd rfl hne⟩
      · exact ⟨e', lts, _, rows.length, cap, rfl, h2, a4, rfl, a5, fun _ => ⟨b, 0, rfl, a7⟩⟩
    · cases ha
  · cases ha
/-- A cell of a row. -/
def leafOf (H : SH) : LT → SV → Option Ex
  | .sc, .s x => some x
  | .sc, .c v => bif v.oneCell' then some (.v v) else none
  | .sl e, .c (.slice none 0 0) => some (.lit [])
  | .sl e, a => (asData H a).bind fun p => bif Nat.beq p.1 e then some p.2 else none
  | _, _ => none
theorem leafOf_ok (h : WR P M0 w0 S cx H w) {lt : LT} {a : SV} {x : Ex} {v : Value} (hlt : ∀ e, lt = .sl e → ∃ lts, layE P e = some lts) (ha : leafOf H lt a = some x) (hr : a.R P cx v) : ∃ d, x.den cx.ρ = some d ∧ d.Rd P cx.M lt v := by
  unfold leafOf at ha
  split at ha
  · simp only [Option.some.injEq] at ha; subst ha
    exact ⟨_, hr.1, rfl, rfl, hr.2⟩
  · rename_i u
    cases h1 : u.oneCell' with
    | false => simp [h1] at ha
    | true =>
      simp only [h1, cond_true, Option.some.injEq] at ha; subst ha
      simp only [SV.R] at hr; subst hr
      exact ⟨_, rfl, rfl, rfl, h1⟩
  · rename_i e
    simp only [Option.some.injEq] at ha; subst ha
    simp only [SV.R] at hr; subst hr
    obtain ⟨lts, hl⟩ := hlt e rfl
    exact ⟨.l [], rfl, e, lts, none, 0, 0, rfl, hl, rfl, rfl, Nat.le_refl _, fun hne => absurd rfl hne⟩
  · rename_i a' e _
    simp only [Option.bind_eq_some_iff] at ha
    obtain ⟨⟨e', x'⟩, h1, ha⟩ := ha
    cases hb : Nat.beq e' e with
    | false => simp [hb] at ha
    | true =>
      simp only [hb, cond_true, Option.some.injEq] at ha; subst ha
      have := Nat.eq_of_beq_eq_true hb; subst this
      exact asData_ok h h1 hr
  · cases ha
/-- What a leaf is. -/
def leafSV : LT → Ex → SV
  | .sc, x => .s x
  | .sl e, x => .d e x
theorem leafSV_ok {lt : LT} {x : Ex} {d : D} {v : Value} (hx : x.den cx.ρ = some d) (hr : d.Rd P cx.M lt v) : (leafSV lt x).R P cx v := by
  cases lt with
  | sc =>
    cases d with
    | v u => simp only [D.Rd] at hr; obtain ⟨_, rfl, h1⟩ := hr; exact ⟨hx, h1⟩
    | l rows => simp only [D.Rd] at hr; obtain ⟨e, lts, a, n, c, h1, _⟩ := hr; cases h1
  | sl e => exact ⟨d, hx, hr⟩
/-- The leafs of a row whose variables are bound. -/
def rowSV (base : Nat) : List LT → Nat → List SV
  | [], _ => []
  | lt :: l, j => leafSV lt (.x (base + j)) :: rowSV base l (j + 1)
theorem rowSV_len (base : Nat) : ∀ (l : List LT) (j : Nat), (rowSV base l j).length = l.length
  | [], _ => rfl
  | lt :: l, j => by simp [rowSV, rowSV_len base l (j + 1)]
theorem rowSV_get (base : Nat) : ∀ (l : List LT) (j i : Nat) {a : SV}, (rowSV base l j)[i]? = some a → ∃ lt, l[i]? = some lt ∧ a = leafSV lt (.x (base + (j + i)))
  | [], j, i, a, h => by simp [rowSV] at h
  | lt :: l, j, 0, a, h => by simp [rowSV] at h; exact ⟨lt, rfl, by rw [← h]; rfl⟩
  | lt :: l, j, i + 1, a, h => by
    simp only [rowSV, List.getElem?_cons_succ] at h
    obtain ⟨lt', h1, h2⟩ := rowSV_get base l (j + 1) i h
    exact ⟨lt', by simpa using h1, by rw [h2]; congr 3; omega⟩

/-! loads -/
def sRd (P : Program) (t : TypeId) (cs : List SV) (off : Nat) : Option SV :=
  (pureRun P (isAgg t)).bind fun ag => match ag with
    | true => (pureRun P (sizeOf t)).bind fun n => bif Nat.ble (off + n) cs.length then some (.agg ((cs.drop off).take n)) else none
    | false => cs[off]?
def sLoad (P : Program) (t : TypeId) (addr : SV) (H : SH) : Option SV :=
  match addr with
  | .ptr id off => match H[id]? with
    | some (.box cs _) => sRd P t cs off
    | _ => none
  | .sp cs => sRd P t cs 0
  | _ => none
theorem loadCells_ok (P : Program) {b off : Nat} {l : List Value} {w : World} (h : ∀ j v, l[j]? = some v → w.cell? ⟨b, off + j, none⟩ = some v) : (loadCells ⟨b, off, none⟩ l.length).run P w = .ok l.toArray w :=
  run_loadCells_list (P := P) w ⟨b, off, none⟩ l fun j v hj => by rw [addr_add]; exact h j v hj
theorem load_ok (h : WR P M0 w0 S cx H w) {t : TypeId} {addr a : SV} {x : Value} (hx : addr.R P cx x) (hr : sLoad P t addr H = some a) : VOK P cx H w (Instr.loadAt t x) a := by
  unfold sLoad at hr
  -- cells that are there in every such world
  have rd : ∀ {b o : Nat} {cs : List SV} {off : Nat}, x = .pointer (some ⟨b, o + off, none⟩) →
      (∀ (j : Nat) (c : SV), cs[j]? = some c → ∃ v, c.R P cx v ∧ ∀ w', Agree cx H w w' → w'.cell? ⟨b, o + j, none⟩ = some v) →
      sRd P t cs off = some a → VOK P cx H w (Instr.loadAt t x) a := by
    intro b o cs off hx hcs hr
    subst hx
    simp only [sRd, Option.bind_eq_some_iff] at hr
    obtain ⟨ag, hag, hr⟩ := hr
    split at hr
    · simp only [Option.bind_eq_some_iff] at hr
      obtain ⟨n, hn, hr⟩ := hr
      cases hb : Nat.ble (off + n) cs.length with
      | false => simp [hb] at hr
      | true =>
        simp only [hb, cond_true, Option.some.injEq] at hr; subst hr
        have hle := Nat.le_of_ble_eq_true hb
        have hex : ∃ l : List Value, l.length = n ∧ RL P cx ((cs.drop off).take n) l ∧ ∀ w', Agree cx H w w' → ∀ j v, l[j]? = some v → w'.cell? ⟨b, o + off + j, none⟩ = some v := by
          have each : ∀ k, k ≤ n → ∃ l : List Value, l.length = k ∧ (∀ (i : Nat) (c : SV), i < k → cs[off + i]? = some c → ∃ v, l[i]? = some v ∧ c.R P cx v) ∧ ∀ w', Agree cx H w w' → ∀ j v, l[j]? = some v → w'.cell? ⟨b, o + off + j, none⟩ = some v := by
            intro k
            induction k with
            | zero => intro _; exact ⟨[], rfl, fun i c hi => by omega, fun w' _ j v hj => by simp at hj⟩
            | succ k ih =>
              intro hk
              obtain ⟨l, h1, h2, h3⟩ := ih (by omega)
              have hlt : off + k < cs.length := by omega
              obtain ⟨v, hv, hc⟩ := hcs (off + k) _ (List.getElem?_eq_getElem hlt)
              refine ⟨l ++ [v], by simp [h1], fun i c hi hic => ?_, fun w' hw' j u hj => ?_⟩
              · rcases Nat.lt_or_ge i k with hlt' | hge
                · obtain ⟨u, a1, a2⟩ := h2 i c hlt' hic
                  exact ⟨u, by rw [List.getElem?_append_left (by omega)]; exact a1, a2⟩
                · obtain rfl : i = k := by omega
                  rw [List.getElem?_eq_getElem hlt] at hic
                  cases hic
                  exact ⟨v, by rw [List.getElem?_append_right (by omega)]; simp [h1], hv⟩
              · rcases Nat.lt_or_ge j l.length with hlt' | hge
                · rw [List.getElem?_append_left hlt'] at hj; exact h3 w' hw' j u hj
                · rw [List.getElem?_append_right hge] at hj
                  have hj0 : j - l.length = 0 := by
                    have := get_lt hj; simp at this; omega
                  rw [hj0] at hj; simp at hj; subst hj
                  obtain rfl : j = k := by omega
                  rw [Nat.add_assoc]; exact hc w' hw'
          obtain ⟨l, h1, h2, h3⟩ := each n (Nat.le_refl _)
          refine ⟨l, h1, RL_of _ _ (by simp; omega) fun i c hc => ?_, h3⟩
          rw [List.getElem?_take] at hc
          split at hc
          · rename_i hlt; rw [List.getElem?_drop] at hc; exact h2 i c hlt hc
          · cases hc
        obtain ⟨l, h1, h2, h3⟩ := hex
        refine ⟨.agg l.toArray, ⟨l, h2, rfl⟩, fun w' hw' => ?_⟩
        have hrun := loadCells_ok P (h3 w' hw')
        rw [h1] at hrun
        simp [Instr.loadAt, Instr.sureAddr, loadVar, pureRun_run hag w', pureRun_run hn w', hrun]
    · obtain ⟨v, hv, hc⟩ := hcs off _ hr
      exact ⟨v, hv, fun w' hw' => by simp [Instr.loadAt, Instr.sureAddr, loadVar, pureRun_run hag w', hc w' hw']⟩
  split at hr
  · rename_i id off
    simp only [SV.R] at hx
    obtain ⟨p, b, hp, hb, rfl⟩ := hx
    split at hr
    · rename_i cs e ho
      obtain ⟨b', c, h1, h2, h3, h4, h5⟩ := h.obj id _ p ho hp
      rw [hb] at h1; cases h1
      refine rd (b := b) (o := 0) (off := off) (by simp) (fun j a0 ha0 => ?_) hr
      obtain ⟨v, a1, a2⟩ := RL_get h4 ha0
      refine ⟨v, a2, fun w' hw' => ?_⟩
      have := hw'.obj id _ p b ho rfl hp hb
      simp [World.cell?, this, h3, ← Array.getElem?_toList, a1]
    · cases hr
  · rename_i cs
    simp only [SV.R] at hx
    obtain ⟨b, o, rfl, hx⟩ := hx
    refine rd (b := b) (o := o) (off := 0) rfl (fun j a0 ha0 => ?_) hr
    obtain ⟨v, a1, a2⟩ := RMem_get hx ha0
    exact ⟨v, a2, fun w' hw' => hw'.mem _ _ _ a1⟩
  · cases hr

/-! fields -/
def sPart (P : Program) (t : TypeId) (cs : List SV) (off : Nat) : Option SV :=
  (pureRun P (isAgg t)).bind fun ag => match ag with
    | true => (pureRun P (sizeOf t)).map fun n => .agg ((cs.drop off).take n)
    | false => cs[off]?
theorem part_ok {t : TypeId} {cs : List SV} {l : List Value} {off : Nat} {r : SV} (hl : RL P cx cs l) (hr : sPart P t cs off = some r) :
    ∃ v, r.R P cx v ∧ ∀ w, (part t l.toArray off).run P w = .ok v w := by
  simp only [sPart, Option.bind_eq_some_iff] at hr
  obtain ⟨ag, hag, hr⟩ := hr
  split at hr
  · simp only [Option.map_eq_some_iff] at hr
    obtain ⟨n, hn, rfl⟩ := hr
    refine ⟨.agg ((l.drop off).take n).toArray, ⟨_, RL_take (RL_drop hl off) n, rfl⟩, fun w => ?_⟩
    simp only [part, Sem.run_bind, pureRun_run hag w, Result.andThen_ok, if_true, pureRun_run hn w, Sem.run_pure]
    congr 2
    rw [List.extract_toArray, List.extract_eq_drop_take']
    rw [List.drop_take, Nat.add_sub_cancel_left]
  · obtain ⟨v, hv, hc⟩ := RL_get hl hr
    exact ⟨v, hc, fun w => by simp [part, pureRun_run hag w, hv]⟩
def sField (P : Program) (t : TypeId) (a : SV) (field : Nat) : Option VS :=
  match a with
  | .agg cs => match pureRun P (underlying t) with
    | some (.struct fields) => (fields[field]?).bind fun f => (sPart P f.type cs f.offset).map fun r => (none, fun _ => r)
    | _ => none
  | a => pureStep P (.field t field) [a]
theorem RL_one {a : SV} {v : Value} (h : a.R P cx v) : RL P cx [a] [v] := ⟨v, [], rfl, h, rfl⟩
theorem RL_two {a b : SV} {v u : Value} (h : a.R P cx v) (k : b.R P cx u) : RL P cx [a, b] [v, u] := ⟨v, [u], rfl, h, RL_one k⟩
theorem RL_three {a b c : SV} {v u x : Value} (h : a.R P cx v) (k : b.R P cx u) (l : c.R P cx x) : RL P cx [a, b, c] [v, u, x] := ⟨v, [u, x], rfl, h, RL_two k l⟩
theorem field_ok {t : TypeId} {field : Nat} {a : SV} {x : Value} {st : VS} {base : Nat} (hx : a.R P cx x) (hr : sField P t a field = some st) (hb : Bd P orc cx.ρ base st.1) : VOK P cx H w (Instr.field t x field) (st.2 base) := by
  unfold sField at hr
  split at hr
  · rename_i cs
    split at hr
    · rename_i fields hf
      simp only [Option.bind_eq_some_iff, Option.map_eq_some_iff] at hr
      obtain ⟨f, hfi, r, hr, rfl⟩ := hr
      simp only [SV.R] at hx
      obtain ⟨l, hl, rfl⟩ := hx
      obtain ⟨v, hv, hrun⟩ := part_ok (P := P) hl hr
      refine ⟨v, hv, fun w' _ => ?_⟩
      simp only [Instr.field, Sem.run_bind, pureRun_run hf w', Result.andThen_ok, hfi]
      simp [asAgg, hrun]
    · cases hr
  · obtain ⟨v, hv, hrun⟩ := pureStep_ok (RL_one hx) hr hb
    exact ⟨v, hv, fun w' _ => pureRun_run hrun w'⟩
def sFieldAddr (P : Program) (s : TypeId) (a : SV) (field : Nat) : Option VS :=
  match a with
  | .ptr id off => match pureRun P (underlying s) with
    | some (.struct fields) => (fields[field]?).bind fun f => (pureRun P (sizeOf f.type)).bind fun n => bif Nat.beq n 0 then none else some (none, fun _ => .ptr id (off + f.offset))
    | _ => none
  | .sp cs => match pureRun P (underlying s) with
    | some (.struct fields) => (fields[field]?).bind fun f => (pureRun P (sizeOf f.type)).bind fun n => bif Nat.beq n 0 || Nat.blt cs.length f.offset then none else some (none, fun _ => .sp (cs.drop f.offset))
    | _ => none
  | a => pureStep P (.fieldAddr s field) [a]
theorem fieldAddr_ok {s : TypeId} {field : Nat} {a : SV} {x : Value} {st : VS} {base : Nat} (hx : a.R P cx x) (hr : sFieldAddr P s a field = some st) (hb : Bd P orc cx.ρ base st.1) : VOK P cx H w (Instr.fieldAt s x field) (st.2 base) := by
  unfold sFieldAddr at hr
  split at hr
  · rename_i id off
    split at hr
    · rename_i fields hf
      simp only [Option.bind_eq_some_iff] at hr
      obtain ⟨f, hfi, n, hn, hr⟩ := hr
      cases hc : Nat.beq n 0 with
      | true => simp [hc] at hr
      | false =>
        simp only [hc, cond_false, Option.some.injEq] at hr; subst hr
        have hn0 : n ≠ 0 := Nat.ne_of_beq_eq_false hc
        simp only [SV.R] at hx
        obtain ⟨p, b, hp, hb', rfl⟩ := hx
        refine ⟨.pointer (some ⟨b, off + f.offset, none⟩), ⟨p, b, hp, hb', rfl⟩, fun w' _ => ?_⟩
        simp only [Instr.fieldAt, Sem.run_bind, pureRun_run hf w', Result.andThen_ok, hfi]
        simp [Instr.sureAddr, fieldPlace, pureRun_run hn w', hn0, addr_add]
    · cases hr
  · rename_i cs
    split at hr
    · rename_i fields hf
      simp only [Option.bind_eq_some_iff] at hr
      obtain ⟨f, hfi, n, hn, hr⟩ := hr
      cases hc : (Nat.beq n 0 || Nat.blt cs.length f.offset) with
      | true => simp [hc] at hr
      | false =>
        simp only [hc, cond_false, Option.some.injEq] at hr; subst hr
        simp only [Bool.or_eq_false_iff] at hc
        have hn0 : n ≠ 0 := Nat.ne_of_beq_eq_false hc.1
        have hle : f.offset ≤ cs.length := by
          have := hc.2; rcases Nat.lt_or_ge cs.length f.offset with h' | h'
          · have hh : Nat.blt cs.length f.offset = true := Nat.ble_eq_true_of_le h'
            rw [hh] at this; cases this
          · exact h'
        simp only [SV.R] at hx
        obtain ⟨b, o, rfl, hx⟩ := hx
        refine ⟨.pointer (some ⟨b, o + f.offset, none⟩), ⟨b, o + f.offset, rfl, RMem_drop hx _ hle⟩, fun w' _ => ?_⟩
        simp only [Instr.fieldAt, Sem.run_bind, pureRun_run hf w', Result.andThen_ok, hfi]
        simp [Instr.sureAddr, fieldPlace, pureRun_run hn w', hn0, addr_add]
    · cases hr
  · obtain ⟨v, hv, hrun⟩ := pureStep_ok (RL_one hx) hr hb
    exact ⟨v, hv, fun w' _ => pureRun_run hrun w'⟩
end
end Go.Proofs.YtfphabkdgdgnbaaGreatDoor.SE
set_option linter.unusedVariables false
set_option linter.unusedSimpArgs false
set_option linter.unusedSectionVars false
namespace Go.Proofs.YtfphabkdgdgnbaaGreatDoor.SE
open Go Go.RowKit Go.Proofs.YtfphabkdgdgnbaaGreatDoor.AE
variable [Tb]

section
variable {P : Program} {orc : Nat → List D → Option (List D)} {M0 : Mem} {w0 : World} {S : Nat → Prop} {cx : Cx} {H : SH} {w : World}
theorem nat_R {a : SV} {n : Nat} {v : Value} (h : a.nat cx.ρ = some n) (hr : a.R P cx v) : ∃ k, v = .int k (n : Int) := by
  simp only [SV.nat, Option.bind_eq_some_iff] at h
  obtain ⟨u, hu, hn⟩ := h
  have := val_R a hu hr; subst this
  unfold natOf at hn
  split at hn
  · simp only [Option.some.injEq] at hn; subst hn; exact ⟨_, rfl⟩
  · cases hn
def OptR (P : Program) (cx : Cx) : Option SV → Option Value → Prop
  | none, none => True
  | some a, some x => a.R P cx x
  | _, _ => False
theorem optNat_R {d n : Nat} {a : Option SV} {v : Option Value} (h : optNat cx.ρ d a = some n) (hr : OptR P cx a v) : (v = none ∧ n = d) ∨ ∃ k, v = some (.int k (n : Int)) := by
  cases a with
  | none => cases v with
    | none => simp only [optNat, Option.some.injEq] at h; exact .inl ⟨rfl, h.symm⟩
    | some x => exact hr.elim
  | some a => cases v with
    | none => exact hr.elim
    | some x => obtain ⟨k, rfl⟩ := nat_R (P := P) h hr; exact .inr ⟨k, rfl⟩
theorem bounds_run {isS : Bool} {len cap l h : Nat} {lo' hi' : Option Value} (A : (lo' = none ∧ l = 0) ∨ ∃ k, lo' = some (.int k (l : Int))) (B' : (hi' = none ∧ h = len) ∨ ∃ k, hi' = some (.int k (h : Int))) (h1 : l ≤ h) (h2 : h ≤ cap) (w : World) :
    (Instr.sliceBounds isS len cap lo' hi' none).run P w = .ok (l, h, cap) w := by
  rcases A with ⟨rfl, rfl⟩ | ⟨k, rfl⟩ <;> rcases B' with ⟨rfl, rfl⟩ | ⟨k2, rfl⟩ <;> simp [Instr.sliceBounds, Instr.sliceBound, asIntOf, h1, h2]
/-- A known place. -/
def kNat : SV → Option Nat
  | .c v => natOf v
  | _ => none
theorem kNat_R {a : SV} {n : Nat} {v : Value} (h : kNat a = some n) (hr : a.R P cx v) : ∃ k, v = .int k (n : Int) := by
  unfold kNat at h
  split at h
  · simp only [SV.R] at hr; subst hr
    unfold natOf at h
    split at h
    · simp only [Option.some.injEq] at h; subst h; exact ⟨_, rfl⟩
    · cases h
  · cases h
def kOpt (d : Nat) : Option SV → Option Nat
  | none => some d
  | some a => kNat a
theorem kOpt_R {d n : Nat} {a : Option SV} {v : Option Value} (h : kOpt d a = some n) (hr : OptR P cx a v) : (v = none ∧ n = d) ∨ ∃ k, v = some (.int k (n : Int)) := by
  cases a with
  | none => cases v with
    | none => simp only [kOpt, Option.some.injEq] at h; exact .inl ⟨rfl, h.symm⟩
    | some x => exact hr.elim
  | some a => cases v with
    | none => exact hr.elim
    | some x => obtain ⟨k, rfl⟩ := kNat_R (P := P) h hr; exact .inr ⟨k, rfl⟩

/-! slicing -/
def sSlice (P : Program) (t : TypeId) (a : SV) (lo hi mx : Option SV) (H : SH) : Option VS :=
  match mx with
  | some _ => none
  | none => match asData H a with
    | some (e, x) => match pureRun P (underlying t), layE P e with
      | some (.slice e'), some lts => bif Nat.beq e' e then (pureRun P (sizeOf e)).bind fun n => bif Nat.beq n lts.length then some (some (.sub x lo hi, 1), fun b => .d e (.x b)) else none else none
      | _, _ => none
    | none => match a with
      | .slc id off size len => match pureRun P (underlying t) with
        | some (.slice e) => (pureRun P (sizeOf e)).bind fun n => (kOpt 0 lo).bind fun l => (kOpt len hi).bind fun h =>
            bif Nat.beq n size && Nat.ble l h && Nat.ble h len && (Nat.beq l 0 || Nat.blt l len) then some (none, fun _ => .slc id (off + l) size (h - l)) else none
        | _ => none
      | a => match lo, hi with
        | none, none => pureStep P (.slc t false false) [a]
        | some l, none => pureStep P (.slc t true false) [a, l]
        | none, some h => pureStep P (.slc t false true) [a, h]
        | some l, some h => pureStep P (.slc t true true) [a, l, h]
theorem slice_ok (h : WR P M0 w0 S cx H w) {t : TypeId} {a : SV} {lo hi mx : Option SV} {lo' hi' mx' : Option Value} {x : Value} {st : VS} {base : Nat} (hx : a.R P cx x) (hlo : OptR P cx lo lo') (hhi : OptR P cx hi hi') (hmx : OptR P cx mx mx')
    (hr : sSlice P t a lo hi mx H = some st) (hb : Bd P orc cx.ρ base st.1) : VOK P cx H w (Instr.sliceAt t x lo' hi' mx') (st.2 base) := by
  unfold sSlice at hr
  split at hr
  · cases hr
  · have hm0 : mx' = none := by cases mx' with | none => rfl | some y => exact hmx.elim
    subst hm0
    split at hr
    · rename_i e y hd
      obtain ⟨d, h1, h2⟩ := asData_ok h hd hx
      split at hr
      · rename_i e' lts hu hl
        cases he : Nat.beq e' e with
        | false => simp [he] at hr
        | true =>
          simp only [he, cond_true, Option.bind_eq_some_iff] at hr
          obtain ⟨n, hn, hr⟩ := hr
          cases hnl : Nat.beq n lts.length with
          | false => simp [hnl] at hr
          | true =>
            simp only [hnl, cond_true, Option.some.injEq] at hr; subst hr
            have he := Nat.eq_of_beq_eq_true he
            have hnl := Nat.eq_of_beq_eq_true hnl
            subst he
            obtain ⟨ds, b1, b2, b3⟩ := hb
            cases d with
            | v u => simp only [D.Rd] at h2; cases h2.1
            | l rows =>
              simp only [Pr.den, h1, Option.bind_eq_some_iff] at b1
              obtain ⟨l, hl0, hh, hh0, b1⟩ := b1
              cases hc : (Nat.ble l hh && Nat.ble hh rows.length) with
              | false => simp [hc] at b1
              | true =>
                simp only [hc, cond_true, Option.some.injEq] at b1; subst b1
                simp only [Bool.and_eq_true] at hc
                have c1 := Nat.le_of_ble_eq_true hc.1
                have c2 := Nat.le_of_ble_eq_true hc.2
                simp only [D.Rd] at h2
                obtain ⟨e2, lts2, ad, m, c, q1, q2, q3, q4, q5, q6⟩ := h2
                cases q1
                rw [hl] at q2; cases q2
                subst q3 q4
                have A := optNat_R (P := P) hl0 hlo
                have B := optNat_R (P := P) hh0 hhi
                refine ⟨.slice (if c = l then ad else ad.map (·.add (l * n))) (hh - l) (c - l), ⟨.l ((rows.take hh).drop l), by simpa [Ex.den] using b3 0 _ rfl, ?_⟩, fun w' _ => ?_⟩
                · simp only [D.Rd]
                  refine ⟨e', lts, _, hh - l, c - l, rfl, hl, rfl, by simp; omega, by omega, fun hne => ?_⟩
                  have hlt : l < hh := by
                    rcases Nat.lt_or_ge l hh with h' | h'
                    · exact h'
                    · exact absurd (by apply List.eq_nil_of_length_eq_zero; simp; omega) hne
                  obtain ⟨b, o, r1, r2⟩ := q6 (by intro e0; rw [e0] at c2; simp at c2; omega)
                  subst r1
                  rw [if_neg (by omega)]
                  refine ⟨b, o + l * n, by simp [addr_add], ?_⟩
                  rw [hnl]
                  exact RdRows_drop (RdRows_take r2 hh) l
                · have hu' := pureRun_run hu w'
                  simp only [Instr.sliceAt, Sem.run_bind, hu', Result.andThen_ok, Instr.slice, bounds_run (P := P) A B c1 (show hh ≤ c by omega) w', pureRun_run hn w', Sem.run_pure]
      · cases hr
    · split at hr
      · rename_i id off size len _
        split at hr
        · rename_i e hu
          simp only [Option.bind_eq_some_iff] at hr
          obtain ⟨n, hn, l, hl, hh, hhh, hr⟩ := hr
          cases hc : (Nat.beq n size && Nat.ble l hh && Nat.ble hh len && (Nat.beq l 0 || Nat.blt l len)) with
          | false => simp [hc] at hr
          | true =>
            simp only [hc, cond_true, Option.some.injEq] at hr; subst hr
            simp only [Bool.and_eq_true, Bool.or_eq_true] at hc
            obtain ⟨⟨⟨h1, h2⟩, h3⟩, h4⟩ := hc
            have h1 := Nat.eq_of_beq_eq_true h1
            have h2 := Nat.le_of_ble_eq_true h2
            have h3 := Nat.le_of_ble_eq_true h3
            subst h1
            simp only [SV.R] at hx
            obtain ⟨p, b, cap, hp, hpb, rfl, hle⟩ := hx
            have A := kOpt_R (P := P) hl hlo
            have B := kOpt_R (P := P) hhh hhi
            have hcl : cap = l → l = 0 := by
              intro e0
              rcases h4 with h4 | h4
              · exact Nat.eq_of_beq_eq_true h4
              · have : @LT.lt Nat _ l len := of_blt h4
                omega
            refine ⟨.slice (some ⟨b, (off + l) * n, none⟩) (hh - l) (cap - l), ⟨p, b, cap - l, hp, hpb, rfl, by omega⟩, fun w' _ => ?_⟩
            have hu' := pureRun_run hu w'
            simp only [Instr.sliceAt, Sem.run_bind, hu', Result.andThen_ok, Instr.slice, bounds_run (P := P) A B h2 (show hh ≤ cap by omega) w', pureRun_run hn w', Sem.run_pure]
            congr 2
            by_cases hcc : cap = l
            · have := hcl hcc; subst this; simp [hcc]
            · simp [hcc, addr_add, Nat.add_mul]
        · cases hr
      · have fin : ∀ {f : PF} {args : List SV} {vs : List Value}, RL P cx args vs → pureStep P f args = some st → (∀ v, f.run P vs = some v → pureRun P (Instr.sliceAt t x lo' hi' none) = some v) → VOK P cx H w (Instr.sliceAt t x lo' hi' none) (st.2 base) := by
          intro f args vs hR hs hv
          obtain ⟨v, h1, h2⟩ := pureStep_ok hR hs hb
          exact ⟨v, h1, fun w' _ => pureRun_run (hv v h2) w'⟩
        cases lo with
        | none => cases lo' with
          | some y => exact hlo.elim
          | none => cases hi with
            | none => cases hi' with
              | some y => exact hhi.elim
              | none => exact fin (RL_one hx) hr fun v hv => hv
            | some hh => cases hi' with
              | none => exact hhi.elim
              | some z => exact fin (RL_two hx hhi) hr fun v hv => hv
        | some l => cases lo' with
          | none => exact hlo.elim
          | some y => cases hi with
            | none => cases hi' with
              | some y => exact hhi.elim
              | none => exact fin (RL_two hx hlo) hr fun v hv => hv
            | some hh => cases hi' with
              | none => exact hhi.elim
              | some z => exact fin (RL_three hx hlo hhi) hr fun v hv => hv

/-! addresses of elements -/
def sIndexAddr (P : Program) (t : TypeId) (a ix : SV) (H : SH) : Option VS :=
  match asData H a with
  | some (e, x) => match pureRun P (underlying t), layE P e with
    | some (.slice e'), some lts => bif Nat.beq e' e && ix.flat then (pureRun P (sizeOf e)).bind fun n => bif Nat.beq n lts.length then some (some (.row lts.length x ix, lts.length), fun b => .sp (rowSV b lts 0)) else none else none
    | _, _ => none
  | none => match a with
    | .slc id off size len => match pureRun P (underlying t) with
      | some (.slice e) => (pureRun P (sizeOf e)).bind fun n => (kNat ix).bind fun i => bif Nat.beq n size && Nat.blt i len then some (none, fun _ => .ptr id (off * size + i * size)) else none
      | _ => none
    | .ptr id off => match pureRun P (underlying t) with
      | some (.array len e) => (pureRun P (sizeOf e)).bind fun n => (kNat ix).bind fun i => bif Nat.blt i len then some (none, fun _ => .ptr id (off + i * n)) else none
      | _ => none
    | a => pureStep P (.indexAddr t) [a, ix]
theorem indexAddr_ok (h : WR P M0 w0 S cx H w) {t : TypeId} {a ix : SV} {x y : Value} {st : VS} {base : Nat} (hx : a.R P cx x) (hy : ix.R P cx y) (hr : sIndexAddr P t a ix H = some st) (hb : Bd P orc cx.ρ base st.1) :
    VOK P cx H w (Instr.indexAt t x y) (st.2 base) := by
  unfold sIndexAddr at hr
  split at hr
  · rename_i e z hd
    obtain ⟨d, h1, h2⟩ := asData_ok h hd hx
    split at hr
    · rename_i e' lts hu hl
      cases he : (Nat.beq e' e && ix.flat) with
      | false => simp [he] at hr
      | true =>
        simp only [he, cond_true, Option.bind_eq_some_iff] at hr
        obtain ⟨n, hn, hr⟩ := hr
        cases hnl : Nat.beq n lts.length with
        | false => simp [hnl] at hr
        | true =>
          simp only [hnl, cond_true, Option.some.injEq] at hr; subst hr
          simp only [Bool.and_eq_true] at he
          have he1 := Nat.eq_of_beq_eq_true he.1
          have hnl := Nat.eq_of_beq_eq_true hnl
          subst he1
          obtain ⟨ds, b1, b2, b3⟩ := hb
          cases d with
          | v u => simp only [D.Rd] at h2; cases h2.1
          | l rows =>
            simp only [Pr.den, h1] at b1
            split at b1
            · rename_i rows' i hrr hii
              cases hrr
              simp only [Option.bind_eq_some_iff] at b1
              obtain ⟨r, hri, b1⟩ := b1
              cases hc : Nat.beq r.length lts.length with
              | false => simp [hc] at b1
              | true =>
                simp only [hc, cond_true, Option.some.injEq] at b1; subst b1
                simp only [D.Rd] at h2
                obtain ⟨e2, lts2, ad, m, c, q1, q2, q3, q4, q5, q6⟩ := h2
                cases q1
                rw [hl] at q2; cases q2
                subst q3 q4
                obtain ⟨k, rfl⟩ := nat_R (P := P) hii hy
                have hil := get_lt hri
                obtain ⟨b, o, r1, r2⟩ := q6 (by intro e0; rw [e0] at hil; simp at hil)
                subst r1
                refine ⟨.pointer (some ⟨b, o + i * n, none⟩), ⟨b, o + i * n, rfl, ?_⟩, fun w' _ => ?_⟩
                · rw [hnl]
                  have hrow := RdRows_get r2 hri
                  refine RMem_of _ fun j a0 ha0 => ?_
                  obtain ⟨lt, g1, g2⟩ := rowSV_get base lts 0 j ha0
                  subst g2
                  have hjl : j < r.length := by rw [b2]; exact get_lt g1
                  obtain ⟨lt', u, g3, g4, g5⟩ := RdRow_get hrow (List.getElem?_eq_getElem hjl)
                  rw [g1] at g3; cases g3
                  refine ⟨u, g4, leafSV_ok (d := r[j]) ?_ g5⟩
                  simp only [Ex.den, Nat.zero_add]
                  exact b3 j _ (List.getElem?_eq_getElem hjl)
                · have hu' := pureRun_run hu w'
                  simp [Instr.indexAt, asIntOf, hu', pureRun_run hn w', hil, addr_add]
            · cases b1
    · cases hr
  · split at hr
    · rename_i id off size len _
      split at hr
      · rename_i e hu
        simp only [Option.bind_eq_some_iff] at hr
        obtain ⟨n, hn, i, hi, hr⟩ := hr
        cases hc : (Nat.beq n size && Nat.blt i len) with
        | false => simp [hc] at hr
        | true =>
          simp only [hc, cond_true, Option.some.injEq] at hr; subst hr
          simp only [Bool.and_eq_true] at hc
          have h1 := Nat.eq_of_beq_eq_true hc.1
          have h2 : @LT.lt Nat _ i len := of_blt hc.2
          subst h1
          simp only [SV.R] at hx
          obtain ⟨p, b, cap, hp, hpb, rfl, hle⟩ := hx
          obtain ⟨k, rfl⟩ := kNat_R (P := P) hi hy
          refine ⟨.pointer (some ⟨b, off * n + i * n, none⟩), ⟨p, b, hp, hpb, rfl⟩, fun w' _ => ?_⟩
          simp [Instr.indexAt, asIntOf, pureRun_run hu w', pureRun_run hn w', h2, addr_add]
      · cases hr
    · rename_i id off _
      split at hr
      · rename_i len e hu
        simp only [Option.bind_eq_some_iff] at hr
        obtain ⟨n, hn, i, hi, hr⟩ := hr
        cases hc : (Nat.blt i len) with
        | false => simp [hc] at hr
        | true =>
          simp only [hc, cond_true, Option.some.injEq] at hr; subst hr
          have h2 : @LT.lt Nat _ i len := of_blt hc
          simp only [SV.R] at hx
          obtain ⟨p, b, hp, hpb, rfl⟩ := hx
          obtain ⟨k, rfl⟩ := kNat_R (P := P) hi hy
          refine ⟨.pointer (some ⟨b, off + i * n, none⟩), ⟨p, b, hp, hpb, rfl⟩, fun w' _ => ?_⟩
          simp [Instr.indexAt, Instr.sureAddr, asIntOf, pureRun_run hu w', pureRun_run hn w', h2, addr_add]
      · cases hr
    · obtain ⟨v, hv, hrun⟩ := pureStep_ok (RL_two hx hy) hr hb
      exact ⟨v, hv, fun w' _ => pureRun_run hrun w'⟩
end
end Go.Proofs.YtfphabkdgdgnbaaGreatDoor.SE
set_option linter.unusedVariables false
set_option linter.unusedSimpArgs false
set_option linter.unusedSectionVars false
namespace Go.Proofs.YtfphabkdgdgnbaaGreatDoor.SE
open Go Go.RowKit Go.Proofs.YtfphabkdgdgnbaaGreatDoor.AE
variable [Tb]

def isK : Operand → Bool
  | .const _ => true
  | _ => false
section
variable {P : Program} {orc : Nat → List D → Option (List D)} {M0 : Mem} {w0 : World} {S : Nat → Prop} {cx : Cx} {H : SH} {w : World}
theorem guard_flag (op : BinOp) (t : TypeId) (ox oy : Operand) (x y : Value) : eqGuard op t (flagOp (isK ox)) (flagOp (isK oy)) x y = eqGuard op t ox oy x y := by
  cases ox <;> cases oy <;> rfl

/-! binary operators -/
def sEqNil (P : Program) (t : TypeId) (x y : SV) : Bool :=
  match pureRun P (underlying t), x, y with
  | some (.pointer _), .ptr .., .c (.pointer none) => true
  | some (.pointer _), .sp _, .c (.pointer none) => true
  | some (.func ..), .fn .., .c .nilFunc => true
  | some (.interface _), .ifc .., .c .nilIface => true
  | _, _, _ => false
theorem eqNil_ok {t : TypeId} {a b : SV} {x y : Value} (hx : a.R P cx x) (hy : b.R P cx y) (h : sEqNil P t a b = true) :
    (∀ (op : BinOp) (ox oy : Operand) (w : World), (eqGuard op t ox oy x y).run P w = .ok () w) ∧ (∀ w, (binOp .eql t x y).run P w = .ok (.bool false) w) ∧ (∀ w, (binOp .neq t x y).run P w = .ok (.bool true) w) := by
  have key : (∀ (op : BinOp) (ox oy : Operand) (w : World), (eqGuard op t ox oy x y).run P w = .ok () w) ∧ (∀ d w, (Op.equalIn (d + 1) t x y).run P w = .ok false w) ∧
      (binOp .eql t x y) = (do pure (.bool (← Op.equal t x y)) : Sem Value) ∧ (binOp .neq t x y) = (do pure (.bool (!(← Op.equal t x y))) : Sem Value) := by
    unfold sEqNil at h
    split at h
    all_goals first
      | cases h; done
      | skip
    · rename_i hu
      simp only [SV.R] at hx hy
      obtain ⟨p, b, hp, hb, rfl⟩ := hx; subst hy
      exact ⟨fun op ox oy w => by cases op <;> simp [eqGuard], fun d w => by simp [Op.equalIn, pureRun_run hu w], rfl, rfl⟩
    · rename_i hu
      simp only [SV.R] at hx hy
      obtain ⟨b, o, rfl, hx⟩ := hx; subst hy
      exact ⟨fun op ox oy w => by cases op <;> simp [eqGuard], fun d w => by simp [Op.equalIn, pureRun_run hu w], rfl, rfl⟩
    · rename_i hu
      simp only [SV.R] at hx hy
      obtain ⟨l, m, _, _, rfl⟩ := hx; subst hy
      exact ⟨fun op ox oy w => by cases op <;> simp [eqGuard], fun d w => by simp [Op.equalIn, pureRun_run hu w], rfl, rfl⟩
    · rename_i hu
      simp only [SV.R] at hx hy
      obtain ⟨u, _, rfl⟩ := hx; subst hy
      exact ⟨fun op ox oy w => by cases op <;> simp [eqGuard], fun d w => by simp [Op.equalIn, pureRun_run hu w], rfl, rfl⟩
  obtain ⟨h1, h2, h3, h4⟩ := key
  refine ⟨h1, fun w => ?_, fun w => ?_⟩
  · rw [h3]
    have : Op.equal t x y = Op.equalIn Op.maxDepth t x y := rfl
    simp only [Sem.run_bind, this]
    obtain ⟨d, hd⟩ : ∃ d, Op.maxDepth = d + 1 := ⟨Op.maxDepth - 1, rfl⟩
    rw [hd, h2 d w]; rfl
  · rw [h4]
    have : Op.equal t x y = Op.equalIn Op.maxDepth t x y := rfl
    simp only [Sem.run_bind, this]
    obtain ⟨d, hd⟩ : ∃ d, Op.maxDepth = d + 1 := ⟨Op.maxDepth - 1, rfl⟩
    rw [hd, h2 d w]; rfl
def sBin (P : Program) (op : BinOp) (t : TypeId) (ox oy : Operand) (a b : SV) : Option VS :=
  match pureStep P (.bin op t (isK ox) (isK oy)) [a, b] with
  | some r => some r
  | none => bif sEqNil P t a b then (match op with | .eql => some (none, fun _ => .c (.bool false)) | .neq => some (none, fun _ => .c (.bool true)) | _ => none) else none
theorem bin_ok {op : BinOp} {t : TypeId} {ox oy : Operand} {a b : SV} {x y : Value} {st : VS} {base : Nat} (hx : a.R P cx x) (hy : b.R P cx y) (hr : sBin P op t ox oy a b = some st) (hb : Bd P orc cx.ρ base st.1) :
    VOK P cx H w (do eqGuard op t ox oy x y; binOp op t x y) (st.2 base) := by
  unfold sBin at hr
  split at hr
  · rename_i r hp
    simp only [Option.some.injEq] at hr; subst hr
    obtain ⟨v, hv, hrun⟩ := pureStep_ok (RL_two hx hy) hp hb
    refine ⟨v, hv, fun w' _ => ?_⟩
    have := pureRun_run hrun w'
    rw [guard_flag] at this; exact this
  · cases hc : sEqNil P t a b with
    | false => simp [hc] at hr
    | true =>
      simp only [hc, cond_true] at hr
      obtain ⟨h1, h2, h3⟩ := eqNil_ok (P := P) hx hy hc
      split at hr
      · simp only [Option.some.injEq] at hr; subst hr
        exact ⟨.bool false, rfl, fun w' _ => by simp only [Sem.run_bind, h1, Result.andThen_ok]; exact h2 w'⟩
      · simp only [Option.some.injEq] at hr; subst hr
        exact ⟨.bool true, rfl, fun w' _ => by simp only [Sem.run_bind, h1, Result.andThen_ok]; exact h3 w'⟩
      · cases hr

/-! an element of an array value, a byte of a string -/
def litRow (H : SH) : List LT → List SV → Option (List Ex)
  | [], [] => some []
  | lt :: l, a :: as => (leafOf H lt a).bind fun x => (litRow H l as).map fun r => x :: r
  | _, _ => none
def litRows (H : SH) (lts : List LT) : Nat → List SV → Option (List (List Ex))
  | 0, _ => some []
  | k + 1, cs => (litRow H lts (cs.take lts.length)).bind fun r => (litRows H lts k (cs.drop lts.length)).map fun rs => r :: rs
/-- Of slices of known elements alone. -/
def okLay (P : Program) : List LT → Bool
  | [] => true
  | .sc :: l => okLay P l
  | .sl e :: l => (layE P e).isSome && okLay P l
theorem okLay_get : ∀ {l : List LT}, okLay P l = true → ∀ (i : Nat) (lt : LT), l[i]? = some lt → ∀ e, lt = .sl e → ∃ lts, layE P e = some lts
  | [], _, i, lt, h, e, _ => by simp at h
  | a :: l, ho, i, lt, h, e, he => by
    cases i with
    | zero =>
      simp at h; subst h; subst he
      simp only [okLay, Bool.and_eq_true] at ho
      exact Option.isSome_iff_exists.1 ho.1
    | succ i =>
      have : okLay P l = true := by cases a <;> simp [okLay] at ho <;> first | exact ho | exact ho.2
      exact okLay_get this i lt (by simpa using h) e he
/-- The data of a row of cells. -/
theorem litRow_ok (h : WR P M0 w0 S cx H w) : ∀ {lts : List LT} {cs : List SV} {xs : List Ex} {vs : List Value}, (∀ (i : Nat) (lt : LT), lts[i]? = some lt → ∀ e, lt = .sl e → ∃ l, layE P e = some l) → litRow H lts cs = some xs → RL P cx cs vs →
    ∃ ds, denRow cx.ρ xs = some ds ∧ ds.length = lts.length ∧ cs.length = lts.length ∧ ∀ (j : Nat) (lt : LT), lts[j]? = some lt → ∃ d v, ds[j]? = some d ∧ vs[j]? = some v ∧ d.Rd P cx.M lt v
  | [], [], xs, vs, _, hx, hr => by
    simp only [litRow, Option.some.injEq] at hx; subst hx
    exact ⟨[], rfl, rfl, rfl, fun j lt h => by simp at h⟩
  | lt :: l, a :: as, xs, vs, hl, hx, hr => by
    simp only [litRow, Option.bind_eq_some_iff, Option.map_eq_some_iff] at hx
    obtain ⟨x, hx1, r, hr1, rfl⟩ := hx
    simp only [RL] at hr
    obtain ⟨v, vs', rfl, hv, hvs⟩ := hr
    obtain ⟨d, d1, d2⟩ := leafOf_ok h (hl 0 lt rfl) hx1 hv
    obtain ⟨ds, e1, e2, e4, e3⟩ := litRow_ok h (fun i lt' hi => hl (i + 1) lt' (by simpa using hi)) hr1 hvs
    refine ⟨d :: ds, by simp [denRow, d1, e1], by simp [e2], by simp [e4], fun j lt' hj => ?_⟩
    cases j with
    | zero => simp at hj; subst hj; exact ⟨d, v, rfl, rfl, d2⟩
    | succ j => obtain ⟨d', v', f1, f2, f3⟩ := e3 j lt' (by simpa using hj); exact ⟨d', v', by simpa using f1, by simpa using f2, f3⟩
  | [], _ :: _, xs, vs, _, hx, hr => by simp [litRow] at hx
  | _ :: _, [], xs, vs, _, hx, hr => by simp [litRow] at hx
theorem litRows_ok (h : WR P M0 w0 S cx H w) {lts : List LT} (hl : ∀ (i : Nat) (lt : LT), lts[i]? = some lt → ∀ e, lt = .sl e → ∃ l, layE P e = some l) : ∀ {k : Nat} {cs : List SV} {xs : List (List Ex)} {vs : List Value}, litRows H lts k cs = some xs → RL P cx cs vs →
    ∃ rows, denRows cx.ρ xs = some rows ∧ rows.length = k ∧ ∀ i < k, ∃ r, rows[i]? = some r ∧ r.length = lts.length ∧ ∀ (j : Nat) (lt : LT), lts[j]? = some lt → ∃ d v, r[j]? = some d ∧ vs[i * lts.length + j]? = some v ∧ d.Rd P cx.M lt v
  | 0, cs, xs, vs, hx, hr => by
    simp only [litRows, Option.some.injEq] at hx; subst hx
    exact ⟨[], rfl, rfl, fun i hi => by omega⟩
  | k + 1, cs, xs, vs, hx, hr => by
    simp only [litRows, Option.bind_eq_some_iff, Option.map_eq_some_iff] at hx
    obtain ⟨x, hx1, r, hr1, rfl⟩ := hx
    obtain ⟨ds, e1, e2, e4, e3⟩ := litRow_ok h hl hx1 (RL_take hr lts.length)
    obtain ⟨rows, g1, g2, g3⟩ := litRows_ok h hl hr1 (RL_drop hr lts.length)
    refine ⟨ds :: rows, by simp [denRows, e1, g1], by simp [g2], fun i hi => ?_⟩
    cases i with
    | zero =>
      refine ⟨ds, rfl, e2, fun j lt hj => ?_⟩
      obtain ⟨d, v, f1, f2, f3⟩ := e3 j lt hj
      have hjl := get_lt hj
      rw [List.getElem?_take, if_pos hjl] at f2
      exact ⟨d, v, f1, by simpa using f2, f3⟩
    | succ i =>
      obtain ⟨r, q1, q2, q3⟩ := g3 i (by omega)
      refine ⟨r, by simpa using q1, q2, fun j lt hj => ?_⟩
      obtain ⟨d, v, f1, f2, f3⟩ := q3 j lt hj
      rw [List.getElem?_drop] at f2
      exact ⟨d, v, f1, by rw [← f2]; congr 1; rw [Nat.succ_mul]; omega, f3⟩
def sIndex (P : Program) (t : TypeId) (a ix : SV) (H : SH) : Option VS :=
  match a with
  | .agg cs => match pureRun P (underlying t) with
    | some (.array len e) => (pureRun P (sizeOf e)).bind fun n => match kNat ix with
      | some i => bif Nat.blt i len then (sPart P e cs (i * n)).map fun r => (none, fun _ => r) else none
      | none => (layE P e).bind fun lts => (litRows H lts len cs).bind fun rows => (pureRun P (isAgg e)).bind fun ag =>
          bif Nat.beq n lts.length && okLay P lts && ix.flat then (match ag with
            | true => some (some (.row lts.length (.lit rows) ix, lts.length), fun b => .agg (rowSV b lts 0))
            | false => match lts with
              | [lt] => some (some (.row lts.length (.lit rows) ix, lts.length), fun b => leafSV lt (.x b))
              | _ => none) else none
    | _ => none
  | a => pureStep P (.index t) [a, ix]
theorem index_ok (h : WR P M0 w0 S cx H w) {t : TypeId} {a ix : SV} {x y : Value} {st : VS} {base : Nat} (hx : a.R P cx x) (hy : ix.R P cx y) (hr : sIndex P t a ix H = some st) (hb : Bd P orc cx.ρ base st.1) :
    VOK P cx H w (Instr.index t x y) (st.2 base) := by
  unfold sIndex at hr
  split at hr
  · rename_i cs
    split at hr
    · rename_i len e hu
      simp only [Option.bind_eq_some_iff] at hr
      obtain ⟨n, hn, hr⟩ := hr
      simp only [SV.R] at hx
      obtain ⟨l, hl, rfl⟩ := hx
      split at hr
      · rename_i i hi
        cases hc : Nat.blt i len with
        | false => simp [hc] at hr
        | true =>
          simp only [hc, cond_true, Option.map_eq_some_iff] at hr
          obtain ⟨r, hr, rfl⟩ := hr
          have h2 : @LT.lt Nat _ i len := of_blt hc
          obtain ⟨k, rfl⟩ := kNat_R (P := P) hi hy
          obtain ⟨v, hv, hrun⟩ := part_ok (P := P) hl hr
          exact ⟨v, hv, fun w' _ => by simp [Instr.index, asIntOf, pureRun_run hu w', pureRun_run hn w', h2, hrun]⟩
      · simp only [Option.bind_eq_some_iff] at hr
        obtain ⟨lts, hlts, rows, hrows, ag, hag, hr⟩ := hr
        cases hc : (Nat.beq n lts.length && okLay P lts && ix.flat) with
        | false => simp [hc] at hr
        | true =>
          simp only [hc, cond_true] at hr
          simp only [Bool.and_eq_true] at hc
          have hnl := Nat.eq_of_beq_eq_true hc.1.1
          obtain ⟨R, g1, g2, g3⟩ := litRows_ok h (okLay_get hc.1.2) hrows hl
          -- the row that is read
          have got : Bd P orc cx.ρ base (some (.row lts.length (.lit rows) ix, lts.length)) → ∃ (k : IntKind) (i : Nat), y = .int k (i : Int) ∧ i < len ∧ ∀ (j : Nat) (lt : LT), lts[j]? = some lt → ∃ d v, cx.ρ[base + j]? = some d ∧ l[i * lts.length + j]? = some v ∧ d.Rd P cx.M lt v := by
            rintro ⟨ds, b1, b2, b3⟩
            have hden : Ex.den cx.ρ (.lit rows) = some (.l R) := by simp [Ex.den, g1]
            simp only [Pr.den, hden] at b1
            split at b1
            · rename_i rows' i hrr hii
              cases hrr
              simp only [Option.bind_eq_some_iff] at b1
              obtain ⟨r, hri, b1⟩ := b1
              cases hc' : Nat.beq r.length lts.length with
              | false => simp [hc'] at b1
              | true =>
                simp only [hc', cond_true, Option.some.injEq] at b1; subst b1
                obtain ⟨k, rfl⟩ := nat_R (P := P) hii hy
                have hil := get_lt hri
                rw [g2] at hil
                refine ⟨k, i, rfl, hil, fun j lt hj => ?_⟩
                obtain ⟨r', q1, q2, q3⟩ := g3 i hil
                rw [hri] at q1; cases q1
                obtain ⟨d, v, f1, f2, f3⟩ := q3 j lt hj
                exact ⟨d, v, b3 j d f1, f2, f3⟩
            · cases b1
          split at hr
          · simp only [Option.some.injEq] at hr; subst hr
            obtain ⟨k, i, rfl, hil, hg⟩ := got hb
            have hex : ∃ m : List Value, m = (l.drop (i * n)).take n ∧ RL P cx (rowSV base lts 0) m := by
              refine ⟨_, rfl, RL_of _ _ ?_ fun j a0 ha0 => ?_⟩
              · rw [rowSV_len]
                have hlast := hg (lts.length - 1) 
                have hpos := (layE_len hlts).2
                obtain ⟨d, v, _, f2, _⟩ := hlast _ (List.getElem?_eq_getElem (by omega))
                have := get_lt f2
                simp; rw [hnl]; omega
              · obtain ⟨lt, q1, q2⟩ := rowSV_get base lts 0 j ha0
                subst q2
                obtain ⟨d, v, f1, f2, f3⟩ := hg j lt q1
                refine ⟨v, ?_, leafSV_ok (d := d) (by simpa [Ex.den] using f1) f3⟩
                have := get_lt q1
                rw [List.getElem?_take, if_pos (by omega), List.getElem?_drop, hnl]; exact f2
            obtain ⟨m, hm, hR⟩ := hex
            refine ⟨.agg m.toArray, ⟨m, hR, rfl⟩, fun w' _ => ?_⟩
            have hpart : (part e l.toArray (i * n)).run P w' = .ok (.agg m.toArray) w' := by
              simp only [part, Sem.run_bind, pureRun_run hag w', Result.andThen_ok, if_true, pureRun_run hn w', Sem.run_pure]
              congr 2
              rw [List.extract_toArray, List.extract_eq_drop_take', hm]
              rw [List.drop_take, Nat.add_sub_cancel_left]
            simp [Instr.index, asIntOf, pureRun_run hu w', pureRun_run hn w', hil, hpart]
          · split at hr
            · rename_i lt
              simp only [Option.some.injEq] at hr; subst hr
              obtain ⟨k, i, rfl, hil, hg⟩ := got hb
              obtain ⟨d, v, f1, f2, f3⟩ := hg 0 lt rfl
              simp only [List.length_cons, List.length_nil, Nat.zero_add, Nat.mul_one, Nat.add_zero] at f1 f2 hnl
              subst hnl
              refine ⟨v, leafSV_ok (d := d) (by simpa [Ex.den] using f1) f3, fun w' _ => ?_⟩
              have hpart : (part e l.toArray i).run P w' = .ok v w' := by simp [part, pureRun_run hag w', f2]
              simp [Instr.index, asIntOf, pureRun_run hu w', pureRun_run hn w', hil, hpart]
            · cases hr
    · cases hr
  · obtain ⟨v, hv, hrun⟩ := pureStep_ok (RL_two hx hy) hr hb
    exact ⟨v, hv, fun w' _ => pureRun_run hrun w'⟩
end
end Go.Proofs.YtfphabkdgdgnbaaGreatDoor.SE
set_option linter.unusedVariables false
set_option linter.unusedSimpArgs false
set_option linter.unusedSectionVars false
namespace Go.Proofs.YtfphabkdgdgnbaaGreatDoor.SE
open Go Go.RowKit Go.Proofs.YtfphabkdgdgnbaaGreatDoor.AE
variable [Tb]

section
variable {P : Program} {orc : Nat → List D → Option (List D)} {M0 : Mem} {w0 : World} {S : Nat → Prop} {cx : Cx} {H : SH} {w : World}

/-! conversions -/
theorem bytesOf_rows : ∀ {rows : List (List D)} {ns : List Int}, bytesOf rows = some ns → rows = ns.map fun n => [D.v (.int .u8 n)]
  | [], ns, h => by simp only [bytesOf, Option.some.injEq] at h; subst h; rfl
  | r :: l, ns, h => by
    unfold bytesOf at h
    split at h
    · simp at *
    · rename_i n l' e
      simp only [List.cons.injEq] at e
      obtain ⟨rfl, rfl⟩ := e
      simp only [Option.map_eq_some_iff] at h
      obtain ⟨r', h1, rfl⟩ := h
      rw [bytesOf_rows h1]; rfl
    · cases h
/-- The cells of rows of one scalar. -/
theorem cells_of_rows {M : Mem} {b o : Nat} {ns : List Int} {lts : List LT} (hl : lts.length = 1) (h : RdRows P M (ns.map fun n => [D.v (.int .u8 n)]) lts b o) : ∀ (j : Nat) (v : Value), (ns.map fun n => Value.int .u8 n)[j]? = some v → M b (o + j) = some v := by
  intro j v hj
  simp only [List.getElem?_map, Option.map_eq_some_iff] at hj
  obtain ⟨n, hn, rfl⟩ := hj
  have hr := RdRows_get h (i := j) (r := [D.v (.int .u8 n)]) (by simp [hn])
  obtain ⟨lt, u, _, g2, g3⟩ := RdRow_get hr (j := 0) rfl
  simp only [D.Rd] at g3
  rw [← g3.2.1, ← g2, hl]; simp
def sConvert (P : Program) (s t : TypeId) (a : SV) (H : SH) : Option VS :=
  match asData H a with
  | some (e, x) => match pureRun P (underlying s), pureRun P (underlying t), pureRun P (underlying e), layE P e with
    | some (.slice e'), some .string, some (.int .u8), some [_] => bif Nat.beq e' e then some (some (.toStr x, 1), fun b => .s (.x b)) else none
    | _, _, _, _ => none
  | none => pureStep P (.conv s t) [a]
theorem convert_ok (h : WR P M0 w0 S cx H w) {s t : TypeId} {a : SV} {x : Value} {st : VS} {base : Nat} (hx : a.R P cx x) (hr : sConvert P s t a H = some st) (hb : Bd P orc cx.ρ base st.1) :
    VOK P cx H w (convert s t x) (st.2 base) := by
  unfold sConvert at hr
  split at hr
  · rename_i e y hd
    obtain ⟨d, h1, h2⟩ := asData_ok h hd hx
    split at hr
    · rename_i e' lt hs ht he hl
      cases hc : Nat.beq e' e with
      | false => simp [hc] at hr
      | true =>
        simp only [hc, cond_true, Option.some.injEq] at hr; subst hr
        have hc := Nat.eq_of_beq_eq_true hc
        subst hc
        obtain ⟨ds, b1, b2, b3⟩ := hb
        cases d with
        | v u => simp only [D.Rd] at h2; cases h2.1
        | l rows =>
          simp only [Pr.den, h1, Option.map_eq_some_iff] at b1
          obtain ⟨ns, hns, rfl⟩ := b1
          have hrows := bytesOf_rows hns
          subst hrows
          simp only [D.Rd] at h2
          obtain ⟨e2, lts2, ad, m, c, q1, q2, q3, q4, q5, q6⟩ := h2
          cases q1
          rw [hl] at q2; cases q2
          subst q3
          refine ⟨.string ⟨(ns.map fun n => UInt8.ofNat n.toNat).toArray⟩, ⟨by simpa [Ex.den] using b3 0 _ rfl, rfl⟩, fun w' hw' => ?_⟩
          simp at q4; subst q4
          by_cases hne : ns = []
          · subst hne
            have : (loadCells (ad.getD default) 0).run P w' = .ok #[] w' := by simpa using run_loadCells_list (P := P) w' (ad.getD default) [] (fun j v hj => by simp at hj)
            cases ad with
            | none =>
              simp only [convert, Sem.run_bind, pureRun_run hs w', pureRun_run ht w', pureRun_run he w', Result.andThen_ok]
              simp [Conv.bytesToString, ByteArray.empty, ByteArray.emptyWithCapacity]
              try rfl
            | some a0 =>
              show (convert s t (.slice (some a0) 0 c)).run P w' = _
              rw [run_convert_bytes_string w' s t e' a0 0 c (run_under hs) (run_under he) (run_under ht), run_bytesToString w' a0 0 c [] (by simpa using this), foldl_push_bytes]
              simp [ByteArray.empty, ByteArray.emptyWithCapacity]
              rfl
          · obtain ⟨b, o, rfl, r2⟩ := q6 (by simpa using hne)
            have hrun := loadCells_ok (w := w') P (b := b) (off := o) (l := ns.map fun n => Value.int .u8 n) fun j v hj => hw'.mem _ _ _ (cells_of_rows rfl r2 j v hj)
            rw [List.length_map] at hrun
            rw [run_convert_bytes_string w' s t e' _ ns.length _ (run_under hs) (run_under he) (run_under ht), run_bytesToString w' _ ns.length _ ns hrun, foldl_push_bytes]
            simp [ByteArray.empty, ByteArray.emptyWithCapacity]
            rfl
    · cases hr
  · obtain ⟨v, hv, hrun⟩ := pureStep_ok (RL_one hx) hr hb
    exact ⟨v, hv, fun w' _ => pureRun_run hrun w'⟩

/-! interfaces -/
def sIface (P : Program) (t : TypeId) (a : SV) : Option SV :=
  match pureRun P (underlying t) with
  | some (.interface _) => none
  | some _ => some (.ifc t a)
  | none => none
theorem iface_ok {t : TypeId} {a r : SV} {x : Value} (hx : a.R P cx x) (hr : sIface P t a = some r) : VOK P cx H w (Instr.makeInterface t x) r := by
  unfold sIface at hr
  split at hr
  · cases hr
  · rename_i d hne hd
    simp only [Option.some.injEq] at hr; subst hr
    refine ⟨.iface t x, ⟨x, hx, rfl⟩, fun w' _ => ?_⟩
    simp only [Instr.makeInterface, Sem.run_bind, pureRun_run hd w', Result.andThen_ok]
    cases d <;> first | rfl | exact absurd rfl (hne _)
  · cases hr

/-! not nil -/
def sNil : SV → Bool
  | .ptr .. | .sp _ | .slc .. => true
  | .c (.pointer (some _)) => true
  | .fn (.func _) _ _ => true
  | .c (.func (.func _) _ _) => true
  | _ => false
theorem nil_ok {o : Oper} {ρ' : Operand → Value} {x : Operand} (hop : o.op = .nilCheck x) {a : SV} {v : Value} (hc : a.R P cx v) (hv : ρ' x = v) (ha : sNil a = true) (w : World) :
    (execOp ρ' o).run P w = .ok (.value v) w := by
  unfold execOp
  simp only [hop, hv]
  cases a with
  | ptr id off => simp only [SV.R] at hc; obtain ⟨p, b, _, _, rfl⟩ := hc; rfl
  | slc id off size len => simp only [SV.R] at hc; obtain ⟨p, b, cap, _, _, rfl, _⟩ := hc; rfl
  | sp cs => simp only [SV.R] at hc; obtain ⟨b, o, rfl, _⟩ := hc; rfl
  | fn f a b =>
    simp only [SV.R] at hc; obtain ⟨l, m, _, _, rfl⟩ := hc
    cases f <;> simp [sNil] at ha
    rfl
  | c y =>
    simp only [SV.R] at hc; subst hc
    cases v with
    | pointer p => cases p with
      | none => simp [sNil] at ha
      | some q => rfl
    | func f a b => cases f <;> simp [sNil] at ha; rfl
    | _ => simp [sNil] at ha
  | agg cs => simp [sNil] at ha
  | tup cs => simp [sNil] at ha
  | ifc t x => simp [sNil] at ha
  | s x => simp [sNil] at ha
  | d e x => simp [sNil] at ha
  | own id => simp [sNil] at ha
  | unk => simp [sNil] at ha

/-! parts of a tuple -/
def sExtract (a : SV) (i : Nat) : Option SV :=
  match a with
  | .tup vs => vs[i]?
  | .c (.tuple vs) => (vs[i]?).map .c
  | _ => none
theorem extract_ok {a r : SV} {i : Nat} {x : Value} (hx : a.R P cx x) (hr : sExtract a i = some r) : VOK P cx H w (Instr.extract x i) r := by
  unfold sExtract at hr
  split at hr
  · simp only [SV.R] at hx
    obtain ⟨l, hl, rfl⟩ := hx
    obtain ⟨v, hv, hc⟩ := RL_get hl hr
    exact ⟨v, hc, fun w' _ => by simp [Instr.extract, hv]⟩
  · simp only [SV.R] at hx; subst hx
    simp only [Option.map_eq_some_iff] at hr
    obtain ⟨v, hv, rfl⟩ := hr
    exact ⟨v, rfl, fun w' _ => by simp [Instr.extract, hv]⟩
  · cases hr

/-! builtins that only look -/
def looking (b : Builtin) : Bool :=
  match b with
  | .len | .cap | .min | .max => true
  | _ => false
def sLooks (P : Program) (b : Builtin) (types : List TypeId) (t : TypeId) (consts : List Bool) (args : List SV) (H : SH) : Option VS :=
  bif looking b then
    match b, args with
    | .len, [a] => match asData H a with
      | some (e, x) => match types with
        | t0 :: _ => match pureRun P (underlying t0) with
          | some (.slice _) => some (some (.llen x, 1), fun b => .s (.x b))
          | _ => none
        | [] => none
      | none => match a with
        | .slc _ _ _ n => match types with
          | t0 :: _ => match pureRun P (underlying t0) with
            | some (.slice _) => some (none, fun _ => .c (goInt n))
            | _ => none
          | [] => none
        | a => pureStep P (.bi b types t consts) [a]
    | _, args => pureStep P (.bi b types t consts) args
  else none
theorem looks_ok (h : WR P M0 w0 S cx H w) {b : Builtin} {types : List TypeId} {t : TypeId} {consts : List Bool} {args : List SV} {vs : List Value} {st : VS} {base : Nat} (hx : RL P cx args vs) (hr : sLooks P b types t consts args H = some st) (hb : Bd P orc cx.ρ base st.1) :
    looking b = true ∧ ∃ v, (st.2 base).R P cx v ∧ ∀ w', Agree cx H w w' → (builtin b types.toArray t consts.toArray vs.toArray).run P w' = .ok (.value v) w' := by
  unfold sLooks at hr
  cases hlk : looking b with
  | false => simp [hlk] at hr
  | true =>
    simp only [hlk, cond_true] at hr
    refine ⟨rfl, ?_⟩
    have dflt : ∀ {args : List SV} {vs : List Value}, RL P cx args vs → pureStep P (.bi b types t consts) args = some st → ∃ v, (st.2 base).R P cx v ∧ ∀ w', Agree cx H w w' → (builtin b types.toArray t consts.toArray vs.toArray).run P w' = .ok (.value v) w' := by
      intro args vs hR hs
      obtain ⟨v, hv, hrun⟩ := pureStep_ok hR hs hb
      refine ⟨v, hv, fun w' _ => ?_⟩
      simp only [PF.run] at hrun
      split at hrun
      · rename_i u hu
        simp only [Option.some.injEq] at hrun; subst hrun
        exact pureRun_run hu w'
      · cases hrun
    split at hr
    · rename_i a
      split at hr
      · rename_i e x hd
        split at hr
        · rename_i t0 ts
          split at hr
          · rename_i e' hu
            simp only [Option.some.injEq] at hr; subst hr
            simp only [RL] at hx
            obtain ⟨v, vs', rfl, hv, rfl⟩ := hx
            obtain ⟨d, h1, h2⟩ := asData_ok h hd hv
            obtain ⟨ds, b1, b2, b3⟩ := hb
            cases d with
            | v u => simp only [D.Rd] at h2; cases h2.1
            | l rows =>
              simp only [Pr.den, h1, Option.some.injEq] at b1; subst b1
              simp only [D.Rd] at h2
              obtain ⟨e2, lts2, ad, m, c, q1, q2, q3, q4, q5, q6⟩ := h2
              subst q3 q4
              exact ⟨goInt rows.length, ⟨by simpa [Ex.den] using b3 0 _ rfl, rfl⟩, fun w' _ => by simp [builtin, Builtin.len_, pureRun_run hu w']⟩
          · cases hr
        · cases hr
      · split at hr
        · rename_i id off size n _
          split at hr
          · rename_i t0 ts
            split at hr
            · rename_i e' hu
              simp only [Option.some.injEq] at hr; subst hr
              simp only [RL] at hx
              obtain ⟨v, vs', rfl, hv, rfl⟩ := hx
              simp only [SV.R] at hv
              obtain ⟨p, b', cap, _, _, rfl, _⟩ := hv
              exact ⟨goInt n, rfl, fun w' _ => by simp [builtin, Builtin.len_, pureRun_run hu w']⟩
            · cases hr
          · cases hr
        · exact dflt hx hr
    · exact dflt hx hr
end
end Go.Proofs.YtfphabkdgdgnbaaGreatDoor.SE
set_option linter.unusedVariables false
set_option linter.unusedSimpArgs false
set_option linter.unusedSectionVars false
namespace Go.Proofs.YtfphabkdgdgnbaaGreatDoor.SE
open Go Go.RowKit Go.Proofs.YtfphabkdgdgnbaaGreatDoor.AE
variable [Tb]

/-- The cells of a value. -/
def SV.cells : SV → Option (List SV)
  | .agg cs => some cs
  | .c x => some (x.cells.toList.map .c)
  | .unk => none
  | .tup _ => none
  | a => some [a]
def sfill (place : Nat → Option (Nat × Nat)) : List SV → List (Nat × SV) → Option (List SV)
  | cells, [] => some cells
  | cells, (i, a) :: rest => (place i).bind fun p => a.cells.bind fun cs =>
    bif Nat.beq cs.length p.2 && Nat.ble (p.1 + cs.length) cells.length then sfill place (cells.take p.1 ++ cs ++ cells.drop (p.1 + cs.length)) rest else none
def sBuild (P : Program) (t : TypeId) (parts : List (Nat × SV)) : Option SV :=
  (pureRun P (zeroValue t)).bind fun z => (pureRun P (underlying t)).bind fun d => match d with
    | .struct fields => (pureRun P (fields.mapM fun f => do pure (f.offset, ← sizeOf f.type) : Sem (Array (Nat × Nat)))).bind fun places =>
        (sfill (places[·]?) (z.cells.toList.map SV.c) parts).map .agg
    | .array _ elem => (pureRun P (sizeOf elem)).bind fun size => (sfill (fun i => some (i * size, size)) (z.cells.toList.map SV.c) parts).map .agg
    | _ => none

def evL (ρ : Operand → Option SV) : List Operand → Option (List SV)
  | [] => some []
  | x :: l => (ρ x).bind fun a => (evL ρ l).map fun r => a :: r
def evP (ρ : Operand → Option SV) : List (Nat × Operand) → Option (List (Nat × SV))
  | [] => some []
  | (i, x) :: l => (ρ x).bind fun a => (evP ρ l).map fun r => (i, a) :: r
def evO (ρ : Operand → Option SV) : Option Operand → Option (Option SV)
  | none => some none
  | some x => (ρ x).map some
/-- The function that a value is, with what is bound to it. -/
def fnOf : SV → Option (FuncId × List SV × List SV)
  | .c (.func (.func g) first captured) => some (g, first.toList.map .c, captured.toList.map .c)
  | .fn (.func g) first captured => some (g, first, captured)
  | _ => none
/-- An operation that leaves memory as it is. -/
def vStep (P : Program) (ev : Operand → Option SV) (o : Oper) (H : SH) : Option VS :=
  let k (a : SV) : VS := (none, fun _ => a)
  match o.op with
  | .move x | .assign x => (ev x).map k
  | .pick c a b => match ev c with
    | some (.c (.bool true)) => (ev a).map k
    | some (.c (.bool false)) => (ev b).map k
    | _ => none
  | .build t parts => (evP ev parts.toList).bind fun ps => (sBuild P t ps).map k
  | .load t x => (ev x).bind fun a => (sLoad P t a H).map k
  | .nilCheck x => (ev x).bind fun a => bif sNil a then some (k a) else none
  | .binOp op t x y _ => (ev x).bind fun a => (ev y).bind fun b => sBin P op t x y a b
  | .unOp op _ x => (ev x).bind fun a => pureStep P (.un op) [a]
  | .convert s d x => (ev x).bind fun a => sConvert P s d a H
  | .makeInterface t x => (ev x).bind fun a => (sIface P t a).map k
  | .makeFunc f first captured => (evL ev first.toList).bind fun a => (evL ev captured.toList).bind fun b => some (k (.fn f a b))
  | .slice t x lo hi mx => (ev x).bind fun a => (evO ev lo).bind fun l => (evO ev hi).bind fun h => (evO ev mx).bind fun m => sSlice P t a l h m H
  | .fieldAddr s x f => (ev x).bind fun a => sFieldAddr P s a f
  | .field t x f => (ev x).bind fun a => sField P t a f
  | .indexAddr t x ix => (ev x).bind fun a => (ev ix).bind fun b => sIndexAddr P t a b H
  | .index t x ix => (ev x).bind fun a => (ev ix).bind fun b => sIndex P t a b H
  | .extract x i => (ev x).bind fun a => (sExtract a i).map k
  | .call c => (evL ev c.args.toList).bind fun args => match c.callee with
    | .builtin b => sLooks P b c.argTypes.toList o.type (c.args.map fun | .const _ => true | _ => false).toList args H
    | .value f => (ev f).bind fun fv => (fnOf fv).bind fun g => match P.funcs[g.1]? with
      | some fn => match fn.body with
        | some _ => none
        | none => pureStep P (.row g.1) (g.2.1 ++ args ++ g.2.2)
      | none => none
    | _ => none
  | _ => none

section
variable {P : Program} {orc : Nat → List D → Option (List D)} {M0 : Mem} {w0 : World} {S : Nat → Prop} {cx : Cx} {H : SH} {w : World}
theorem cells_R {a : SV} {v : Value} {cs : List SV} (h : a.R P cx v) (hc : a.cells = some cs) : RL P cx cs v.cells.toList := by
  have one : ∀ {v : Value}, a.R P cx v → v.cells = #[v] → RL P cx [a] v.cells.toList := fun hr e => by rw [e]; exact RL_one hr
  cases a with
  | c x => simp only [SV.R] at h; subst h; simp only [SV.cells, Option.some.injEq] at hc; subst hc; exact RL_c _
  | agg cs' => simp only [SV.cells, Option.some.injEq] at hc; subst hc; simp only [SV.R] at h; obtain ⟨l, hl, rfl⟩ := h; simpa [Value.cells] using hl
  | unk => simp [SV.cells] at hc
  | tup cs' => simp [SV.cells] at hc
  | s x =>
    simp only [SV.cells, Option.some.injEq] at hc; subst hc
    exact one h (by have := h.2; cases v <;> first | rfl | simp [Value.oneCell'] at this)
  | d e x =>
    simp only [SV.cells, Option.some.injEq] at hc; subst hc
    refine one h ?_
    simp only [SV.R] at h
    obtain ⟨d, _, hd⟩ := h
    cases d with
    | v u => simp only [D.Rd] at hd; cases hd.1
    | l rows => simp only [D.Rd] at hd; obtain ⟨_, _, _, _, _, _, _, rfl, _⟩ := hd; rfl
  | own id => 
    simp only [SV.cells, Option.some.injEq] at hc; subst hc
    refine one h ?_
    simp only [SV.R] at h
    have := h.choose_spec.2.2
    cases v <;> first | rfl | simp [Value.oneCell'] at this
  | slc id off size len => simp only [SV.cells, Option.some.injEq] at hc; subst hc; refine one h ?_; simp only [SV.R] at h; obtain ⟨p, b, cap, _, _, rfl, _⟩ := h; rfl
  | ptr id off => simp only [SV.cells, Option.some.injEq] at hc; subst hc; refine one h ?_; simp only [SV.R] at h; obtain ⟨p, b, _, _, rfl⟩ := h; rfl
  | sp cs' => simp only [SV.cells, Option.some.injEq] at hc; subst hc; refine one h ?_; simp only [SV.R] at h; obtain ⟨b, o, rfl, _⟩ := h; rfl
  | fn f x y => simp only [SV.cells, Option.some.injEq] at hc; subst hc; refine one h ?_; simp only [SV.R] at h; obtain ⟨l, m, _, _, rfl⟩ := h; rfl
  | ifc t x => simp only [SV.cells, Option.some.injEq] at hc; subst hc; refine one h ?_; simp only [SV.R] at h; obtain ⟨u, _, rfl⟩ := h; rfl

def PartsR (P : Program) (cx : Cx) (parts : List (Nat × SV)) (parts' : List (Nat × Value)) : Prop :=
  parts'.length = parts.length ∧ ∀ (i : Nat) (p : Nat × SV), parts[i]? = some p → ∃ v, p.2.R P cx v ∧ parts'[i]? = some (p.1, v)
theorem fill_ok {place : Nat → Option (Nat × Nat)} : ∀ {parts : List (Nat × SV)} {parts' : List (Nat × Value)} {cells out : List SV} {m : List Value},
    parts'.length = parts.length → (∀ (i : Nat) (p : Nat × SV), parts[i]? = some p → ∃ v, p.2.R P cx v ∧ parts'[i]? = some (p.1, v)) →
    RL P cx cells m → sfill place cells parts = some out → ∃ m', RL P cx out m' ∧ Instr.fill place m.toArray parts' = some m'.toArray
  | [], [], cells, out, m, _, _, hm, ho => by
    simp only [sfill, Option.some.injEq] at ho; subst ho
    exact ⟨m, hm, rfl⟩
  | [], _ :: _, cells, out, m, hl, _, hm, ho => by simp at hl
  | (i, a) :: rest, [], cells, out, m, hl, _, hm, ho => by simp at hl
  | (i, a) :: rest, (j, v) :: rest', cells, out, m, hl, hp, hm, ho => by
    obtain ⟨v', hv', e⟩ := hp 0 (i, a) (by simp)
    simp at e
    obtain ⟨rfl, rfl⟩ := e
    simp only [sfill, Option.bind_eq_some_iff] at ho
    obtain ⟨⟨off, size⟩, hpl, cs, hcs, ho⟩ := ho
    cases hb : (Nat.beq cs.length size && Nat.ble (off + cs.length) cells.length) with
    | false => simp [hb] at ho
    | true =>
      simp only [hb, cond_true] at ho
      simp only [Bool.and_eq_true] at hb
      have hsz := Nat.eq_of_beq_eq_true hb.1
      have hle := Nat.le_of_ble_eq_true hb.2
      have hcv := cells_R hv' hcs
      have hlv : v.cells.size = cs.length := by have := RL_len hcv; simpa using this
      have hlm := RL_len hm
      have hnew := RL_append (RL_append (RL_take hm off) hcv) (RL_drop hm (off + cs.length))
      obtain ⟨m', h1, h2⟩ := fill_ok (parts' := rest') (by simpa using hl) (fun k p hk => by have := hp (k + 1) p (by simpa using hk); simpa using this) hnew ho
      refine ⟨m', h1, ?_⟩
      simp only [Instr.fill, hpl]
      rw [if_neg (by simp; omega)]
      rw [← h2]
      congr 1
      rw [← Array.foldl_toList, Array.toList_zipIdx]
      have := foldl_splice v.cells.toList off m 0 (by simp; omega)
      simp only [Nat.add_zero, Array.length_toList, hlv] at this
      exact this
theorem build_ok {t : TypeId} {parts : List (Nat × SV)} {parts' : Array (Nat × Value)} (hp : PartsR P cx parts parts'.toList) {a : SV} (hr : sBuild P t parts = some a) :
    VOK P cx H w (Instr.build t parts') a := by
  simp only [sBuild, Option.bind_eq_some_iff] at hr
  obtain ⟨z, hz, d, hd, hr⟩ := hr
  split at hr
  · rename_i fields
    simp only [Option.bind_eq_some_iff, Option.map_eq_some_iff] at hr
    obtain ⟨places, hpl, cells, hf, rfl⟩ := hr
    obtain ⟨m', h1, h2⟩ := fill_ok hp.1 hp.2 (RL_c _) hf
    refine ⟨.agg m'.toArray, ⟨_, h1, rfl⟩, fun w' _ => ?_⟩
    simp only [Array.toArray_toList] at h2
    simp only [Instr.build, Sem.run_bind, pureRun_run hz w', Result.andThen_ok, pureRun_run hd w', pureRun_run hpl w']
    simp [h2]
  · rename_i elem
    simp only [Option.bind_eq_some_iff, Option.map_eq_some_iff] at hr
    obtain ⟨size, hsz, cells, hf, rfl⟩ := hr
    obtain ⟨m', h1, h2⟩ := fill_ok hp.1 hp.2 (RL_c _) hf
    refine ⟨.agg m'.toArray, ⟨_, h1, rfl⟩, fun w' _ => ?_⟩
    simp only [Array.toArray_toList] at h2
    simp only [Instr.build, Sem.run_bind, pureRun_run hz w', Result.andThen_ok, pureRun_run hd w', pureRun_run hsz w']
    simp [h2]
  · cases hr

def EvR (P : Program) (cx : Cx) (ev : Operand → Option SV) (ρ' : Operand → Value) : Prop := ∀ (x : Operand) (a : SV), ev x = some a → a.R P cx (ρ' x)
variable {ev : Operand → Option SV} {ρ' : Operand → Value}
theorem evL_ok (hρ : EvR P cx ev ρ') : ∀ {l : List Operand} {as : List SV}, evL ev l = some as → RL P cx as (l.map ρ')
  | [], as, h => by simp only [evL, Option.some.injEq] at h; subst h; rfl
  | x :: l, as, h => by
    simp only [evL, Option.bind_eq_some_iff, Option.map_eq_some_iff] at h
    obtain ⟨a, ha, r, hr, rfl⟩ := h
    exact ⟨_, _, rfl, hρ x a ha, evL_ok hρ hr⟩
theorem evP_ok (hρ : EvR P cx ev ρ') : ∀ {l : List (Nat × Operand)} {as : List (Nat × SV)}, evP ev l = some as → PartsR P cx as (l.map fun (i, x) => (i, ρ' x))
  | [], as, h => by simp only [evP, Option.some.injEq] at h; subst h; exact ⟨rfl, fun i p hp => by simp at hp⟩
  | (i, x) :: l, as, h => by
    simp only [evP, Option.bind_eq_some_iff, Option.map_eq_some_iff] at h
    obtain ⟨a, ha, r, hr, rfl⟩ := h
    obtain ⟨h1, h2⟩ := evP_ok hρ hr
    refine ⟨by simpa using h1, fun j p hp => ?_⟩
    cases j with
    | zero => simp at hp; subst hp; exact ⟨_, hρ x a ha, by simp⟩
    | succ j => simp at hp; obtain ⟨v, hv, e⟩ := h2 j p hp; exact ⟨v, hv, by simpa using e⟩
theorem evO_ok (hρ : EvR P cx ev ρ') {o : Option Operand} {a : Option SV} (h : evO ev o = some a) : OptR P cx a (o.map ρ') := by
  cases o with
  | none => simp only [evO, Option.some.injEq] at h; subst h; trivial
  | some x => simp only [evO, Option.map_eq_some_iff] at h; obtain ⟨b, hb, rfl⟩ := h; exact hρ x b hb
theorem fnOf_ok {a : SV} {g : FuncId} {x y : List SV} {v : Value} (h : fnOf a = some (g, x, y)) (hr : a.R P cx v) : ∃ l m, RL P cx x l ∧ RL P cx y m ∧ v = .func (.func g) l.toArray m.toArray := by
  unfold fnOf at h
  split at h
  · rename_i g' f c
    simp only [Option.some.injEq, Prod.mk.injEq] at h
    obtain ⟨rfl, rfl, rfl⟩ := h
    simp only [SV.R] at hr; subst hr
    exact ⟨f.toList, c.toList, RL_c _, RL_c _, by simp⟩
  · simp only [Option.some.injEq, Prod.mk.injEq] at h
    obtain ⟨rfl, rfl, rfl⟩ := h
    simp only [SV.R] at hr
    exact hr
  · cases h
/-- A call of a known function. -/
theorem call_run {c : Call} {t : TypeId} {f : Operand} {fv : SV} {g : FuncId} {x y args : List SV} (hcal : c.callee = .value f) (hf : ev f = some fv) (hfn : fnOf fv = some (g, x, y)) (hargs : evL ev c.args.toList = some args) (hρ : EvR P cx ev ρ') :
    ∃ vs, RL P cx (x ++ args ++ y) vs ∧ (do let d ← resolve ρ' c t; invoke d.target d.args : Sem Next) = callFunc g vs.toArray := by
  obtain ⟨l, m, hl, hm, hv⟩ := fnOf_ok hfn (hρ f fv hf)
  have hA := evL_ok hρ hargs
  refine ⟨l ++ c.args.toList.map ρ' ++ m, RL_append (RL_append hl hA) hm, ?_⟩
  have hmap : c.args.map ρ' = (c.args.toList.map ρ').toArray := by apply Array.ext'; simp
  simp only [resolve, hcal, hv, Deferred.ofValue, invoke, pure_bind, hmap]
  congr 1
  simp
/-- What a value step comes to. -/
theorem vStep_ok (h : WR P M0 w0 S cx H w) (hρ : EvR P cx ev ρ') {o : Oper} {st : VS} {base : Nat} (hr : vStep P ev o H = some st) (hb : Bd P orc cx.ρ base st.1) :
    ∃ v, (st.2 base).R P cx v ∧ ∀ w', Agree cx H w w' → (execOp ρ' o).run P w' = .ok (.value v) w' := by
  have ofV : ∀ {s : Sem Value} {a : SV}, execOp ρ' o = (do pure (.value (← s))) → VOK P cx H w s a → ∃ v, a.R P cx v ∧ ∀ w', Agree cx H w w' → (execOp ρ' o).run P w' = .ok (.value v) w' := by
    rintro s a hs ⟨v, h1, h2⟩
    exact ⟨v, h1, fun w' hw' => by rw [hs]; simp [h2 w' hw']⟩
  have mv : ∀ {x : Operand}, execOp ρ' o = pure (.value (ρ' x)) → (ev x).map (fun a => ((none, fun _ => a) : VS)) = some st → ∃ v, (st.2 base).R P cx v ∧ ∀ w', Agree cx H w w' → (execOp ρ' o).run P w' = .ok (.value v) w' := by
    intro x hs he
    simp only [Option.map_eq_some_iff] at he
    obtain ⟨a, ha, rfl⟩ := he
    exact ⟨_, hρ x a ha, fun w' _ => by rw [hs]; rfl⟩
  unfold vStep at hr
  simp only at hr
  split at hr
  · rename_i x hop; exact mv (by unfold execOp; simp only [hop]) hr
  · rename_i x hop; exact mv (by unfold execOp; simp only [hop]) hr
  · rename_i c a b hop
    have hc : ∀ t : Bool, ev c = some (.c (.bool t)) → ρ' c = .bool t := fun t ht => by have := hρ c _ ht; simpa [SV.R] using this
    split at hr
    · rename_i ht
      exact mv (x := a) (by unfold execOp; simp only [hop, hc true ht]; rfl) hr
    · rename_i ht
      exact mv (x := b) (by unfold execOp; simp only [hop, hc false ht]; rfl) hr
    · cases hr
  · rename_i t parts hop
    simp only [Option.bind_eq_some_iff, Option.map_eq_some_iff] at hr
    obtain ⟨ps, hps, a, ha, rfl⟩ := hr
    have := evP_ok hρ hps
    refine ofV (s := Instr.build t (parts.map fun (i, x) => (i, ρ' x))) (by unfold execOp; simp only [hop]) (build_ok ?_ ha)
    simpa using this
  · rename_i t x hop
    simp only [Option.bind_eq_some_iff, Option.map_eq_some_iff] at hr
    obtain ⟨a, ha, r, hr, rfl⟩ := hr
    exact ofV (by unfold execOp; simp only [hop]) (load_ok h (hρ x a ha) hr)
  · rename_i x hop
    simp only [Option.bind_eq_some_iff] at hr
    obtain ⟨a, ha, hr⟩ := hr
    cases hn : sNil a with
    | false => simp [hn] at hr
    | true =>
      simp only [hn, cond_true, Option.some.injEq] at hr; subst hr
      exact ⟨_, hρ x a ha, fun w' _ => nil_ok hop (hρ x a ha) rfl hn w'⟩
  · rename_i op t x y yt hop
    simp only [Option.bind_eq_some_iff] at hr
    obtain ⟨a, ha, b, hb', hr⟩ := hr
    exact ofV (by unfold execOp; simp only [hop]) (bin_ok (hρ x a ha) (hρ y b hb') hr hb)
  · rename_i op t x hop
    simp only [Option.bind_eq_some_iff] at hr
    obtain ⟨a, ha, hr⟩ := hr
    obtain ⟨v, hv, hrun⟩ := pureStep_ok (RL_one (hρ x a ha)) hr hb
    exact ofV (s := Op.unary op (ρ' x)) (by unfold execOp; simp only [hop]) ⟨v, hv, fun w' _ => pureRun_run hrun w'⟩
  · rename_i s d x hop
    simp only [Option.bind_eq_some_iff] at hr
    obtain ⟨a, ha, hr⟩ := hr
    exact ofV (by unfold execOp; simp only [hop]) (convert_ok h (hρ x a ha) hr hb)
  · rename_i t x hop
    simp only [Option.bind_eq_some_iff, Option.map_eq_some_iff] at hr
    obtain ⟨a, ha, r, hr, rfl⟩ := hr
    exact ofV (by unfold execOp; simp only [hop]) (iface_ok (hρ x a ha) hr)
  · rename_i f first captured hop
    simp only [Option.bind_eq_some_iff, Option.some.injEq] at hr
    obtain ⟨a, ha, b, hb', rfl⟩ := hr
    refine ofV (s := Instr.makeFunc f (first.map ρ') (captured.map ρ')) (by unfold execOp; simp only [hop]) ⟨.func f (first.map ρ') (captured.map ρ'), ⟨_, _, evL_ok hρ ha, evL_ok hρ hb', ?_⟩, fun w' _ => rfl⟩
    congr 1 <;> (apply Array.ext'; simp)
  · rename_i t x lo hi mx hop
    simp only [Option.bind_eq_some_iff] at hr
    obtain ⟨a, ha, l, hl, hh, hhh, m, hm, hr⟩ := hr
    exact ofV (by unfold execOp; simp only [hop]) (slice_ok h (hρ x a ha) (evO_ok hρ hl) (evO_ok hρ hhh) (evO_ok hρ hm) hr hb)
  · rename_i s x f hop
    simp only [Option.bind_eq_some_iff] at hr
    obtain ⟨a, ha, hr⟩ := hr
    exact ofV (by unfold execOp; simp only [hop]) (fieldAddr_ok (hρ x a ha) hr hb)
  · rename_i t x f hop
    simp only [Option.bind_eq_some_iff] at hr
    obtain ⟨a, ha, hr⟩ := hr
    exact ofV (by unfold execOp; simp only [hop]) (field_ok (hρ x a ha) hr hb)
  · rename_i t x y hop
    simp only [Option.bind_eq_some_iff] at hr
    obtain ⟨a, ha, b, hb', hr⟩ := hr
    exact ofV (by unfold execOp; simp only [hop]) (indexAddr_ok h (hρ x a ha) (hρ y b hb') hr hb)
  · rename_i t x y hop
    simp only [Option.bind_eq_some_iff] at hr
    obtain ⟨a, ha, b, hb', hr⟩ := hr
    exact ofV (by unfold execOp; simp only [hop]) (index_ok h (hρ x a ha) (hρ y b hb') hr hb)
  · rename_i x i hop
    simp only [Option.bind_eq_some_iff, Option.map_eq_some_iff] at hr
    obtain ⟨a, ha, r, hr, rfl⟩ := hr
    exact ofV (by unfold execOp; simp only [hop]) (extract_ok (hρ x a ha) hr)
  · rename_i c hop
    simp only [Option.bind_eq_some_iff] at hr
    obtain ⟨args, hargs, hr⟩ := hr
    have hex : execOp ρ' o = (do let d ← resolve ρ' c o.type; invoke d.target d.args) := by unfold execOp; simp only [hop]
    split at hr
    · rename_i b hcal
      have hA := evL_ok hρ hargs
      have hmap : c.args.map ρ' = (c.args.toList.map ρ').toArray := by apply Array.ext'; simp
      obtain ⟨_, v, h1, h2⟩ := looks_ok h hA hr hb
      refine ⟨v, h1, fun w' hw' => ?_⟩
      rw [hex]
      simp only [resolve, hcal, Sem.run_bind, Sem.run_pure, Result.andThen_ok, invoke, hmap]
      have := h2 w' hw'
      rw [Array.toArray_toList, Array.toArray_toList] at this
      exact this
    · rename_i f hcal
      simp only [Option.bind_eq_some_iff] at hr
      obtain ⟨fv, hfv, ⟨g, x, y⟩, hg, hr⟩ := hr
      obtain ⟨vs, hvs, hcall⟩ := call_run (t := o.type) hcal hfv hg hargs hρ
      split at hr
      · split at hr
        · cases hr
        · obtain ⟨v, hv, hrun⟩ := pureStep_ok hvs hr hb
          refine ⟨v, hv, fun w' _ => ?_⟩
          rw [hex, hcall]
          simp only [PF.run] at hrun
          split at hrun
          · rename_i u hu
            simp only [Option.some.injEq] at hrun; subst hrun
            exact pureRun_run hu w'
          · cases hrun
      · cases hr
    · cases hr
  · cases hr
end
end Go.Proofs.YtfphabkdgdgnbaaGreatDoor.SE
