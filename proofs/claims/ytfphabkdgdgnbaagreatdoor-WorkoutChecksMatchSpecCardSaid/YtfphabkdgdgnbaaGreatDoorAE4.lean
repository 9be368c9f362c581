import Derived.Test.YtfphabkdgdgnbaaGreatDoorAE3
set_option linter.unusedVariables false
set_option linter.unusedSimpArgs false
namespace Go.Proofs.YtfphabkdgdgnbaaGreatDoor.AE
open Go Go.RowKit

/-- What is known of package-level variables. -/
abbrev Gl := List (Nat × List Value)
def GOK (B : Nat) (w0 : World) (G : Gl) : Prop := ∀ (g : Nat) (cs : List Value), (g, cs) ∈ G → g < B ∧ ∀ (j : Nat) (v : Value), cs[j]? = some v → w0.cell? ⟨g, j, none⟩ = some v
def Gl.find (g : Nat) : Gl → Option (List Value)
  | [] => none
  | (k, cs) :: r => bif Nat.beq k g then some cs else Gl.find g r
theorem find_mem {g : Nat} {cs : List Value} : ∀ {G : Gl}, Gl.find g G = some cs → (g, cs) ∈ G
  | [], h => by simp [Gl.find] at h
  | (k, c) :: r, h => by
    simp only [Gl.find] at h
    cases hb : Nat.beq k g with
    | true => simp only [hb, cond_true, Option.some.injEq] at h; rw [Nat.eq_of_beq_eq_true hb, h]; exact List.mem_cons_self ..
    | false => simp only [hb, cond_false] at h; exact List.mem_cons_of_mem _ (find_mem h)

section
variable {P : Program} {B : Nat} {w0 : World} {σ : Sg} {H : AH} {w : World} {G : Gl}

theorem glob_cell (hG : GOK B w0 G) (h : WR B w0 σ H w) {g : Nat} {cs : List Value} (hf : Gl.find g G = some cs) {j : Nat} {v : Value} (hj : cs[j]? = some v) : w.cell? ⟨g, j, none⟩ = some v := by
  obtain ⟨h1, h2⟩ := hG g cs (find_mem hf)
  have := h2 j v hj
  rw [h.below.cell (p := ⟨g, j, none⟩) h1]; exact this

def aLoad (P : Program) (G : Gl) (t : TypeId) (addr : AV) (H : AH) : Option AV :=
  (pureRun P (isAgg t)).bind fun ag => match addr with
    | .ptr id off => (getC H id).bind fun cs =>
        match ag with
        | true => (pureRun P (sizeOf t)).bind fun n => bif Nat.ble (off + n) cs.length then some (.agg ((cs.drop off).take n)) else none
        | false => cs[off]?
    | .v (.pointer (some ⟨g, off, none⟩)) => (Gl.find g G).bind fun cs =>
        match ag with
        | true => (pureRun P (sizeOf t)).bind fun n => bif Nat.ble (off + n) cs.length then some (.v (.agg ((cs.drop off).take n).toArray)) else none
        | false => cs[off]?.map .v
    | _ => none

theorem load_pure (hG : GOK B w0 G) (h : WR B w0 σ H w) {t : TypeId} {addr a : AV} {x : Value} (hx : addr.conc σ = some x) (hr : aLoad P G t addr H = some a) :
    ∃ v, a.conc σ = some v ∧ (Instr.loadAt t x).run P w = .ok v w := by
  simp only [aLoad, Option.bind_eq_some_iff] at hr
  obtain ⟨ag, hag, hr⟩ := hr
  have hag' := pureRun_run hag w
  split at hr
  · rename_i id off
    simp only [AV.conc, Option.map_eq_some_iff] at hx
    obtain ⟨p, hp, rfl⟩ := hx
    simp only [Option.bind_eq_some_iff] at hr
    obtain ⟨cs, ho, hr⟩ := hr
    split at hr
    · simp only [Option.bind_eq_some_iff] at hr
      obtain ⟨n, hn, hr⟩ := hr
      cases hb : Nat.ble (off + n) cs.length with
      | false => simp [hb] at hr
      | true =>
        simp only [hb, cond_true, Option.some.injEq] at hr; subst hr
        obtain ⟨l, hl, hrun⟩ := h.cellsAt P ho hp (Nat.le_of_ble_eq_true hb)
        exact ⟨.agg l.toArray, (by simp [AV.conc, hl]), (by simp [Instr.loadAt, Instr.sureAddr, loadVar, hag', pureRun_run hn w, hrun])⟩
    · obtain ⟨v, hv, hc⟩ := h.cell ho hp hr
      exact ⟨_, hv, (by simp [Instr.loadAt, Instr.sureAddr, loadVar, hag', hc])⟩
  · rename_i g off
    simp only [AV.conc, Option.some.injEq] at hx; subst hx
    simp only [Option.bind_eq_some_iff] at hr
    obtain ⟨cs, hf, hr⟩ := hr
    split at hr
    · simp only [Option.bind_eq_some_iff] at hr
      obtain ⟨n, hn, hr⟩ := hr
      cases hb : Nat.ble (off + n) cs.length with
      | false => simp [hb] at hr
      | true =>
        simp only [hb, cond_true, Option.some.injEq] at hr; subst hr
        have hle := Nat.le_of_ble_eq_true hb
        have hrun := run_loadCells_list (P := P) w ⟨g, off, none⟩ ((cs.drop off).take n) (fun j v hj => by
          rw [addr_add]
          rw [List.getElem?_take] at hj
          split at hj
          · rw [List.getElem?_drop] at hj; exact glob_cell hG h hf hj
          · cases hj)
        have hlen : ((cs.drop off).take n).length = n := by simp; omega
        rw [hlen] at hrun
        exact ⟨.agg ((cs.drop off).take n).toArray, (by simp [AV.conc]), (by simp [Instr.loadAt, Instr.sureAddr, loadVar, hag', pureRun_run hn w, hrun])⟩
    · simp only [Option.map_eq_some_iff] at hr
      obtain ⟨v, hv, rfl⟩ := hr
      have hc := glob_cell hG h hf hv
      exact ⟨v, (by simp [AV.conc]), (by simp [Instr.loadAt, Instr.sureAddr, loadVar, hag', hc])⟩
  · cases hr

theorem load_ok (hG : GOK B w0 G) (h : WR B w0 σ H w) {t : TypeId} {addr a : AV} {x : Value} (hx : addr.conc σ = some x) (hr : aLoad P G t addr H = some a) :
    OKp P σ w (Instr.loadAt t x) a := by
  obtain ⟨v, hv, hrun⟩ := load_pure (P := P) hG h hx hr
  exact ⟨v, hv, hrun⟩

def aStore (P : Program) (t : TypeId) (addr val : AV) (H : AH) : Option AH :=
  (pureRun P (sizeOf t)).bind fun n => match addr with
    | .ptr id off => match H[id]? with
      | some (.cells cs e) =>
        bif Nat.beq val.cells.length n && Nat.ble (off + val.cells.length) cs.length && val.cells.all AV.one then
          some (H.set id (.cells (cs.take off ++ val.cells ++ cs.drop (off + val.cells.length)) e)) else none
      | _ => none
    | _ => none
theorem store_ok (h : WR B w0 σ H w) {t : TypeId} {addr val : AV} {x y : Value} (hx : addr.conc σ = some x) (hy : val.conc σ = some y) {H' : AH} (hr : aStore P t addr val H = some H') :
    OKU P B w0 σ w (Instr.storeAt t x y) H' := by
  simp only [aStore, Option.bind_eq_some_iff] at hr
  obtain ⟨n, hn, hr⟩ := hr
  split at hr
  · rename_i id off
    simp only [AV.conc, Option.map_eq_some_iff] at hx
    obtain ⟨p, hp, rfl⟩ := hx
    split at hr
    · rename_i cs e ho
      cases hb : (Nat.beq val.cells.length n && Nat.ble (off + val.cells.length) cs.length && val.cells.all AV.one) with
      | false => simp [hb] at hr
      | true =>
        simp only [hb, cond_true, Option.some.injEq] at hr; subst hr
        simp only [Bool.and_eq_true] at hb
        have hcl := cells_conc hy
        have hl := concL_length hcl
        obtain ⟨w', hrun, hw'⟩ := h.storeAt P ho hp (Nat.le_of_ble_eq_true hb.1.2) hcl hb.2
        refine ⟨w', hw', ?_⟩
        have hne : ¬ (y.cells.size ≠ n) := by
          have := Nat.eq_of_beq_eq_true hb.1.1
          simp at hl; omega
        simp only [Instr.storeAt, Instr.sureAddr, Sem.run_bind, Sem.run_pure, Result.andThen_ok, storeVar, pureRun_run hn w, hne, if_false, hrun]
    · cases hr
  · cases hr

def aNil : AV → Bool
  | .ptr .. | .mp _ | .slc .. => true
  | .v (.pointer (some _)) => true
  | .fn (.func _) _ _ => true
  | .v (.func (.func _) _ _) => true
  | _ => false
theorem nil_ok {o : Oper} {ρ' : Operand → Value} {x : Operand} (hop : o.op = .nilCheck x) {a : AV} {v : Value} (hc : a.conc σ = some v) (hv : ρ' x = v) (ha : aNil a = true) :
    (execOp ρ' o).run P w = .ok (.value v) w := by
  unfold execOp
  simp only [hop, hv]
  cases a with
  | ptr id off => simp only [AV.conc, Option.map_eq_some_iff] at hc; obtain ⟨l, hl, rfl⟩ := hc; rfl
  | slc id off size len cap =>
    simp only [AV.conc, Option.bind_eq_some_iff] at hc; obtain ⟨l, hl, hc⟩ := hc
    split at hc
    · simp only [Option.some.injEq] at hc; subst hc; rfl
    · cases hc
  | fn f a b => 
    simp only [AV.conc, Option.map_eq_some_iff, Option.bind_eq_some_iff] at hc; obtain ⟨l, hl, m, hm, rfl⟩ := hc
    cases f <;> simp [aNil] at ha
    rfl
  | mp id => simp only [AV.conc, Option.map_eq_some_iff] at hc; obtain ⟨l, hl, rfl⟩ := hc; rfl
  | v y =>
    simp only [AV.conc, Option.some.injEq] at hc; subst hc
    cases y with
    | pointer p => cases p with
      | none => simp [aNil] at ha
      | some q => rfl
    | func f a b => cases f <;> simp [aNil] at ha; rfl
    | _ => simp [aNil] at ha
  | agg cs => simp [aNil] at ha
  | tup cs => simp [aNil] at ha
  | ifc t x => simp [aNil] at ha

/-- '==', '!=' of something that is not nil with nil. -/
def aEqNil (P : Program) (t : TypeId) (x y : AV) : Bool :=
  match pureRun P (underlying t), x, y with
  | some (.pointer _), .ptr .., .v (.pointer none) => true
  | some (.slice _), .slc .., .v (.slice none 0 0) => true
  | some (.func ..), .fn .., .v .nilFunc => true
  | some (.interface _), .ifc .., .v .nilIface => true
  | some (.map ..), .mp _, .v (.map none) => true
  | _, _, _ => false
theorem eqNil_ok {t : TypeId} {a b : AV} {x y : Value} (hx : a.conc σ = some x) (hy : b.conc σ = some y) (h : aEqNil P t a b = true) :
    (∀ (op : BinOp) (ox oy : Operand), (eqGuard op t ox oy x y).run P w = .ok () w) ∧ (binOp .eql t x y).run P w = .ok (.bool false) w ∧ (binOp .neq t x y).run P w = .ok (.bool true) w := by
  have key : (∀ (op : BinOp) (ox oy : Operand), (eqGuard op t ox oy x y).run P w = .ok () w) ∧ (∀ d, (Op.equalIn (d + 1) t x y).run P w = .ok false w) ∧
      (binOp .eql t x y) = (do pure (.bool (← Op.equal t x y)) : Sem Value) ∧ (binOp .neq t x y) = (do pure (.bool (!(← Op.equal t x y))) : Sem Value) := by
    unfold aEqNil at h
    split at h
    all_goals first
      | cases h; done
      | skip
    · rename_i e id off hu
      have hu' := pureRun_run hu w
      simp only [AV.conc, Option.map_eq_some_iff, Option.some.injEq] at hx hy
      obtain ⟨p, hp, rfl⟩ := hx; subst hy
      exact ⟨fun op ox oy => by cases op <;> simp [eqGuard], fun d => by simp [Op.equalIn, hu'], rfl, rfl⟩
    · rename_i e id off size len cap hu
      have hu' := pureRun_run hu w
      simp only [AV.conc, Option.bind_eq_some_iff, Option.some.injEq] at hx hy
      obtain ⟨p, hp, hx⟩ := hx; subst hy
      split at hx
      · simp only [Option.some.injEq] at hx; subst hx
        exact ⟨fun op ox oy => by cases op <;> simp [eqGuard], fun d => by simp [Op.equalIn, hu'], rfl, rfl⟩
      · cases hx
    · rename_i e1 e2 e3 f a b hu
      have hu' := pureRun_run hu w
      simp only [AV.conc, Option.bind_eq_some_iff, Option.map_eq_some_iff, Option.some.injEq] at hx hy
      obtain ⟨p, hp, q, hq, rfl⟩ := hx; subst hy
      exact ⟨fun op ox oy => by cases op <;> simp [eqGuard], fun d => by simp [Op.equalIn, hu'], rfl, rfl⟩
    · rename_i e t' x' hu
      have hu' := pureRun_run hu w
      simp only [AV.conc, Option.bind_eq_some_iff, Option.map_eq_some_iff, Option.some.injEq] at hx hy
      obtain ⟨p, hp, rfl⟩ := hx; subst hy
      exact ⟨fun op ox oy => by cases op <;> simp [eqGuard], fun d => by simp [Op.equalIn, hu'], rfl, rfl⟩
    · rename_i e1 e2 id hu
      have hu' := pureRun_run hu w
      simp only [AV.conc, Option.bind_eq_some_iff, Option.map_eq_some_iff, Option.some.injEq] at hx hy
      obtain ⟨p, hp, rfl⟩ := hx; subst hy
      exact ⟨fun op ox oy => by cases op <;> simp [eqGuard], fun d => by simp [Op.equalIn, hu'], rfl, rfl⟩
  obtain ⟨h1, h2, h3, h4⟩ := key
  have h5 : (Op.equal t x y).run P w = .ok false w := h2 9999
  exact ⟨h1, by rw [h3]; simp [h5], by rw [h4]; simp [h5]⟩
end
end Go.Proofs.YtfphabkdgdgnbaaGreatDoor.AE
