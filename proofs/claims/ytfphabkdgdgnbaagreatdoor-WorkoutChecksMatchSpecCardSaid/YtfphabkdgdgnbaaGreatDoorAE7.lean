import Derived.Test.YtfphabkdgdgnbaaGreatDoorAE6
set_option linter.unusedVariables false
set_option linter.unusedSimpArgs false
namespace Go.Proofs.YtfphabkdgdgnbaaGreatDoor.AE
open Go Go.RowKit

section
variable {P : Program} {B : Nat} {w0 : World} {σ : Sg} {H : AH} {w : World} {G : Gl}

/-- A place: a whole number that is not negative. -/
def aNat : AV → Option Nat
  | .v (.int _ (.ofNat n)) => some n
  | _ => none
theorem nat_conc {σ : Sg} {a : AV} {n : Nat} {x : Value} (h : aNat a = some n) (hx : a.conc σ = some x) : ∃ k, x = .int k (n : Int) := by
  unfold aNat at h
  split at h
  · simp only [AV.conc, Option.some.injEq] at hx h; subst hx h; exact ⟨_, rfl⟩
  · cases h
theorem conc_slc {σ : Sg} {id off size len : Nat} {cap : Option Nat} {x : Value} (h : (AV.slc id off size len cap).conc σ = some x) :
    ∃ p c, σ[id]? = some p ∧ c = cap.getD (p.2 / size - off) ∧ len ≤ c ∧ x = .slice (some ⟨p.1, off * size, none⟩) len c := by
  simp only [AV.conc, Option.bind_eq_some_iff] at h
  obtain ⟨p, hp, h⟩ := h
  split at h
  · rename_i hle
    simp only [Option.some.injEq] at h; exact ⟨p, _, hp, rfl, hle, h.symm⟩
  · cases h

/-! slicing -/
def aOptNat (d : Nat) : Option AV → Option Nat
  | none => some d
  | some a => aNat a
def OptR (σ : Sg) : Option AV → Option Value → Prop
  | none, none => True
  | some a, some x => a.conc σ = some x
  | _, _ => False
theorem bounds_ok {σ : Sg} {lo hi : Option AV} {lo' hi' : Option Value} {isS : Bool} {len cap l h : Nat} (hlo : OptR σ lo lo') (hhi : OptR σ hi hi') (hl : aOptNat 0 lo = some l) (hh : aOptNat len hi = some h) (h1 : l ≤ h) (h2 : h ≤ cap) (w : World) :
    (Instr.sliceBounds isS len cap lo' hi' none).run P w = .ok (l, h, cap) w := by
  have A : (lo' = none ∧ l = 0) ∨ ∃ k, lo' = some (.int k (l : Int)) := by
    cases lo with
    | none => cases lo' with
      | none => simp only [aOptNat, Option.some.injEq] at hl; exact .inl ⟨rfl, hl.symm⟩
      | some x => exact hlo.elim
    | some a => cases lo' with
      | none => exact hlo.elim
      | some x => obtain ⟨k, rfl⟩ := nat_conc hl hlo; exact .inr ⟨k, rfl⟩
  have B' : (hi' = none ∧ h = len) ∨ ∃ k, hi' = some (.int k (h : Int)) := by
    cases hi with
    | none => cases hi' with
      | none => simp only [aOptNat, Option.some.injEq] at hh; exact .inl ⟨rfl, hh.symm⟩
      | some x => exact hhi.elim
    | some a => cases hi' with
      | none => exact hhi.elim
      | some x => obtain ⟨k, rfl⟩ := nat_conc hh hhi; exact .inr ⟨k, rfl⟩
  rcases A with ⟨rfl, rfl⟩ | ⟨k, rfl⟩ <;> rcases B' with ⟨rfl, rfl⟩ | ⟨k2, rfl⟩ <;> simp [Instr.sliceBounds, Instr.sliceBound, asIntOf, h1, h2]

def aRoom (l len : Nat) : Option Nat → Bool
  | some c => !Nat.beq c l
  | none => Nat.blt l len
def aSlice (P : Program) (t : TypeId) (a : AV) (lo hi mx : Option AV) (H : AH) : Option AV :=
  match a, mx with
  | .slc id off size len cap, none =>
    match pureRun P (underlying t) with
    | some (.slice e) =>
      (pureRun P (sizeOf e)).bind fun n => (aOptNat 0 lo).bind fun l => (aOptNat len hi).bind fun h =>
        bif Nat.beq n size && Nat.ble l h && Nat.ble h len && (Nat.beq l 0 || aRoom l len cap) then some (.slc id (off + l) size (h - l) (cap.map (· - l))) else none
    | _ => none
  | .ptr id off, none =>
    match pureRun P (underlying t) with
    | some (.array m e) =>
      (pureRun P (sizeOf e)).bind fun n => (aOptNat 0 lo).bind fun l => (aOptNat m hi).bind fun h =>
        bif !Nat.beq n 0 && Nat.beq (off % n) 0 && Nat.ble l h && Nat.ble h m && (Nat.beq l 0 || !Nat.beq m l) then some (.slc id (off / n + l) n (h - l) (some (m - l))) else none
    | _ => none
  | .v x, none =>
    match lo, hi with
    | none, none => (pureRun P (Instr.sliceAt t x none none none)).map .v
    | some a, none => a.toV?.bind fun y => (pureRun P (Instr.sliceAt t x (some y) none none)).map .v
    | none, some b => b.toV?.bind fun z => (pureRun P (Instr.sliceAt t x none (some z) none)).map .v
    | some a, some b => a.toV?.bind fun y => b.toV?.bind fun z => (pureRun P (Instr.sliceAt t x (some y) (some z) none)).map .v
  | _, _ => none
theorem slice_ok (h : WR B w0 σ H w) {t : TypeId} {a r : AV} {lo hi mx : Option AV} {lo' hi' mx' : Option Value} {x : Value} (hx : a.conc σ = some x) (hlo : OptR σ lo lo') (hhi : OptR σ hi hi') (hmx : OptR σ mx mx')
    (hr : aSlice P t a lo hi mx H = some r) : OKp P σ w (Instr.sliceAt t x lo' hi' mx') r := by
  unfold aSlice at hr
  split at hr
  · rename_i id off size len cap
    have hm0 : mx' = none := by cases mx' with | none => rfl | some y => exact hmx.elim
    subst hm0
    split at hr
    · rename_i e hu
      simp only [Option.bind_eq_some_iff] at hr
      obtain ⟨n, hn, l, hl, hh, hhh, hr⟩ := hr
      cases hb : (Nat.beq n size && Nat.ble l hh && Nat.ble hh len && (Nat.beq l 0 || aRoom l len cap)) with
      | false => simp only [hb, cond_false] at hr; cases hr
      | true =>
        simp only [hb, cond_true, Option.some.injEq] at hr; subst hr
        simp only [Bool.and_eq_true, Bool.or_eq_true] at hb
        obtain ⟨⟨⟨h1, h2⟩, h3⟩, h4⟩ := hb
        have h1 := Nat.eq_of_beq_eq_true h1
        have h2 := Nat.le_of_ble_eq_true h2
        have h3 := Nat.le_of_ble_eq_true h3
        subst h1
        obtain ⟨p, c, hp, hc, hle, rfl⟩ := conc_slc hx
        have hcl : c = l → l = 0 := by
          intro e
          rcases h4 with h4 | h4
          · exact Nat.eq_of_beq_eq_true h4
          · cases cap with
            | some c' =>
              simp at hc; subst hc
              simp only [aRoom, Bool.not_eq_true'] at h4
              exact absurd e (Nat.ne_of_beq_eq_false h4)
            | none =>
              have : l < len := by simp [aRoom, Nat.blt] at h4; omega
              omega
        refine OK1.pure h (v := .slice (some ⟨p.1, (off + l) * n, none⟩) (hh - l) (c - l)) ?_ ?_
        · simp only [AV.conc, hp, Option.bind_some]
          have : (cap.map (· - l)).getD (p.2 / n - (off + l)) = c - l := by
            cases cap with
            | some c' => simp at hc ⊢; omega
            | none => simp at hc ⊢; omega
          rw [this, if_pos (by omega)]
        · have hu' := pureRun_run hu w
          simp only [Instr.sliceAt, Sem.run_bind, hu', Result.andThen_ok, Instr.slice, bounds_ok (P := P) hlo hhi hl hhh h2 (show hh ≤ c by omega) w, pureRun_run hn w, Sem.run_pure]
          congr 2
          by_cases hcc : c = l
          · have := hcl hcc; subst this; simp [hcc]
          · simp [hcc, addr_add, Nat.add_mul]
    · cases hr
  · rename_i id off
    have hm0 : mx' = none := by cases mx' with | none => rfl | some y => exact hmx.elim
    subst hm0
    split at hr
    · rename_i m e hu
      simp only [Option.bind_eq_some_iff] at hr
      obtain ⟨n, hn, l, hl, hh, hhh, hr⟩ := hr
      cases hb : (!Nat.beq n 0 && Nat.beq (off % n) 0 && Nat.ble l hh && Nat.ble hh m && (Nat.beq l 0 || !Nat.beq m l)) with
      | false => simp only [hb, cond_false] at hr; cases hr
      | true =>
        simp only [hb, cond_true, Option.some.injEq] at hr; subst hr
        simp only [Bool.and_eq_true, Bool.or_eq_true, Bool.not_eq_true'] at hb
        obtain ⟨⟨⟨⟨h0, h1⟩, h2⟩, h3⟩, h4⟩ := hb
        have h0 := Nat.ne_of_beq_eq_false h0
        have h1 := Nat.eq_of_beq_eq_true h1
        have h2 := Nat.le_of_ble_eq_true h2
        have h3 := Nat.le_of_ble_eq_true h3
        simp only [AV.conc, Option.map_eq_some_iff] at hx
        obtain ⟨p, hp, rfl⟩ := hx
        have hcl : m = l → l = 0 := by
          intro e
          rcases h4 with h4 | h4
          · exact Nat.eq_of_beq_eq_true h4
          · exact absurd e (Nat.ne_of_beq_eq_false h4)
        have hoff : off / n * n = off := Nat.div_mul_cancel (Nat.dvd_of_mod_eq_zero h1)
        refine OK1.pure h (v := .slice (some ⟨p.1, (off / n + l) * n, none⟩) (hh - l) (m - l)) ?_ ?_
        · simp only [AV.conc, hp, Option.bind_some, Option.getD_some]
          rw [if_pos (by omega)]
        · have hu' := pureRun_run hu w
          have hb3 : (Instr.sliceBounds false m m lo' hi' none).run P w = .ok (l, hh, m) w := bounds_ok (P := P) hlo hhi hl hhh h2 h3 w
          simp only [Instr.sliceAt, Sem.run_bind, hu', Result.andThen_ok, Instr.sureAddr, Sem.run_pure, hb3, pureRun_run hn w]
          congr 3
          by_cases hcc : m = l
          · have := hcl hcc; subst this; simp [hcc, hoff]
          · simp [hcc, addr_add, Nat.add_mul, hoff]
    · cases hr
  · rename_i y
    have hm0 : mx' = none := by cases mx' with | none => rfl | some y => exact hmx.elim
    subst hm0
    simp only [AV.conc, Option.some.injEq] at hx; subst hx
    split at hr
    · have : lo' = none := by cases lo' with | none => rfl | some y => exact hlo.elim
      subst this
      have : hi' = none := by cases hi' with | none => rfl | some y => exact hhi.elim
      subst this
      simp only [Option.map_eq_some_iff] at hr
      obtain ⟨v, hv, rfl⟩ := hr
      exact OK1.pure h (v := v) (by simp [AV.conc]) (pureRun_run hv w)
    · rename_i a'
      have : hi' = none := by cases hi' with | none => rfl | some y => exact hhi.elim
      subst this
      cases lo' with
      | none => exact hlo.elim
      | some z =>
        simp only [Option.map_eq_some_iff, Option.bind_eq_some_iff] at hr
        obtain ⟨z', hz', v, hv, rfl⟩ := hr
        have e := toV_conc σ _ hz' hlo
        subst e
        exact OK1.pure h (v := v) (by simp [AV.conc]) (pureRun_run hv w)
    · have : lo' = none := by cases lo' with | none => rfl | some y => exact hlo.elim
      subst this
      cases hi' with
      | none => exact hhi.elim
      | some z =>
        simp only [Option.map_eq_some_iff, Option.bind_eq_some_iff] at hr
        obtain ⟨z', hz', v, hv, rfl⟩ := hr
        have e := toV_conc σ _ hz' hhi
        subst e
        exact OK1.pure h (v := v) (by simp [AV.conc]) (pureRun_run hv w)
    · cases lo' with
      | none => exact hlo.elim
      | some z => cases hi' with
        | none => exact hhi.elim
        | some u =>
          simp only [Option.map_eq_some_iff, Option.bind_eq_some_iff] at hr
          obtain ⟨z', hz', u', hu', v, hv, rfl⟩ := hr
          have e := toV_conc σ _ hz' hlo
          subst e
          have e := toV_conc σ _ hu' hhi
          subst e
          exact OK1.pure h (v := v) (by simp [AV.conc]) (pureRun_run hv w)
  · cases hr

/-! addresses of elements -/
def aIndexAddr (P : Program) (t : TypeId) (a ix : AV) : Option AV :=
  match a with
  | .slc id off size len cap =>
    match pureRun P (underlying t) with
    | some (.slice e) => (pureRun P (sizeOf e)).bind fun n => (aNat ix).bind fun i => bif Nat.beq n size && Nat.blt i len then some (.ptr id (off * size + i * size)) else none
    | _ => none
  | .ptr id off =>
    match pureRun P (underlying t) with
    | some (.array len e) => (pureRun P (sizeOf e)).bind fun n => (aNat ix).bind fun i => bif Nat.blt i len then some (.ptr id (off + i * n)) else none
    | _ => none
  | a => aPure2 P (Instr.indexAt t) a ix
theorem indexAddr_ok (h : WR B w0 σ H w) {t : TypeId} {a ix r : AV} {x y : Value} (hx : a.conc σ = some x) (hy : ix.conc σ = some y) (hr : aIndexAddr P t a ix = some r) : OKp P σ w (Instr.indexAt t x y) r := by
  unfold aIndexAddr at hr
  split at hr
  · rename_i id off size len cap
    split at hr
    · rename_i e hu
      simp only [Option.bind_eq_some_iff] at hr
      obtain ⟨n, hn, i, hi, hr⟩ := hr
      cases hb : (Nat.beq n size && Nat.blt i len) with
      | false => simp only [hb, cond_false] at hr; cases hr
      | true =>
        simp only [hb, cond_true, Option.some.injEq] at hr; subst hr
        simp only [Bool.and_eq_true] at hb
        have h1 := Nat.eq_of_beq_eq_true hb.1
        have h2 : i < len := by have := hb.2; simp [Nat.blt] at this; omega
        subst h1
        obtain ⟨p, c, hp, hc, hle, rfl⟩ := conc_slc hx
        obtain ⟨k, rfl⟩ := nat_conc hi hy
        have hu' := pureRun_run hu w
        refine OK1.pure h (v := .pointer (some ⟨p.1, off * n + i * n, none⟩)) (by simp [AV.conc, hp]) ?_
        simp [Instr.indexAt, asIntOf, hu', pureRun_run hn w, h2, addr_add]
    · cases hr
  · rename_i id off
    split at hr
    · rename_i len e hu
      simp only [Option.bind_eq_some_iff] at hr
      obtain ⟨n, hn, i, hi, hr⟩ := hr
      cases hb : (Nat.blt i len) with
      | false => simp only [hb, cond_false] at hr; cases hr
      | true =>
        simp only [hb, cond_true, Option.some.injEq] at hr; subst hr
        have h2 : i < len := by simp [Nat.blt] at hb; omega
        simp only [AV.conc, Option.map_eq_some_iff] at hx
        obtain ⟨p, hp, rfl⟩ := hx
        obtain ⟨k, rfl⟩ := nat_conc hi hy
        have hu' := pureRun_run hu w
        refine OK1.pure h (v := .pointer (some ⟨p.1, off + i * n, none⟩)) (by simp [AV.conc, hp]) ?_
        simp [Instr.indexAt, Instr.sureAddr, asIntOf, hu', pureRun_run hn w, h2, addr_add]
    · cases hr
  · exact pure2_ok h hx hy hr

/-! an element of an array value, a byte of a string -/
def aIndex (P : Program) (t : TypeId) (a ix : AV) : Option AV :=
  match a with
  | .agg cs =>
    match pureRun P (underlying t) with
    | some (.array len e) => (pureRun P (sizeOf e)).bind fun n => (aNat ix).bind fun i => bif Nat.blt i len then aPart P e cs (i * n) else none
    | _ => none
  | a => aPure2 P (Instr.index t) a ix
theorem index_ok (h : WR B w0 σ H w) {t : TypeId} {a ix r : AV} {x y : Value} (hx : a.conc σ = some x) (hy : ix.conc σ = some y) (hr : aIndex P t a ix = some r) : OKp P σ w (Instr.index t x y) r := by
  unfold aIndex at hr
  split at hr
  · rename_i cs
    split at hr
    · rename_i len e hu
      simp only [Option.bind_eq_some_iff] at hr
      obtain ⟨n, hn, i, hi, hr⟩ := hr
      cases hb : (Nat.blt i len) with
      | false => simp only [hb, cond_false] at hr; cases hr
      | true =>
        simp only [hb, cond_true] at hr
        have h2 : i < len := by simp [Nat.blt] at hb; omega
        simp only [AV.conc, Option.map_eq_some_iff] at hx
        obtain ⟨l, hl, rfl⟩ := hx
        obtain ⟨k, rfl⟩ := nat_conc hi hy
        have hu' := pureRun_run hu w
        obtain ⟨v, hv, hrun⟩ := part_ok (P := P) h hl hr
        refine OK1.pure h hv ?_
        simp [Instr.index, asIntOf, hu', pureRun_run hn w, h2, hrun]
    · cases hr
  · exact pure2_ok h hx hy hr

/-! make of a slice -/
def aMakeSlice (P : Program) (t : TypeId) (len cap : AV) (H : AH) : Option (AV × AH) :=
  match pureRun P (underlying t) with
  | some (.slice e) => (pureRun P (typeInfo e)).bind fun inf => (pureRun P (sizeOf e)).bind fun n => (pureRun P (zeroValue e)).bind fun z => (aNat len).bind fun l => (aNat cap).bind fun c =>
      bif Nat.ble l c && Nat.ble c 1000000 && Nat.ble inf.bytes 10000 && !Nat.beq n 0 && !Nat.beq z.cells.size 0 then
        some (.slc H.length 0 n l (some c), H ++ [.cells ((zcells z.cells.toList (c * n)).map AV.v) e]) else none
  | _ => none
theorem makeSlice_ok (h : WR B w0 σ H w) {t : TypeId} {a b : AV} {x y : Value} (hx : a.conc σ = some x) (hy : b.conc σ = some y) {r : AV × AH} (hr : aMakeSlice P t a b H = some r) : OK1 P B w0 σ w (Instr.makeSlice t x y) r := by
  unfold aMakeSlice at hr
  split at hr
  · rename_i e hu
    simp only [Option.bind_eq_some_iff] at hr
    obtain ⟨inf, hinf, n, hn, z, hz, l, hl, c, hc, hr⟩ := hr
    cases hb : (Nat.ble l c && Nat.ble c 1000000 && Nat.ble inf.bytes 10000 && !Nat.beq n 0 && !Nat.beq z.cells.size 0) with
    | false => simp only [hb, cond_false] at hr; cases hr
    | true =>
      simp only [hb, cond_true, Option.some.injEq] at hr; subst hr
      simp only [Bool.and_eq_true, Bool.not_eq_true'] at hb
      obtain ⟨⟨⟨⟨h1, h2⟩, h3⟩, h4⟩, h5⟩ := hb
      have h1 := Nat.le_of_ble_eq_true h1
      have h2 := Nat.le_of_ble_eq_true h2
      have h3 := Nat.le_of_ble_eq_true h3
      have h4 := Nat.ne_of_beq_eq_false h4
      have h5 := Nat.ne_of_beq_eq_false h5
      obtain ⟨k, rfl⟩ := nat_conc hl hx
      obtain ⟨k', rfl⟩ := nat_conc hc hy
      have hzl : (zcells z.cells.toList (c * n)).length = c * n := by simp [zcells]
      have hwr := newRow_ok h e (concL_v σ (zcells z.cells.toList (c * n)))
      refine ⟨_, _, .slice (some ⟨w.heap.size, 0, none⟩) l c, List.prefix_append _ _, hwr, ?_, ?_⟩
      · simp [AV.conc, last_sg h, h1]
      · have hmul : inf.bytes * c ≤ 10000 * 1000000 := Nat.mul_le_mul h3 h2
        have hw1 : IntKind.i64.wrap (l : Int) = l := IntWalk.i64_in _ (by omega)
        have hw2 : IntKind.i64.wrap (c : Int) = c := IntWalk.i64_in _ (by omega)
        have hmi : ((inf.bytes : Int) * (c : Int)) = ((inf.bytes * c : Nat) : Int) := by simp
        have ht : (decide ((c : Int) < 0) || decide ((inf.bytes : Int) * (c : Int) > 2 ^ 48)) = false := by
          rw [hmi]; simp; omega
        simp only [Instr.makeSlice, Sem.run_bind, pureRun_run hu w, Result.andThen_ok, asInt, asIntOf, Sem.run_pure, pureRun_run hinf w, hw1, hw2]
        have hcond : ((decide ((c : Int) < 0) || decide ((inf.bytes : Int) * (c : Int) > 2 ^ 48)) || decide ((l : Int) < 0) || decide ((l : Int) > (c : Int))) = false := by
          rw [ht]; simp; omega
        simp only [ht, Bool.false_or]
        rw [if_neg (by simp; omega)]
        simp only [Sem.run_bind, run_askRoom, Result.andThen_ok, pureRun_run hn w, Int.toNat_natCast]
        by_cases h0 : c * n = 0
        · simp only [h0, if_true, Sem.run_bind, Sem.run_pure, Result.andThen_ok]
          have hr0 : Array.range 0 = #[] := by apply Array.ext'; simp
          simp [newRow, zcells, hr0]
        · simp only [h0, if_false, Sem.run_bind, pureRun_run hz w, Sem.run_pure, Result.andThen_ok]
          rw [zcells_eq z.cells _ (.inl h5)]
          simp [newRow]
  · cases hr
end
end Go.Proofs.YtfphabkdgdgnbaaGreatDoor.AE
