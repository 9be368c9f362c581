import Derived.Test.YtfphabkdgdgnbaaGreatDoorAE4
import Derived.Laws.BytesArg
set_option linter.unusedVariables false
set_option linter.unusedSimpArgs false
namespace Go.Proofs.YtfphabkdgdgnbaaGreatDoor.AE
open Go Go.RowKit

section
variable {P : Program} {B : Nat} {w0 : World} {σ : Sg} {H : AH} {w : World} {G : Gl}

/-! binary operators -/
def aBin (P : Program) (op : BinOp) (t : TypeId) (ox oy : Operand) (a b : AV) : Option AV :=
  match a.toV?, b.toV? with
  | some x, some y => (pureRun P (do eqGuard op t ox oy x y; binOp op t x y)).map AV.v
  | _, _ => bif aEqNil P t a b then (match op with | .eql => some (.v (.bool false)) | .neq => some (.v (.bool true)) | _ => none) else none
theorem bin_ok (h : WR B w0 σ H w) {op : BinOp} {t : TypeId} {ox oy : Operand} {a b r : AV} {x y : Value} (hx : a.conc σ = some x) (hy : b.conc σ = some y) (hr : aBin P op t ox oy a b = some r) :
    OKp P σ w (do eqGuard op t ox oy x y; binOp op t x y) r := by
  unfold aBin at hr
  split at hr
  · rename_i x' y' ha hb
    have e1 := toV_conc σ a ha hx
    have e2 := toV_conc σ b hb hy
    subst e1 e2
    simp only [Option.map_eq_some_iff] at hr
    obtain ⟨v, hv, rfl⟩ := hr
    exact OK1.pure h (v := v) (by simp [AV.conc]) (pureRun_run hv w)
  · cases hb : aEqNil P t a b with
    | false => simp [hb] at hr
    | true =>
      simp only [hb, cond_true] at hr
      obtain ⟨h1, h2, h3⟩ := eqNil_ok (P := P) (w := w) hx hy hb
      split at hr
      · simp only [Option.some.injEq] at hr; subst hr
        exact OK1.pure h (v := .bool false) (by simp [AV.conc]) (by simp only [Sem.run_bind, h1, Result.andThen_ok]; exact h2)
      · simp only [Option.some.injEq] at hr; subst hr
        exact OK1.pure h (v := .bool true) (by simp [AV.conc]) (by simp only [Sem.run_bind, h1, Result.andThen_ok]; exact h3)
      · cases hr

/-- Something that reads nothing but its address-free arguments. -/
def aPure1 (P : Program) (f : Value → Sem Value) (a : AV) : Option AV := a.toV?.bind fun x => (pureRun P (f x)).map AV.v
theorem pure1_ok (h : WR B w0 σ H w) {f : Value → Sem Value} {a r : AV} {x : Value} (hx : a.conc σ = some x) (hr : aPure1 P f a = some r) : OKp P σ w (f x) r := by
  simp only [aPure1, Option.bind_eq_some_iff, Option.map_eq_some_iff] at hr
  obtain ⟨x', hx', v, hv, rfl⟩ := hr
  have e := toV_conc σ a hx' hx
  subst e
  exact OK1.pure h (v := v) (by simp [AV.conc]) (pureRun_run hv w)
def aPure2 (P : Program) (f : Value → Value → Sem Value) (a b : AV) : Option AV := a.toV?.bind fun x => b.toV?.bind fun y => (pureRun P (f x y)).map AV.v
theorem pure2_ok (h : WR B w0 σ H w) {f : Value → Value → Sem Value} {a b r : AV} {x y : Value} (hx : a.conc σ = some x) (hy : b.conc σ = some y) (hr : aPure2 P f a b = some r) : OKp P σ w (f x y) r := by
  simp only [aPure2, Option.bind_eq_some_iff, Option.map_eq_some_iff] at hr
  obtain ⟨x', hx', y', hy', v, hv, rfl⟩ := hr
  have e := toV_conc σ a hx' hx
  have e2 := toV_conc σ b hy' hy
  subst e e2
  exact OK1.pure h (v := v) (by simp [AV.conc]) (pureRun_run hv w)

/-! convert: address-free, or bytes to a string -/
def aInts : List AV → Option (List Int)
  | [] => some []
  | .v (.int .u8 n) :: l => (aInts l).map fun r => n :: r
  | _ => none
theorem ints_conc {σ : Sg} : ∀ {cs : List AV} {l : List Value} {ns : List Int}, concL σ cs = some l → aInts cs = some ns → l = ns.map (Value.int .u8)
  | [], l, ns, hl, hb => by
    simp [concL] at hl; simp [aInts] at hb; subst hl hb; rfl
  | a :: cs, l, ns, hl, hb => by
    unfold aInts at hb
    split at hb
    · rename_i he; cases he
    · rename_i n l' he
      cases he
      simp only [Option.map_eq_some_iff] at hb
      obtain ⟨r, hr, rfl⟩ := hb
      simp only [concL, AV.conc, Option.bind_eq_some_iff, Option.map_eq_some_iff, Option.some.injEq] at hl
      obtain ⟨x, hx, y, hy, rfl⟩ := hl
      subst hx
      rw [ints_conc hy hr]; rfl
    · cases hb
theorem run_under {t : TypeId} {d : TypeDesc} (h : pureRun P (underlying t) = some d) : P.underlying t = some d := by
  simp only [underlying, program, bind, Sem.bind, pureRun] at h
  cases hu : P.underlying t with
  | none => rw [hu] at h; simp [stuck, pureRun] at h
  | some x => rw [hu] at h; simp only [pure, pureRun] at h; exact h
/-- '[]byte(s)'. -/
def aToBytes (P : Program) (src dst : TypeId) (a : AV) (H : AH) : Option (AV × AH) :=
  match a with
  | .v (.string s) =>
    match pureRun P (underlying src), pureRun P (underlying dst) with
    | some .string, some (.slice e) =>
      match pureRun P (underlying e) with
      | some (.int .u8) => some (.slc H.length 0 1 s.size none, H ++ [.ro (s.data.toList.map fun b => .v (.int .u8 b.toNat)) e])
      | _ => none
    | _, _ => none
  | _ => none
theorem toBytes_ok (h : WR B w0 σ H w) {src dst : TypeId} {a : AV} {r : AV × AH} {x : Value} (hx : a.conc σ = some x) (hr : aToBytes P src dst a H = some r) : OK1 P B w0 σ w (convert src dst x) r := by
  unfold aToBytes at hr
  split at hr
  · rename_i s
    simp only [AV.conc, Option.some.injEq] at hx; subst hx
    split at hr
    · rename_i e hs hd
      split at hr
      · rename_i he
        simp only [Option.some.injEq] at hr; subst hr
        have hd1 := h.drawn (w.drawn + 1)
        let c := (Question.appendCap s.size 0 e).cut (w.tape w.drawn (.appendCap s.size 0 e))
        have hc : s.size ≤ c := by show s.size ≤ s.size + _; omega
        let cells : Array Value := (s.data.map fun b : UInt8 => Value.int .u8 b.toNat) ++ Array.replicate (c - s.size) (Value.int .u8 0)
        have hcs : cells.size = c := by
          show ((s.data.map fun b : UInt8 => Value.int .u8 b.toNat) ++ Array.replicate (c - s.size) (Value.int .u8 0)).size = c
          have : s.data.size = s.size := rfl
          simp [this]; omega
        have hconv : (convert src dst (.string s)).run P w = (Conv.stringToBytes e s).run P w := by
          simp [convert, pureRun_run hs w, pureRun_run hd w, pureRun_run he w]
        have hrun : (Conv.stringToBytes e s).run P w = .ok (.slice (some ⟨w.heap.size, 0, none⟩) s.size c) ((World.alloc { w with drawn := w.drawn + 1 } (.cells cells e)).freeze ⟨w.heap.size, c, none⟩ 1) := by
          unfold Conv.stringToBytes
          simp only [Sem.run_bind, run_choose, Question.forced, Bool.false_eq_true, if_false, Result.andThen_ok, newRow, run_newObj, Sem.run_pure, markStringish, run_shape]
          have hsh : (World.alloc { w with drawn := w.drawn + 1 } (.cells cells e)).shape? w.heap.size = some (e, c) := by
            simp [World.shape?, World.alloc, hcs]
          show ((match (World.alloc { w with drawn := w.drawn + 1 } (.cells cells e)).shape? w.heap.size with | some (_, n) => freeze { block := w.heap.size, off := n } 1 | x => pure () : Sem Unit).run P (World.alloc { w with drawn := w.drawn + 1 } (.cells cells e))).andThen _ = _
          rw [hsh]
          rfl
        have hfr : (World.alloc { w with drawn := w.drawn + 1 } (.cells cells e)).freeze ⟨w.heap.size, c, none⟩ 1 = World.alloc { w with drawn := w.drawn + 1 } (.cells cells e (c, c + 1)) := by
          simp only [World.freeze, Nat.one_ne_zero, if_false, World.alloc]
          congr 1
          apply Array.ext_getElem?
          intro i
          rw [Array.getElem?_modify]
          by_cases hi : w.heap.size = i
          · subst hi; simp
          · rw [if_neg hi]
            simp only [Array.getElem?_push]
            have : ¬ i = w.heap.size := fun e => hi e.symm
            simp [this]
        rw [hfr] at hrun
        refine ⟨σ ++ [(w.heap.size, c)], _, .slice (some ⟨w.heap.size, 0, none⟩) s.size c, List.prefix_append _ _, hd1.alloc (n := c) (O := .cells cells e (c, c + 1)) fun σ' hp => ⟨h.size, cells, _, rfl, hcs, ?_⟩, ?_, by rw [hconv]; exact hrun⟩
        · have hl : concL σ' (s.data.toList.map fun b => AV.v (.int .u8 b.toNat)) = some (s.data.toList.map fun b : UInt8 => (Value.int .u8 b.toNat)) := by
            have : (s.data.toList.map fun b => AV.v (.int .u8 b.toNat)) = (s.data.toList.map fun b : UInt8 => (Value.int .u8 b.toNat)).map AV.v := by simp
            rw [this]; exact concL_v σ' _
          refine ⟨?_, fun j b hb => ?_⟩
          · rw [hcs]; simp only [List.length_map, Array.length_toList]; exact hc
          · obtain ⟨v, hv, hjv⟩ := concL_get hl hb
            refine ⟨v, hv, ?_⟩
            have hlt : j < (s.data.map fun b : UInt8 => Value.int .u8 b.toNat).size := by
              rcases Nat.lt_or_ge j (s.data.toList.map fun b : UInt8 => (Value.int .u8 b.toNat)).length with h' | h'
              · simpa using h'
              · rw [List.getElem?_eq_none h'] at hjv; cases hjv
            show ((s.data.map fun b : UInt8 => Value.int .u8 b.toNat) ++ Array.replicate (c - s.size) (Value.int .u8 0))[j]? = some v
            rw [Array.getElem?_append_left hlt, ← hjv, ← Array.getElem?_toList]
            simp
        · simp only [AV.conc, last_sg h, Option.bind_some, Option.getD_none, Nat.div_one, Nat.sub_zero, Nat.zero_mul]
          rw [if_pos hc]
      · cases hr
    · cases hr
  · cases hr
def aConvert (P : Program) (src dst : TypeId) (a : AV) (H : AH) : Option AV :=
  match a with
  | .slc id off size len cap =>
    match pureRun P (underlying src), pureRun P (underlying dst), getC H id with
    | some (.slice e), some .string, some cs =>
      match pureRun P (underlying e) with
      | some (.int .u8) => bif Nat.beq size 1 && Nat.ble (off + len) cs.length then (aInts ((cs.drop off).take len)).map fun ns => .v (.string ⟨(ns.map fun n => UInt8.ofNat n.toNat).toArray⟩) else none
      | _ => none
    | _, _, _ => none
  | a => aPure1 P (convert src dst) a
theorem convert_ok (h : WR B w0 σ H w) {src dst : TypeId} {a r : AV} {x : Value} (hx : a.conc σ = some x) (hr : aConvert P src dst a H = some r) : OKp P σ w (convert src dst x) r := by
  unfold aConvert at hr
  split at hr
  · rename_i id off size len cap
    split at hr
    · rename_i e cs hs hd ho
      split at hr
      · rename_i he
        cases hb : (Nat.beq size 1 && Nat.ble (off + len) cs.length) with
        | false => simp [hb] at hr
        | true =>
          simp only [hb, cond_true, Option.map_eq_some_iff] at hr
          obtain ⟨bs, hbs, rfl⟩ := hr
          simp only [Bool.and_eq_true] at hb
          have h1 := Nat.eq_of_beq_eq_true hb.1
          subst h1
          simp only [AV.conc, Option.bind_eq_some_iff] at hx
          obtain ⟨p, hp, hx⟩ := hx
          split at hx
          · simp only [Option.some.injEq] at hx; subst hx
            obtain ⟨l, hl, hrun⟩ := h.cellsAt P ho hp (Nat.le_of_ble_eq_true hb.2)
            have hli := ints_conc hl hbs
            rw [hli] at hrun
            refine OK1.pure h (v := .string ⟨(bs.map fun n => UInt8.ofNat n.toNat).toArray⟩) (by simp [AV.conc]) ?_
            rw [Nat.mul_one]
            rw [run_convert_bytes_string w src dst e _ len _ (run_under hs) (run_under he) (run_under hd), run_bytesToString w _ len _ bs hrun, foldl_push_bytes]
            simp [ByteArray.empty, ByteArray.emptyWithCapacity]
            rfl
          · cases hx
      · cases hr
    · cases hr
  · exact pure1_ok h hx hr

/-! interfaces, functions -/
def aIface (P : Program) (t : TypeId) (a : AV) : Option AV :=
  match pureRun P (underlying t) with
  | some (.interface _) => none
  | some _ => some (.ifc t a)
  | none => none
theorem iface_ok (h : WR B w0 σ H w) {t : TypeId} {a r : AV} {x : Value} (hx : a.conc σ = some x) (hr : aIface P t a = some r) : OKp P σ w (Instr.makeInterface t x) r := by
  unfold aIface at hr
  split at hr
  · cases hr
  · rename_i d hne hd
    simp only [Option.some.injEq] at hr; subst hr
    refine OK1.pure h (v := .iface t x) (by simp [AV.conc, hx]) ?_
    simp only [Instr.makeInterface, Sem.run_bind, pureRun_run hd w, Result.andThen_ok]
    cases d <;> first | rfl | exact absurd rfl (hne _)
  · cases hr

/-! fields -/
def aFieldAddr (P : Program) (s : TypeId) (a : AV) (field : Nat) : Option AV :=
  match a with
  | .ptr id off => match pureRun P (underlying s) with
    | some (.struct fields) => (fields[field]?).bind fun f => (pureRun P (sizeOf f.type)).bind fun n => bif Nat.beq n 0 then none else some (.ptr id (off + f.offset))
    | _ => none
  | a => aPure1 P (fun x => Instr.fieldAt s x field) a
theorem fieldAddr_ok (h : WR B w0 σ H w) {s : TypeId} {field : Nat} {a r : AV} {x : Value} (hx : a.conc σ = some x) (hr : aFieldAddr P s a field = some r) : OKp P σ w (Instr.fieldAt s x field) r := by
  unfold aFieldAddr at hr
  split at hr
  · rename_i id off
    split at hr
    · rename_i fields hf
      simp only [Option.bind_eq_some_iff] at hr
      obtain ⟨f, hfi, n, hn, hr⟩ := hr
      cases hb : Nat.beq n 0 with
      | true => simp [hb] at hr
      | false =>
        simp only [hb, cond_false, Option.some.injEq] at hr; subst hr
        have hn0 : n ≠ 0 := Nat.ne_of_beq_eq_false hb
        simp only [AV.conc, Option.map_eq_some_iff] at hx
        obtain ⟨p, hp, rfl⟩ := hx
        refine OK1.pure h (v := .pointer (some ⟨p.1, off + f.offset, none⟩)) (by simp [AV.conc, hp]) ?_
        simp only [Instr.fieldAt, Sem.run_bind, pureRun_run hf w, Result.andThen_ok, hfi]
        simp [Instr.sureAddr, fieldPlace, pureRun_run hn w, hn0, addr_add]
    · cases hr
  · exact pure1_ok h hx hr

def aPart (P : Program) (t : TypeId) (cs : List AV) (off : Nat) : Option AV :=
  (pureRun P (isAgg t)).bind fun ag => match ag with
    | true => (pureRun P (sizeOf t)).map fun n => .agg ((cs.drop off).take n)
    | false => cs[off]?
theorem part_ok (h : WR B w0 σ H w) {t : TypeId} {cs : List AV} {l : List Value} {off : Nat} {r : AV} (hl : concL σ cs = some l) (hr : aPart P t cs off = some r) :
    ∃ v, r.conc σ = some v ∧ (part t l.toArray off).run P w = .ok v w := by
  simp only [aPart, Option.bind_eq_some_iff] at hr
  obtain ⟨ag, hag, hr⟩ := hr
  split at hr
  · simp only [Option.map_eq_some_iff] at hr
    obtain ⟨n, hn, rfl⟩ := hr
    refine ⟨.agg ((l.drop off).take n).toArray, by simp [AV.conc, concL_take (concL_drop hl off) n], ?_⟩
    simp only [part, Sem.run_bind, pureRun_run hag w, Result.andThen_ok, if_true, pureRun_run hn w, Sem.run_pure]
    congr 2
    rw [List.extract_toArray, List.extract_eq_drop_take']
    rw [List.drop_take, Nat.add_sub_cancel_left]
  · obtain ⟨v, hv, hc⟩ := concL_get hl hr
    exact ⟨v, hv, by simp [part, pureRun_run hag w, hc]⟩
def aField (P : Program) (t : TypeId) (a : AV) (field : Nat) : Option AV :=
  match a with
  | .agg cs => match pureRun P (underlying t) with
    | some (.struct fields) => (fields[field]?).bind fun f => aPart P f.type cs f.offset
    | _ => none
  | a => aPure1 P (fun x => Instr.field t x field) a
theorem field_ok (h : WR B w0 σ H w) {t : TypeId} {field : Nat} {a r : AV} {x : Value} (hx : a.conc σ = some x) (hr : aField P t a field = some r) : OKp P σ w (Instr.field t x field) r := by
  unfold aField at hr
  split at hr
  · rename_i cs
    split at hr
    · rename_i fields hf
      simp only [Option.bind_eq_some_iff] at hr
      obtain ⟨f, hfi, hr⟩ := hr
      simp only [AV.conc, Option.map_eq_some_iff] at hx
      obtain ⟨l, hl, rfl⟩ := hx
      obtain ⟨v, hv, hrun⟩ := part_ok (P := P) h hl hr
      refine OK1.pure h hv ?_
      simp only [Instr.field, Sem.run_bind, pureRun_run hf w, Result.andThen_ok, hfi]
      simp [asAgg, hrun]
    · cases hr
  · exact pure1_ok h hx hr
end
end Go.Proofs.YtfphabkdgdgnbaaGreatDoor.AE
