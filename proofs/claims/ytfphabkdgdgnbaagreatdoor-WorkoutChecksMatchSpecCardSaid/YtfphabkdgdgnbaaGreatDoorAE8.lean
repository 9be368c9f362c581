import Derived.Test.YtfphabkdgdgnbaaGreatDoorAE7
set_option linter.unusedVariables false
set_option linter.unusedSimpArgs false
namespace Go.Proofs.YtfphabkdgdgnbaaGreatDoor.AE
open Go Go.RowKit

theorem growBy_le (need : Nat) : ∀ (r c : Nat), Builtin.growBy need r c ≤ max c (need + (need + 768) / 4)
  | 0, c => by simp [Builtin.growBy]; omega
  | r + 1, c => by
    simp only [Builtin.growBy]
    split
    · omega
    · have := growBy_le need r (c + (c + 768) / 4)
      omega
theorem nextcap_le {need c : Nat} (h : c < need) : Builtin.nextslicecap need c ≤ 2 * need + 1000 := by
  unfold Builtin.nextslicecap
  split
  · omega
  · split
    · omega
    · have := growBy_le need 4 c; omega

section
variable {P : Program} {B : Nat} {w0 : World} {σ : Sg} {H : AH} {w : World} {G : Gl}

/-- A block gets another number. -/
theorem WR.move (h : WR B w0 σ H w) {id : Nat} {o : AObj} {p : Nat × Nat} (ho : H[id]? = some o) (hl : o.live = true) (hp : σ[id]? = some p) : WR B w0 (σ ++ [p]) (H.set id .dead ++ [o]) w := by
  have hk := h.kill id
  have hlen : (H.set id .dead).length = H.length := by simp
  have hid : id < H.length := by
    rcases Nat.lt_or_ge id H.length with h' | h'
    · exact h'
    · simp [List.getElem?_eq_none h'] at ho
  have old : ∀ {i : Nat} {o' : AObj}, i < H.length → (H.set id .dead ++ [o])[i]? = some o' → (H.set id .dead)[i]? = some o' := fun hi ho => by rwa [List.getElem?_append_left (by simp; exact hi)] at ho
  have olds : ∀ {i : Nat} {q}, i < H.length → (σ ++ [p])[i]? = some q → σ[i]? = some q := fun hi ho => by rwa [List.getElem?_append_left (by rw [h.len]; exact hi)] at ho
  have last : ∀ {i : Nat} {o' : AObj}, ¬ i < H.length → (H.set id .dead ++ [o])[i]? = some o' → i = H.length ∧ o' = o := fun {i} {o'} hi ho => by
    have hl : i < (H.set id .dead ++ [o]).length := by
      rcases Nat.lt_or_ge i (H.set id .dead ++ [o]).length with h' | h'
      · exact h'
      · simp [List.getElem?_eq_none h'] at ho
    have : i = H.length := by simp at hl; omega
    subst this
    rw [List.getElem?_append_right (by simp)] at ho
    simp at ho; exact ⟨rfl, ho.symm⟩
  have lasts : ∀ {q}, (σ ++ [p])[H.length]? = some q → q = p := fun hq => by
    rw [← h.len] at hq; simp at hq; exact hq.symm
  have back : ∀ {j : Nat} {x : AObj}, (H.set id .dead)[j]? = some x → x.live = true → j ≠ id ∧ H[j]? = some x := fun {j} {x} hx lx => by
    by_cases hj : j = id
    · subst hj; rw [List.getElem?_set] at hx; simp [hid] at hx; subst hx; simp [AObj.live] at lx
    · rw [List.getElem?_set_ne (by omega)] at hx; exact ⟨hj, hx⟩
  refine ⟨h.below, h.size, by simp [h.len], ?_, ?_⟩
  · intro i o' q ho' hq
    by_cases hi : i < H.length
    · exact (hk.obj i o' q (old hi ho') (olds hi hq)).mono (List.prefix_append _ _)
    · obtain ⟨rfl, rfl⟩ := last hi ho'
      have := lasts hq; subst this
      exact (h.obj id o' q ho hp).mono (List.prefix_append _ _)
  · intro i j o1 o2 q r h1 h2 hq hr l1 l2 e
    by_cases hi : i < H.length <;> by_cases hj : j < H.length
    · exact hk.inj i j o1 o2 q r (old hi h1) (old hj h2) (olds hi hq) (olds hj hr) l1 l2 e
    · obtain ⟨rfl, rfl⟩ := last hj h2
      have := lasts hr; subst this
      obtain ⟨hne, hx⟩ := back (old hi h1) l1
      exact absurd (h.inj i id o1 o2 q r hx ho (olds hi hq) hp l1 l2 e) hne
    · obtain ⟨rfl, rfl⟩ := last hi h1
      have := lasts hq; subst this
      obtain ⟨hne, hx⟩ := back (old hj h2) l2
      exact absurd (h.inj j id o2 o1 r q hx ho (olds hj hr) hp l2 l1 e.symm) hne
    · rw [(last hi h1).1, (last hj h2).1]

/-- What an append needs to know of its types. -/
structure ApT (P : Program) (types : Array TypeId) (e : TypeId) (size : Nat) : Prop where
  ex : ∃ sT xT inf z d, types[0]? = some sT ∧ types[1]? = some xT ∧ pureRun P (underlying sT) = some (.slice e) ∧ pureRun P (underlying xT) = some d ∧ (∀ k, d ≠ .int k) ∧
    pureRun P (typeInfo e) = some inf ∧ pureRun P (zeroValue e) = some z ∧ inf.bytes ≤ 10000 ∧ inf.bytes ≠ 0 ∧ z.cells.size = size
  hsz : pureRun P (sizeOf e) = some size
  pos : size ≠ 0

theorem zeroCells_size (z : Array Value) (n : Nat) : (Builtin.zeroCells z n).size = n * z.size := by simp [Builtin.zeroCells]

theorem append_run {types : Array TypeId} {e size : Nat} (hT : ApT P types e size) (t : TypeId) {base : Option Addr} {len cap n : Nat} {x : Value} {old new : Array Value}
    (hlen : (Builtin.lenOf x).run P w = .ok n w) (hcap : cap < len + n) (hneed : len + n ≤ 1000000)
    (hold : (Builtin.firstCells size len (.slice base len cap)).run P { w with drawn := w.drawn + 1 } = .ok old { w with drawn := w.drawn + 1 })
    (hnew : (Builtin.firstCells size n x).run P { w with drawn := w.drawn + 1 } = .ok new { w with drawn := w.drawn + 1 })
    (ho : old.size = len * size) (hn : new.size = n * size) :
    ∃ (c : Nat) (cells : Array Value), len + n ≤ c ∧ cells.size = c * size ∧ (∀ (j : Nat) (v : Value), (old ++ new)[j]? = some v → cells[j]? = some v) ∧
      (Builtin.append_ types t #[.slice base len cap, x]).run P w = .ok (.slice (some ⟨w.heap.size, 0, none⟩) (len + n) c) (World.alloc { w with drawn := w.drawn + 1 } (.cells cells e)) := by
  obtain ⟨⟨sT, xT, inf, z, d, h1, h2, h3, h4, h5, h6, h7, h8, h9, h10⟩, hsz, hpos⟩ := hT
  have hb : ¬ (Builtin.nextslicecap (len + n) cap * inf.bytes > 2 ^ 48) := by
    have a1 := nextcap_le hcap
    have a2 : Builtin.nextslicecap (len + n) cap * inf.bytes ≤ (2 * (len + n) + 1000) * 10000 := Nat.mul_le_mul a1 h8
    omega
  have hz : ∀ w : World, (do match ← underlying xT with | .int _ => pure true | _ => pure false : Sem Bool).run P w = .ok false w := by
    intro w
    simp only [Sem.run_bind, pureRun_run h4 w, Result.andThen_ok]
    cases d <;> first | rfl | exact absurd rfl (h5 _)
  refine ⟨(Question.appendCap (len + n) cap e).cut (w.tape w.drawn (.appendCap (len + n) cap e)), old ++ new ++ Builtin.zeroCells z.cells ((Question.appendCap (len + n) cap e).cut (w.tape w.drawn (.appendCap (len + n) cap e)) - (len + n)), ?_, ?_, ?_, ?_⟩
  · simp [Question.cut]
  · simp only [Array.size_append, zeroCells_size, ho, hn, h10]
    have : len + n ≤ (Question.appendCap (len + n) cap e).cut (w.tape w.drawn (.appendCap (len + n) cap e)) := by simp [Question.cut]
    generalize (Question.appendCap (len + n) cap e).cut (w.tape w.drawn (.appendCap (len + n) cap e)) = c at this
    rw [← Nat.add_mul, ← Nat.add_mul]; congr 1; omega
  · intro j v hj
    have hlt : j < (old ++ new).size := by
      rcases Nat.lt_or_ge j (old ++ new).size with h | h
      · exact h
      · rw [Array.getElem?_eq_none h] at hj; cases hj
    rw [Array.getElem?_append_left hlt]; exact hj
  · have hi : ¬ ((len : Int) + (n : Int) > IntKind.i64.max ∧ (false = true ∨ inf.bytes = 0)) := by simp [h9]
    have hint : ∀ w : World, (match d with | .int _ => (Pure.pure true : Sem Bool) | _ => Pure.pure false).run P w = .ok false w := by
      intro w; cases d <;> first | rfl | exact absurd rfl (h5 _)
    have hd : (match d with | .int _ => true | _ => false) = false := by cases d <;> first | rfl | exact absurd rfl (h5 _)
    unfold Builtin.append_
    simp only [h1, h2, List.getElem?_toArray, List.getElem?_cons_zero, List.getElem?_cons_succ, Sem.run_bind, pureRun_run h3 w, Result.andThen_ok, pureRun_run hsz, pureRun_run h4 w, Sem.run_pure, hd]
    simp only [Bool.false_eq_true, if_false, Sem.run_bind, hlen, Result.andThen_ok]
    rw [if_neg (show ¬ (len + n ≤ cap) by omega)]
    simp only [Sem.run_bind, pureRun_run h6, Result.andThen_ok, false_or, h9, and_false, if_false]
    rw [if_neg hb]
    simp only [Sem.run_bind, run_choose, Question.forced, Bool.false_eq_true, if_false, Result.andThen_ok, pureRun_run h6, run_askRoom, hold, Bool.not_false, if_true, hnew, pureRun_run h7]
    simp [newRow]

theorem append_room {types : Array TypeId} {e size : Nat} (hT : ApT P types e size) (t : TypeId) {a : Addr} {len cap n : Nat} {x : Value} {new : Array Value} {w' : World}
    (hlen : (Builtin.lenOf x).run P w = .ok n w) (hcap : len + n ≤ cap) (hnew : (Builtin.firstCells size n x).run P w = .ok new w)
    (hst : (storeCells (a.add (len * size)) new.toList).run P w = .ok () w') :
    (Builtin.append_ types t #[.slice (some a) len cap, x]).run P w = .ok (.slice (some a) (len + n) cap) w' := by
  obtain ⟨⟨sT, xT, inf, z, d, h1, h2, h3, h4, h5, h6, h7, h8, h9, h10⟩, hsz, hpos⟩ := hT
  have hd : (match d with | .int _ => true | _ => false) = false := by cases d <;> first | rfl | exact absurd rfl (h5 _)
  unfold Builtin.append_
  simp only [h1, h2, List.getElem?_toArray, List.getElem?_cons_zero, List.getElem?_cons_succ, Sem.run_bind, pureRun_run h3 w, Result.andThen_ok, pureRun_run hsz, pureRun_run h4 w, Sem.run_pure, hd]
  simp only [Bool.false_eq_true, if_false, Sem.run_bind, hlen, Result.andThen_ok]
  rw [if_pos hcap]
  simp only [Bool.not_false, if_true, Sem.run_bind, hnew, Result.andThen_ok, hst, Sem.run_pure]
theorem append_none {types : Array TypeId} {e size : Nat} (hT : ApT P types e size) (t : TypeId) {x : Value} {new : Array Value}
    (hlen : (Builtin.lenOf x).run P w = .ok 0 w) (hnew : (Builtin.firstCells size 0 x).run P w = .ok new w) :
    (Builtin.append_ types t #[.slice none 0 0, x]).run P w = .ok (.slice none 0 0) w := by
  obtain ⟨⟨sT, xT, inf, z, d, h1, h2, h3, h4, h5, h6, h7, h8, h9, h10⟩, hsz, hpos⟩ := hT
  have hd : (match d with | .int _ => true | _ => false) = false := by cases d <;> first | rfl | exact absurd rfl (h5 _)
  unfold Builtin.append_
  simp only [h1, h2, List.getElem?_toArray, List.getElem?_cons_zero, List.getElem?_cons_succ, Sem.run_bind, pureRun_run h3 w, Result.andThen_ok, pureRun_run hsz, pureRun_run h4 w, Sem.run_pure, hd]
  simp only [Bool.false_eq_true, if_false, Sem.run_bind, hlen, Result.andThen_ok]
  rw [if_pos (by omega)]
  simp only [Bool.not_false, if_true, Sem.run_bind, hnew, Result.andThen_ok, Sem.run_pure]

def aApT (P : Program) (types : Array TypeId) : Option (TypeId × Nat) :=
  match types[0]?, types[1]? with
  | some sT, some xT =>
    match pureRun P (underlying sT), pureRun P (underlying xT) with
    | _, some (.int _) => none
    | some (.slice e), some _ => (pureRun P (typeInfo e)).bind fun inf => (pureRun P (zeroValue e)).bind fun z => (pureRun P (sizeOf e)).bind fun size =>
        bif Nat.ble inf.bytes 10000 && !Nat.beq inf.bytes 0 && Nat.beq z.cells.size size && !Nat.beq size 0 then some (e, size) else none
    | _, _ => none
  | _, _ => none
theorem apT_ok {types : Array TypeId} {e size : Nat} (h : aApT P types = some (e, size)) : ApT P types e size := by
  unfold aApT at h
  split at h
  · rename_i sT xT h1 h2
    split at h
    · cases h
    · rename_i e' d hne h3 h4
      simp only [Option.bind_eq_some_iff] at h
      obtain ⟨inf, h5, z, h6, sz, h7, h⟩ := h
      cases hb : (Nat.ble inf.bytes 10000 && !Nat.beq inf.bytes 0 && Nat.beq z.cells.size sz && !Nat.beq sz 0) with
      | false => simp only [hb, cond_false] at h; cases h
      | true =>
        simp only [hb, cond_true, Option.some.injEq, Prod.mk.injEq] at h
        obtain ⟨rfl, rfl⟩ := h
        simp only [Bool.and_eq_true, Bool.not_eq_true'] at hb
        refine ⟨⟨sT, xT, inf, z, d, h1, h2, h3, h4, fun k e => ?_, h5, h6, Nat.le_of_ble_eq_true hb.1.1.1, Nat.ne_of_beq_eq_false hb.1.1.2, Nat.eq_of_beq_eq_true hb.1.2⟩, h7, Nat.ne_of_beq_eq_false hb.2⟩
        subst e; exact hne k rfl
    · cases h
  · cases h

/-- What is appended. -/
def aSrc (size : Nat) (x : AV) (H : AH) : Option (Nat × List AV) :=
  match x with
  | .slc id off sz n _ => match getC H id with
    | some cs => bif Nat.beq sz size && Nat.ble (off * sz + n * sz) cs.length then some (n, (cs.drop (off * sz)).take (n * sz)) else none
    | none => none
  | .v (.slice none 0 0) => some (0, [])
  | .v (.string s) => bif Nat.beq size 1 then some (s.size, s.data.toList.map fun b => .v (.int .u8 b.toNat)) else none
  | _ => none
theorem src_ok (h : WR B w0 σ H w) {size : Nat} {x : AV} {y : Value} (hx : x.conc σ = some y) {n : Nat} {cs : List AV} (hs : aSrc size x H = some (n, cs)) :
    ∃ l : List Value, concL σ cs = some l ∧ cs.length = n * size ∧ (Builtin.lenOf y).run P w = .ok n w ∧ (Builtin.firstCells size n y).run P w = .ok l.toArray w := by
  unfold aSrc at hs
  split at hs
  · rename_i id off sz m cap
    obtain ⟨p, c, hp, hc, hle, rfl⟩ := conc_slc hx
    split at hs
    · rename_i ds ho
      cases hb : (Nat.beq sz size && Nat.ble (off * sz + m * sz) ds.length) with
      | false => simp only [hb, cond_false] at hs; cases hs
      | true =>
        simp only [hb, cond_true, Option.some.injEq, Prod.mk.injEq] at hs
        obtain ⟨rfl, rfl⟩ := hs
        simp only [Bool.and_eq_true] at hb
        have h1 := Nat.eq_of_beq_eq_true hb.1
        subst h1
        have h2 := Nat.le_of_ble_eq_true hb.2
        obtain ⟨l, hl, hrun⟩ := h.cellsAt P ho hp h2
        exact ⟨l, hl, by simp; omega, rfl, by simpa [Builtin.firstCells] using hrun⟩
    · cases hs
  · simp only [AV.conc, Option.some.injEq] at hx; subst hx
    simp only [Option.some.injEq, Prod.mk.injEq] at hs
    obtain ⟨rfl, rfl⟩ := hs
    exact ⟨[], rfl, by simp, rfl, rfl⟩
  · rename_i s
    simp only [AV.conc, Option.some.injEq] at hx; subst hx
    cases hb : Nat.beq size 1 with
    | false => simp only [hb, cond_false] at hs; cases hs
    | true =>
      simp only [hb, cond_true, Option.some.injEq, Prod.mk.injEq] at hs
      obtain ⟨rfl, rfl⟩ := hs
      have h1 := Nat.eq_of_beq_eq_true hb
      subst h1
      refine ⟨s.data.toList.map fun b => .int .u8 b.toNat, ?_, by simp only [List.length_map, Array.length_toList, Nat.mul_one]; rfl, rfl, ?_⟩
      · have : (s.data.toList.map fun b => AV.v (.int .u8 b.toNat)) = (s.data.toList.map fun b : UInt8 => (Value.int .u8 b.toNat)).map AV.v := by simp
        rw [this]; exact concL_v σ _
      · simp [Builtin.firstCells]
        apply Array.ext'
        simp
  · cases hs

def aAppend (P : Program) (types : Array TypeId) (a x : AV) (H : AH) : Option (AV × AH) :=
  (aApT P types).bind fun es => (aSrc es.2 x H).bind fun nc =>
    match a with
    | .v (.slice none 0 0) => bif Nat.beq nc.1 0 then some (a, H) else bif Nat.ble nc.1 1000000 then some (.slc H.length 0 es.2 nc.1 none, H ++ [.cells nc.2 es.1]) else none
    | .slc id off sz len cap => match H[id]? with
      | some (.cells cs e) =>
        bif Nat.beq sz es.2 && Nat.ble (off * sz + len * sz) cs.length && Nat.ble (len + nc.1) 1000000 && nc.2.all AV.one then
          match cap with
          | some c =>
            bif Nat.ble (len + nc.1) c then
              bif Nat.ble (off * sz + len * sz + nc.2.length) cs.length then some (.slc id off sz (len + nc.1) (some c), H.set id (.cells (cs.take (off * sz + len * sz) ++ nc.2 ++ cs.drop (off * sz + len * sz + nc.2.length)) e)) else none
            else some (.slc H.length 0 sz (len + nc.1) none, H ++ [.cells ((cs.drop (off * sz)).take (len * sz) ++ nc.2) es.1])
          | none =>
            bif Nat.beq off 0 && Nat.beq e es.1 then some (.slc H.length 0 sz (len + nc.1) none, H.set id .dead ++ [.cells (cs.take (len * sz) ++ nc.2) es.1]) else none
        else none
      | _ => none
    | _ => none
theorem concL_size {σ : Sg} {cs : List AV} {l : List Value} (h : concL σ cs = some l) : l.toArray.size = cs.length := by simp [concL_length h]

theorem append_ok (h : WR B w0 σ H w) {types : Array TypeId} {a x : AV} {y z : Value} (t : TypeId) (hx : a.conc σ = some y) (hz : x.conc σ = some z) {r : AV × AH} (hr : aAppend P types a x H = some r) :
    OK1 P B w0 σ w (Builtin.append_ types t #[y, z]) r := by
  simp only [aAppend, Option.bind_eq_some_iff] at hr
  obtain ⟨⟨e, size⟩, hT, ⟨n, nc⟩, hsrc, hr⟩ := hr
  have hT := apT_ok hT
  simp only at hsrc hr
  have hd1 := h.drawn (w.drawn + 1)
  obtain ⟨l, hl, hncl, hlen, hfirst⟩ := src_ok (P := P) h hz hsrc
  obtain ⟨l', hl', _, _, hfirst1⟩ := src_ok (P := P) hd1 hz hsrc
  rw [hl] at hl'; cases hl'
  have hll := concL_length hl
  -- a new row out of old cells and new ones
  have fresh : ∀ {base : Option Addr} {len cap : Nat} {ocs : List AV} {ol : List Value} {H1 : AH} , WR B w0 σ H1 { w with drawn := w.drawn + 1 } → H1.length = H.length → cap < len + n → len + n ≤ 1000000 →
      concL σ ocs = some ol → ocs.length = len * size →
      (Builtin.firstCells size len (.slice base len cap)).run P { w with drawn := w.drawn + 1 } = .ok ol.toArray { w with drawn := w.drawn + 1 } →
      ∃ σ' w' v, σ <+: σ' ∧ WR B w0 σ' (H1 ++ [.cells (ocs ++ nc) e]) w' ∧ (AV.slc H.length 0 size (len + n) none).conc σ' = some v ∧ (Builtin.append_ types t #[.slice base len cap, z]).run P w = .ok v w' := by
    intro base len cap ocs ol H1 hW hHl hcap hneed hol hocl hold
    obtain ⟨c, cells, hc1, hc2, hc3, hc4⟩ := append_run hT t (base := base) (cap := cap) hlen hcap hneed hold hfirst1 (by simp [concL_length hol, hocl]) (by simp [hll, hncl])
    have hpos : 0 < size := Nat.pos_of_ne_zero hT.pos
    refine ⟨σ ++ [(w.heap.size, c * size)], _, _, List.prefix_append _ _, hW.alloc (n := c * size) (O := .cells cells e) fun σ' hp => ⟨h.size, cells, rfl, hc2, ?_⟩, ?_, hc4⟩
    · have hcat := concL_append hol hl
      refine ⟨?_, fun j b hb => ?_⟩
      · rw [hc2]; simp only [List.length_append, hocl, hncl, ← Nat.add_mul]; exact Nat.mul_le_mul_right _ hc1
      · obtain ⟨v, hv, hjv⟩ := concL_get hcat hb
        exact ⟨v, conc_mono hp b hv, hc3 j v (by simpa using hjv)⟩
    · simp only [AV.conc]
      rw [← hHl]
      rw [last_sg hW]
      simp only [Option.bind_some, Option.getD_none, Nat.zero_mul, Nat.sub_zero]
      rw [Nat.mul_div_cancel _ hpos, if_pos hc1]
  split at hr
  · simp only [AV.conc, Option.some.injEq] at hx; subst hx
    cases hb : Nat.beq n 0 with
    | true =>
      simp only [hb, cond_true, Option.some.injEq] at hr; subst hr
      have := Nat.eq_of_beq_eq_true hb
      subst this
      exact OK1.of h ⟨.slice none 0 0, by simp [AV.conc], append_none hT t hlen hfirst⟩
    | false =>
      simp only [hb, cond_false] at hr
      have hn0 := Nat.ne_of_beq_eq_false hb
      cases hb2 : Nat.ble n 1000000 with
      | false => simp only [hb2, cond_false] at hr; cases hr
      | true =>
        simp only [hb2, cond_true, Option.some.injEq] at hr; subst hr
        have := fresh (base := none) (len := 0) (cap := 0) (ocs := []) (ol := []) hd1 rfl (by omega) (by have := Nat.le_of_ble_eq_true hb2; omega) rfl (by simp) rfl
        obtain ⟨σ', w', v, a1, a2, a3, a4⟩ := this
        exact ⟨σ', w', v, a1, by simpa using a2, by simpa using a3, a4⟩
  · rename_i id off sz len cap
    split at hr
    · rename_i cs e' ho
      cases hb : (Nat.beq sz size && Nat.ble (off * sz + len * sz) cs.length && Nat.ble (len + n) 1000000 && nc.all AV.one) with
      | false => simp only [hb, cond_false] at hr; cases hr
      | true =>
        simp only [hb, cond_true] at hr
        simp only [Bool.and_eq_true] at hb
        obtain ⟨⟨⟨h1, h2⟩, h3⟩, h4⟩ := hb
        have h1 := Nat.eq_of_beq_eq_true h1
        have h2 := Nat.le_of_ble_eq_true h2
        have h3 := Nat.le_of_ble_eq_true h3
        subst h1
        obtain ⟨p, c, hp, hc, hle, rfl⟩ := conc_slc hx
        obtain ⟨ol, hol, hrun⟩ := hd1.cellsAt P (getC_of ho) hp h2
        have hadd : (⟨p.1, off * sz, none⟩ : Addr).add (len * sz) = ⟨p.1, off * sz + len * sz, none⟩ := addr_add ..
        split at hr
        · rename_i c'
          simp at hc; subst hc
          cases hb5 : Nat.ble (len + n) c with
          | true =>
            simp only [hb5, cond_true] at hr
            cases hb6 : Nat.ble (off * sz + len * sz + nc.length) cs.length with
            | false => simp only [hb6, cond_false] at hr; cases hr
            | true =>
              simp only [hb6, cond_true, Option.some.injEq] at hr; subst hr
              obtain ⟨w', hst, hw'⟩ := h.storeAt P ho hp (Nat.le_of_ble_eq_true hb6) hl h4
              refine ⟨σ, w', .slice (some ⟨p.1, off * sz, none⟩) (len + n) c, List.prefix_rfl, hw', ?_, append_room hT t hlen (Nat.le_of_ble_eq_true hb5) hfirst (by rw [hadd]; exact hst)⟩
              simp [AV.conc, hp, Nat.le_of_ble_eq_true hb5]
          | false =>
            simp only [hb5, cond_false, Option.some.injEq] at hr; subst hr
            have hlt : c < len + n := by
              rcases Nat.lt_or_ge c (len + n) with h' | h'
              · exact h'
              · rw [Nat.ble_eq_true_of_le h'] at hb5; cases hb5
            exact fresh hd1 rfl hlt h3 hol (by simp; omega) (by simpa [Builtin.firstCells] using hrun)
        · cases hb5 : (Nat.beq off 0 && Nat.beq e' e) with
          | false => simp only [hb5, cond_false] at hr; cases hr
          | true =>
            simp only [hb5, cond_true, Option.some.injEq] at hr; subst hr
            simp only [Bool.and_eq_true] at hb5
            have h6 := Nat.eq_of_beq_eq_true hb5.1
            have h7 := Nat.eq_of_beq_eq_true hb5.2
            subst h6 h7
            simp only [Nat.zero_mul, Nat.zero_add, List.drop_zero] at *
            by_cases hroom : len + n ≤ c
            · -- there is room: the same block, a new name for it
              obtain ⟨hB, cc, hcc, hsz, hcle, hcR⟩ := h.obj id _ p ho hp
              have hsp : c * sz ≤ p.2 := by rw [hc]; simp; exact Nat.div_mul_le_self _ _
              have hlm : len * sz + nc.length ≤ cc.size := by rw [hncl, hsz, ← Nat.add_mul]; exact Nat.le_trans (Nat.mul_le_mul_right _ hroom) hsp
              have hone : ∀ v ∈ l, v.oneCell' = true := fun v hv => by
                obtain ⟨i, hi⟩ := List.mem_iff_getElem?.1 hv
                have hilt : i < nc.length := by
                  rcases Nat.lt_or_ge i l.length with h' | h'
                  · omega
                  · simp [List.getElem?_eq_none h'] at hi
                obtain ⟨v', hv', e'⟩ := concL_get hl (List.getElem?_eq_getElem hilt)
                rw [hi] at e'; cases e'
                exact one_conc (List.all_eq_true.1 h4 _ (List.getElem_mem hilt)) hv'
              have hst := run_storeCells_at (P := P) p.1 (len * sz) e' l 0 cc w hcc (by omega) hone
              generalize hN : (cc.toList.take (len * sz + 0) ++ l ++ cc.toList.drop (len * sz + 0 + l.length)).toArray = N at hst
              have hrow : (w.setRow p.1 N).heap[p.1]? = some (.cells N e' (0, 0)) := setRow_heap w p.1 cc N e' (0, 0) hcc
              have hNs : N.size = cc.size := by rw [← hN]; simp; omega
              have hnewR : CellsR σ (cs.take (len * sz) ++ nc) N := by
                refine ⟨by rw [hNs]; simp; omega, fun j b hb => ?_⟩
                rw [← hN, List.getElem?_toArray]
                simp only [Nat.add_zero]
                by_cases hj1 : j < len * sz
                · rw [List.getElem?_append_left (by simp; omega), List.getElem?_take, if_pos hj1] at hb
                  obtain ⟨v, hv, hcv⟩ := hcR j b hb
                  refine ⟨v, hv, ?_⟩
                  rw [List.append_assoc, List.getElem?_append_left (by simp; omega), List.getElem?_take, if_pos hj1, Array.getElem?_toList]; exact hcv
                · rw [List.getElem?_append_right (by simp; omega)] at hb
                  have hlen' : (cs.take (len * sz)).length = len * sz := by simp; omega
                  rw [hlen'] at hb
                  obtain ⟨v, hv, hcv⟩ := concL_get hl hb
                  refine ⟨v, hv, ?_⟩
                  have hjl : j - len * sz < l.length := by
                    rcases Nat.lt_or_ge (j - len * sz) l.length with h' | h'
                    · exact h'
                    · rw [List.getElem?_eq_none h'] at hcv; cases hcv
                  rw [List.append_assoc, List.getElem?_append_right (by simp; omega), List.getElem?_append_left (by simp; omega)]
                  have hlen2 : (cc.toList.take (len * sz)).length = len * sz := by simp; omega
                  rw [hlen2]; exact hcv
              have hw1 := h.write (o' := .cells (cs.take (len * sz) ++ nc) e') (w' := w.setRow p.1 N) ho rfl hp rfl rfl rfl (by simp [World.setRow]) (fun k hk => setRow_other _ _ _ _ (by omega)) (by rw [hrow]; exact ⟨hB, N, rfl, by rw [hNs, hsz], hnewR⟩)
              have hidlt : id < H.length := by
                rcases Nat.lt_or_ge id H.length with h' | h'
                · exact h'
                · simp [List.getElem?_eq_none h'] at ho
              have hw2 := hw1.move (id := id) (o := .cells (cs.take (len * sz) ++ nc) e') (p := p) (by simp [hidlt]) rfl hp
              rw [List.set_set] at hw2
              refine ⟨σ ++ [p], _, .slice (some ⟨p.1, 0, none⟩) (len + n) c, List.prefix_append _ _, hw2, ?_, append_room hT t hlen hroom hfirst (by rw [addr_add, Nat.zero_add]; exact hst)⟩
              simp only [AV.conc, last_sg h, Option.bind_some, Option.getD_none, Nat.zero_mul, Nat.sub_zero]
              have hcp : p.2 / sz = c := by rw [hc]; simp
              rw [hcp, if_pos hroom]
            · exact fresh (hd1.kill id) (by simp) (by omega) h3 hol (by simp; omega) (by simpa [Builtin.firstCells] using hrun)
    · cases hr
  · cases hr
end
end Go.Proofs.YtfphabkdgdgnbaaGreatDoor.AE
