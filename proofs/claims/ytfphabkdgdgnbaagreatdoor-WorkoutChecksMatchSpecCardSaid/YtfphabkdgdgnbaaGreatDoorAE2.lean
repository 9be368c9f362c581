import Derived.Test.YtfphabkdgdgnbaaGreatDoorAE1
set_option linter.unusedVariables false
set_option linter.unusedSimpArgs false
namespace Go.Proofs.YtfphabkdgdgnbaaGreatDoor.AE
open Go Go.RowKit

/-- Objects of the abstract heap. -/
inductive AObj where
  | cells (cs : List AV) (elem : TypeId)
  | ro (cs : List AV) (elem : TypeId)
  | map (es : List (Value × AV × Nat)) (clock : Nat)
  | siter (s : ByteArray) (pos : Nat)
  | dead
  deriving Inhabited
abbrev AH := List AObj

def CellsR (σ : Sg) (cs : List AV) (c : Array Value) : Prop :=
  cs.length ≤ c.size ∧ ∀ (j : Nat) (a : AV), cs[j]? = some a → ∃ v, a.conc σ = some v ∧ c[j]? = some v
def EntsR (σ : Sg) : List (Value × AV × Nat) → List MapEntry → Prop
  | [], [] => True
  | (k, a, b) :: es, m :: ms => m.key = k ∧ a.conc σ = some m.val ∧ m.born = b ∧ EntsR σ es ms
  | _, _ => False
def ObjR (σ : Sg) (B : Nat) (p : Nat × Nat) (x : Option Obj) : AObj → Prop
  | .cells cs e => B ≤ p.1 ∧ ∃ c : Array Value, x = some (.cells c e (0, 0)) ∧ c.size = p.2 ∧ CellsR σ cs c
  | .ro cs e => B ≤ p.1 ∧ ∃ (c : Array Value) (fr : Nat × Nat), x = some (.cells c e fr) ∧ c.size = p.2 ∧ CellsR σ cs c
  | .map es clock => B ≤ p.1 ∧ ∃ ms : Array MapEntry, x = some (.map ms clock) ∧ EntsR σ es ms.toList
  | .siter s pos => B ≤ p.1 ∧ x = some (.stringIter s pos)
  | .dead => True
def AObj.live : AObj → Bool
  | .dead => false
  | _ => true
/-- The cells of a block, to be read. -/
def getC (H : AH) (id : Nat) : Option (List AV) :=
  match H[id]? with
  | some (.cells cs _) => some cs
  | some (.ro cs _) => some cs
  | _ => none
structure WR (B : Nat) (w0 : World) (σ : Sg) (H : AH) (w : World) : Prop where
  below : Below B w0 w
  size : B ≤ w.heap.size
  len : σ.length = H.length
  obj : ∀ (i : Nat) (o : AObj) (p : Nat × Nat), H[i]? = some o → σ[i]? = some p → ObjR σ B p w.heap[p.1]? o
  inj : ∀ (i j : Nat) (o o' : AObj) (p q : Nat × Nat), H[i]? = some o → H[j]? = some o' → σ[i]? = some p → σ[j]? = some q → o.live = true → o'.live = true → p.1 = q.1 → i = j

theorem CellsR.mono {σ σ' : Sg} (h : σ <+: σ') {cs c} (r : CellsR σ cs c) : CellsR σ' cs c :=
  ⟨r.1, fun j a ha => let ⟨v, h1, h2⟩ := r.2 j a ha; ⟨v, conc_mono h a h1, h2⟩⟩
theorem EntsR.mono {σ σ' : Sg} (h : σ <+: σ') : ∀ {es ms}, EntsR σ es ms → EntsR σ' es ms
  | [], [], _ => trivial
  | (k, a, b) :: es, m :: ms, ⟨h1, h2, h3, h4⟩ => ⟨h1, conc_mono h a h2, h3, EntsR.mono h h4⟩
  | [], _ :: _, r => r.elim
  | _ :: _, [], r => r.elim
theorem ObjR.mono {σ σ' : Sg} (h : σ <+: σ') {B p x} : ∀ {o : AObj}, ObjR σ B p x o → ObjR σ' B p x o
  | .cells cs e, ⟨h0, c, h1, h2, h3⟩ => ⟨h0, c, h1, h2, h3.mono h⟩
  | .ro cs e, ⟨h0, c, fr, h1, h2, h3⟩ => ⟨h0, c, fr, h1, h2, h3.mono h⟩
  | .map es cl, ⟨h0, c, h1, h3⟩ => ⟨h0, c, h1, h3.mono h⟩
  | .siter s p, r => r
  | .dead, r => r
theorem ObjR.base {σ B p x} : ∀ {o : AObj}, ObjR σ B p x o → o.live = true → B ≤ p.1 ∧ x.isSome = true
  | .cells cs e, ⟨h0, c, h1, _⟩, _ => ⟨h0, by simp [h1]⟩
  | .ro cs e, ⟨h0, c, fr, h1, _⟩, _ => ⟨h0, by simp [h1]⟩
  | .map es cl, ⟨h0, c, h1, _⟩, _ => ⟨h0, by simp [h1]⟩
  | .siter s p, ⟨h0, h1⟩, _ => ⟨h0, by simp [h1]⟩
  | .dead, _, h => by simp [AObj.live] at h

section
variable {B : Nat} {w0 : World} {σ : Sg} {H : AH} {w : World}

theorem sg_get (h : WR B w0 σ H w) {i : Nat} {o : AObj} (ho : H[i]? = some o) : ∃ p, σ[i]? = some p := by
  have hi : i < H.length := by
    rcases Nat.lt_or_ge i H.length with h' | h'
    · exact h'
    · simp [List.getElem?_eq_none h'] at ho
  exact ⟨σ[i]'(by rw [h.len]; exact hi), List.getElem?_eq_getElem _⟩

/-- A draw. -/
theorem WR.drawn (h : WR B w0 σ H w) (n : Nat) : WR B w0 σ H { w with drawn := n } :=
  ⟨⟨h.below.os, h.below.tape, h.below.output, h.below.size, h.below.block⟩, h.size, h.len, h.obj, h.inj⟩

/-- A new block. -/
theorem WR.alloc (h : WR B w0 σ H w) {o : AObj} {O : Obj} {n : Nat}
    (hO : ∀ σ', σ <+: σ' → ObjR σ' B (w.heap.size, n) (some O) o) : WR B w0 (σ ++ [(w.heap.size, n)]) (H ++ [o]) (w.alloc O) := by
  have hpre : σ <+: σ ++ [(w.heap.size, n)] := List.prefix_append _ _
  have old : ∀ {i : Nat} {o' : AObj}, i < H.length → (H ++ [o])[i]? = some o' → H[i]? = some o' := fun hi ho => by rwa [List.getElem?_append_left hi] at ho
  have olds : ∀ {i : Nat} {p}, i < H.length → (σ ++ [(w.heap.size, n)])[i]? = some p → σ[i]? = some p := fun hi ho => by rwa [List.getElem?_append_left (by rw [h.len]; exact hi)] at ho
  have last : ∀ {i : Nat} {o' : AObj}, ¬ i < H.length → (H ++ [o])[i]? = some o' → i = H.length ∧ o' = o := fun {i} {o'} hi ho => by
    have hl : i < (H ++ [o]).length := by
      rcases Nat.lt_or_ge i (H ++ [o]).length with h' | h'
      · exact h'
      · simp [List.getElem?_eq_none h'] at ho
    have : i = H.length := by simp at hl; omega
    subst this; simp at ho; exact ⟨rfl, ho.symm⟩
  have lasts : ∀ {p}, (σ ++ [(w.heap.size, n)])[H.length]? = some p → p = (w.heap.size, n) := fun hp => by
    rw [← h.len] at hp; simp at hp; exact hp.symm
  refine ⟨h.below.alloc h.size O, by simp; have := h.size; omega, by simp [h.len], ?_, ?_⟩
  · intro i o' p ho hp
    by_cases hi : i < H.length
    · have ho' := old hi ho
      have hp' := olds hi hp
      have r := h.obj i o' p ho' hp'
      cases hl : o'.live with
      | false => cases o' <;> first | trivial | simp [AObj.live] at hl
      | true =>
        have hb := (r.base hl)
        have hlt : p.1 < w.heap.size := by
          rcases Nat.lt_or_ge p.1 w.heap.size with h' | h'
          · exact h'
          · rw [Array.getElem?_eq_none h'] at hb; simp at hb
        have : (w.alloc O).heap[p.1]? = w.heap[p.1]? := by
          show (w.heap.push O)[p.1]? = _
          rw [Array.getElem?_push, if_neg (by omega)]
        rw [this]; exact r.mono hpre
    · obtain ⟨rfl, rfl⟩ := last hi ho
      have := lasts hp; subst this
      have : (w.alloc O).heap[w.heap.size]? = some O := by
        show (w.heap.push O)[w.heap.size]? = _
        simp
      rw [this]; exact hO _ hpre
  · intro i j o1 o2 p q h1 h2 hp hq l1 l2 e
    by_cases hi : i < H.length <;> by_cases hj : j < H.length
    · exact h.inj i j o1 o2 p q (old hi h1) (old hj h2) (olds hi hp) (olds hj hq) l1 l2 e
    · obtain ⟨rfl, rfl⟩ := last hj h2
      have := lasts hq; subst this
      have hb := (h.obj i o1 p (old hi h1) (olds hi hp)).base l1
      simp at e
      rw [Array.getElem?_eq_none (by omega)] at hb; simp at hb
    · obtain ⟨rfl, rfl⟩ := last hi h1
      have := lasts hp; subst this
      have hb := (h.obj j o2 q (old hj h2) (olds hj hq)).base l2
      simp at e
      rw [Array.getElem?_eq_none (by omega)] at hb; simp at hb
    · rw [(last hi h1).1, (last hj h2).1]

/-- One block is written. -/
theorem WR.write (h : WR B w0 σ H w) {id : Nat} {o o' : AObj} {p : Nat × Nat} {w' : World} (ho : H[id]? = some o) (hl : o.live = true) (hp : σ[id]? = some p)
    (hos : w'.os = w.os) (htape : w'.tape = w.tape) (hout : w'.output = w.output) (hsize : w'.heap.size = w.heap.size)
    (hother : ∀ k, k ≠ p.1 → w'.heap[k]? = w.heap[k]?) (hO : ObjR σ B p w'.heap[p.1]? o') : WR B w0 σ (H.set id o') w' := by
  have hb := (h.obj id o p ho hp).base hl
  have hid : id < H.length := by
    rcases Nat.lt_or_ge id H.length with h' | h'
    · exact h'
    · simp [List.getElem?_eq_none h'] at ho
  refine ⟨h.below.trans ⟨hos, htape, hout, by omega, fun k hk => hother k (by omega)⟩, by rw [hsize]; exact h.size, by simp [h.len], ?_, ?_⟩
  · intro i x q hx hq
    by_cases hi : i = id
    · subst hi
      rw [List.getElem?_set] at hx
      simp [hid] at hx; subst hx
      rw [hp] at hq; cases hq; exact hO
    · rw [List.getElem?_set_ne (by omega)] at hx
      have r := h.obj i x q hx hq
      cases hlx : x.live with
      | false => cases x <;> first | trivial | simp [AObj.live] at hlx
      | true =>
        have hne : q.1 ≠ p.1 := fun e => hi (h.inj i id x o q p hx ho hq hp hlx hl e)
        rw [hother _ hne]; exact r
  · intro i j o1 o2 q r h1 h2 hq hr l1 l2 e
    have sub : ∀ {k : Nat} {x : AObj}, (H.set id o')[k]? = some x → x.live = true → ∃ y, H[k]? = some y ∧ y.live = true := fun {k} {x} hx lx => by
      by_cases hk : k = id
      · subst hk; exact ⟨o, ho, hl⟩
      · rw [List.getElem?_set_ne (by omega)] at hx; exact ⟨x, hx, lx⟩
    obtain ⟨y1, a1, b1⟩ := sub h1 l1
    obtain ⟨y2, a2, b2⟩ := sub h2 l2
    exact h.inj i j y1 y2 q r a1 a2 hq hr b1 b2 e

/-- A block is given up. -/
theorem WR.kill (h : WR B w0 σ H w) (id : Nat) : WR B w0 σ (H.set id .dead) w := by
  have sub : ∀ {k : Nat} {x : AObj}, (H.set id .dead)[k]? = some x → x = .dead ∨ H[k]? = some x := fun {k} {x} hx => by
    by_cases hk : id = k
    · subst hk
      rw [List.getElem?_set] at hx
      split at hx
      · split at hx
        · simp at hx; exact .inl hx.symm
        · cases hx
      · rename_i hne; exact absurd rfl hne
    · rw [List.getElem?_set_ne hk] at hx; exact .inr hx
  refine ⟨h.below, h.size, by simp [h.len], fun i o p ho hp => ?_, fun i j o o' p q h1 h2 hp hq l1 l2 e => ?_⟩
  · rcases sub ho with rfl | ho
    · trivial
    · exact h.obj i o p ho hp
  · rcases sub h1 with rfl | h1
    · simp [AObj.live] at l1
    · rcases sub h2 with rfl | h2
      · simp [AObj.live] at l2
      · exact h.inj i j o o' p q h1 h2 hp hq l1 l2 e

theorem WR.rd (h : WR B w0 σ H w) {id : Nat} {cs : List AV} {p : Nat × Nat} (ho : getC H id = some cs) (hp : σ[id]? = some p) :
    ∃ (c : Array Value) (e : TypeId) (fr : Nat × Nat), w.heap[p.1]? = some (.cells c e fr) ∧ CellsR σ cs c := by
  unfold getC at ho
  split at ho
  · rename_i ds e ho'
    simp only [Option.some.injEq] at ho; subst ho
    obtain ⟨_, c, h1, _, h3⟩ := h.obj id _ p ho' hp
    exact ⟨c, e, (0, 0), h1, h3⟩
  · rename_i ds e ho'
    simp only [Option.some.injEq] at ho; subst ho
    obtain ⟨_, c, fr, h1, _, h3⟩ := h.obj id _ p ho' hp
    exact ⟨c, e, fr, h1, h3⟩
  · cases ho
theorem getC_of {H : AH} {id : Nat} {cs : List AV} {e : TypeId} (ho : H[id]? = some (.cells cs e)) : getC H id = some cs := by simp [getC, ho]
/-- A cell of an abstract block. -/
theorem WR.cell (h : WR B w0 σ H w) {id off : Nat} {cs : List AV} {p : Nat × Nat} {a : AV} (ho : getC H id = some cs) (hp : σ[id]? = some p) (ha : cs[off]? = some a) :
    ∃ v, a.conc σ = some v ∧ w.cell? ⟨p.1, off, none⟩ = some v := by
  obtain ⟨c, e, fr, h1, h3⟩ := h.rd ho hp
  obtain ⟨v, hv, hc⟩ := h3.2 off a ha
  exact ⟨v, hv, by simp [World.cell?, h1, hc]⟩

theorem addr_add (b o n : Nat) : (⟨b, o, none⟩ : Addr).add n = ⟨b, o + n, none⟩ := by unfold Addr.add; split <;> simp_all

/-- Several cells. -/
theorem WR.cellsAt (h : WR B w0 σ H w) (P : Program) {id off n : Nat} {cs : List AV} {p : Nat × Nat} (ho : getC H id = some cs) (hp : σ[id]? = some p) (hn : off + n ≤ cs.length) :
    ∃ l, concL σ ((cs.drop off).take n) = some l ∧ (loadCells ⟨p.1, off, none⟩ n).run P w = .ok l.toArray w := by
  obtain ⟨c, e, fr, h1, hle, h3⟩ := h.rd ho hp
  have hex : ∃ l : List Value, concL σ ((cs.drop off).take n) = some l ∧ ∀ j v, l[j]? = some v → w.cell? ⟨p.1, off + j, none⟩ = some v := by
    refine ⟨((c.toList.drop off).take n), concL_of_get _ _ ?_ fun i a ha => ?_, fun j v hj => ?_⟩
    · have := h3; have hcs : cs.length ≤ c.size := by assumption
      simp; omega
    · rw [List.getElem?_take] at ha ⊢
      split at ha
      · rename_i hlt
        rw [List.getElem?_drop] at ha
        obtain ⟨v, hv, hc⟩ := h3 _ a ha
        exact ⟨v, hv, by rw [if_pos hlt, List.getElem?_drop, Array.getElem?_toList]; exact hc⟩
      · cases ha
    · rw [List.getElem?_take] at hj
      split at hj
      · rw [List.getElem?_drop, Array.getElem?_toList] at hj
        simp [World.cell?, h1, hj]
      · cases hj
  obtain ⟨l, hl, hc⟩ := hex
  refine ⟨l, hl, ?_⟩
  have hlen : l.length = n := by have := concL_length hl; simp at this; omega
  have := run_loadCells_list (P := P) w ⟨p.1, off, none⟩ l (fun j v hj => by rw [addr_add]; exact hc j v hj)
  rw [hlen] at this; exact this

/-- The values of one cell. -/
def AV.one : AV → Bool
  | .v x => x.oneCell'
  | .agg _ | .tup _ => false
  | _ => true
theorem one_conc {a : AV} {v : Value} (h : a.one = true) (hc : a.conc σ = some v) : v.oneCell' = true := by
  cases a with
  | v x => simp only [AV.conc, Option.some.injEq] at hc; subst hc; exact h
  | agg cs => simp [AV.one] at h
  | tup cs => simp [AV.one] at h
  | ptr id off => simp only [AV.conc, Option.map_eq_some_iff] at hc; obtain ⟨l, hl, rfl⟩ := hc; rfl
  | slc id off size len cap =>
    simp only [AV.conc, Option.bind_eq_some_iff] at hc; obtain ⟨l, hl, hc⟩ := hc
    split at hc
    · simp only [Option.some.injEq] at hc; subst hc; rfl
    · cases hc
  | fn f a b => simp only [AV.conc, Option.map_eq_some_iff, Option.bind_eq_some_iff] at hc; obtain ⟨l, hl, m, hm, rfl⟩ := hc; rfl
  | ifc t x => simp only [AV.conc, Option.map_eq_some_iff] at hc; obtain ⟨l, hl, rfl⟩ := hc; rfl
  | mp id => simp only [AV.conc, Option.map_eq_some_iff] at hc; obtain ⟨l, hl, rfl⟩ := hc; rfl

/-- Cells of a block are written. -/
theorem WR.storeAt (h : WR B w0 σ H w) (P : Program) {id off : Nat} {cs vs : List AV} {l : List Value} {e : TypeId} {p : Nat × Nat} (ho : H[id]? = some (.cells cs e)) (hp : σ[id]? = some p)
    (hn : off + vs.length ≤ cs.length) (hl : concL σ vs = some l) (h1 : vs.all AV.one = true) :
    ∃ w', (storeCells ⟨p.1, off, none⟩ l).run P w = .ok () w' ∧ WR B w0 σ (H.set id (.cells (cs.take off ++ vs ++ cs.drop (off + vs.length)) e)) w' := by
  obtain ⟨hB, c, hc, hsz, hle, h3⟩ := h.obj id _ p ho hp
  have hll := concL_length hl
  have hone : ∀ v ∈ l, v.oneCell' = true := fun v hv => by
    obtain ⟨i, hi⟩ := List.mem_iff_getElem?.1 hv
    have hilt : i < vs.length := by
      rcases Nat.lt_or_ge i l.length with h' | h'
      · omega
      · simp [List.getElem?_eq_none h'] at hi
    obtain ⟨v', hv', e'⟩ := concL_get hl (List.getElem?_eq_getElem hilt)
    rw [hi] at e'; cases e'
    exact one_conc (List.all_eq_true.1 h1 _ (List.getElem_mem hilt)) hv'
  have hrun := run_storeCells_at (P := P) p.1 off e l 0 c w hc (by omega) hone
  refine ⟨_, hrun, ?_⟩
  have hplt : p.1 < w.heap.size := by
    rcases Nat.lt_or_ge p.1 w.heap.size with h' | h'
    · exact h'
    · rw [Array.getElem?_eq_none h'] at hc; cases hc
  have hrow : ∀ N : Array Value, (w.setRow p.1 N).heap[p.1]? = some (.cells N e (0, 0)) := fun N => setRow_heap w p.1 c N e (0, 0) hc
  refine h.write ho rfl hp rfl rfl rfl (by simp [World.setRow]) (fun k hk => setRow_other _ _ _ _ (by omega)) ?_
  rw [hrow]
  refine ⟨hB, _, rfl, ?_, ?_, ?_⟩
  · simp; omega
  · simp; omega
  · intro j a ha
    simp only [Nat.add_zero]
    rw [List.getElem?_toArray]
    have hto : cs.length ≤ c.size := hle
    by_cases hj1 : j < off
    · rw [List.append_assoc, List.getElem?_append_left (by simp; omega), List.getElem?_take, if_pos hj1] at ha
      obtain ⟨v, hv, hcv⟩ := h3 j a ha
      refine ⟨v, hv, ?_⟩
      rw [List.append_assoc, List.getElem?_append_left (by simp; omega), List.getElem?_take, if_pos hj1, Array.getElem?_toList]; exact hcv
    · by_cases hj2 : j < off + vs.length
      · rw [List.append_assoc, List.getElem?_append_right (by simp; omega), List.getElem?_append_left (by simp; omega)] at ha
        have hlen : (cs.take off).length = off := by simp; omega
        rw [hlen] at ha
        obtain ⟨v, hv, hcv⟩ := concL_get hl ha
        refine ⟨v, hv, ?_⟩
        rw [List.append_assoc, List.getElem?_append_right (by simp; omega), List.getElem?_append_left (by simp; omega)]
        have hlen2 : (c.toList.take off).length = off := by simp; omega
        rw [hlen2]; exact hcv
      · rw [List.getElem?_append_right (by simp; omega)] at ha
        have hlen : (cs.take off ++ vs).length = off + vs.length := by simp; omega
        rw [hlen, List.getElem?_drop] at ha
        obtain ⟨v, hv, hcv⟩ := h3 _ a ha
        refine ⟨v, hv, ?_⟩
        rw [List.getElem?_append_right (by simp; omega)]
        have hlen2 : (c.toList.take off ++ l).length = off + vs.length := by simp; omega
        rw [hlen2, hll, List.getElem?_drop, Array.getElem?_toList]; exact hcv
end
end Go.Proofs.YtfphabkdgdgnbaaGreatDoor.AE
