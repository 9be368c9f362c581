import Derived.Test.YtfphabkdgdgnbaaGreatDoorAE2
set_option linter.unusedVariables false
set_option linter.unusedSimpArgs false
namespace Go.Proofs.YtfphabkdgdgnbaaGreatDoor.AE
open Go Go.RowKit

/-- What a piece of Sem comes to. -/
def OK1 (P : Program) (B : Nat) (w0 : World) (σ : Sg) (w : World) (s : Sem Value) (r : AV × AH) : Prop :=
  ∃ σ' w' v, σ <+: σ' ∧ WR B w0 σ' r.2 w' ∧ r.1.conc σ' = some v ∧ s.run P w = .ok v w'
def OKU (P : Program) (B : Nat) (w0 : World) (σ : Sg) (w : World) (s : Sem Unit) (H' : AH) : Prop :=
  ∃ w', WR B w0 σ H' w' ∧ s.run P w = .ok () w'

section
variable {P : Program} {B : Nat} {w0 : World} {σ : Sg} {H : AH} {w : World}

/-- What only looks. -/
def OKp (P : Program) (σ : Sg) (w : World) (s : Sem Value) (a : AV) : Prop := ∃ v, a.conc σ = some v ∧ s.run P w = .ok v w
theorem OK1.pure (h : WR B w0 σ H w) {s : Sem Value} {a : AV} {v : Value} (hc : a.conc σ = some v) (hr : s.run P w = .ok v w) : OKp P σ w s a := ⟨v, hc, hr⟩
theorem OK1.of (h : WR B w0 σ H w) {s : Sem Value} {a : AV} (hp : OKp P σ w s a) : OK1 P B w0 σ w s (a, H) :=
  let ⟨v, hc, hr⟩ := hp; ⟨σ, w, v, List.prefix_rfl, h, hc, hr⟩

theorem cellsR_of {σ : Sg} {cs : List AV} {l : List Value} (h : concL σ cs = some l) : CellsR σ cs l.toArray :=
  ⟨by simp [concL_length h], fun j a ha => by obtain ⟨v, h1, h2⟩ := concL_get h ha; exact ⟨v, h1, by simpa using h2⟩⟩

theorem newRow_ok (h : WR B w0 σ H w) {cs : List AV} {l : List Value} (e : TypeId) (hl : concL σ cs = some l) :
    WR B w0 (σ ++ [(w.heap.size, l.length)]) (H ++ [.cells cs e]) (w.alloc (.cells l.toArray e)) :=
  h.alloc fun σ' hp => ⟨h.size, _, rfl, by simp, (cellsR_of hl).mono hp⟩

theorem last_sg (h : WR B w0 σ H w) (x : Nat × Nat) : (σ ++ [x])[H.length]? = some x := by rw [← h.len]; simp

/-! alloc, box -/
def aAlloc (P : Program) (elem : TypeId) (H : AH) : Option (AV × AH) :=
  (pureRun P (zeroValue elem)).map fun z => (.ptr H.length 0, H ++ [.cells (z.cells.toList.map AV.v) elem])
theorem alloc_ok (h : WR B w0 σ H w) {elem : TypeId} {r : AV × AH} (hr : aAlloc P elem H = some r) : OK1 P B w0 σ w (Instr.alloc elem true (.tuple #[])) r := by
  simp only [aAlloc, Option.map_eq_some_iff] at hr
  obtain ⟨z, hz, rfl⟩ := hr
  have hz' := pureRun_run hz
  refine ⟨_, _, .pointer (some ⟨w.heap.size, 0, none⟩), List.prefix_append _ _, newRow_ok h elem (concL_v σ _), ?_, ?_⟩
  · simp [AV.conc, last_sg h]
  · simp [Instr.alloc, hz', newVar, newRow]
def aBox (elem : TypeId) (a : AV) (H : AH) : AV × AH := (.ptr H.length 0, H ++ [.cells a.cells elem])
theorem box_ok (h : WR B w0 σ H w) {elem : TypeId} {a : AV} {v : Value} (hc : a.conc σ = some v) : OK1 P B w0 σ w (Instr.box elem v) (aBox elem a H) := by
  have := cells_conc hc
  refine ⟨_, _, .pointer (some ⟨w.heap.size, 0, none⟩), List.prefix_append _ _, newRow_ok h elem this, ?_, ?_⟩
  · simp [aBox, AV.conc, last_sg h]
  · simp [Instr.box, newVar, newRow]

/-! build, buildSlice -/
def afill (place : Nat → Option (Nat × Nat)) : List AV → List (Nat × AV) → Option (List AV)
  | cells, [] => some cells
  | cells, (i, a) :: rest => (place i).bind fun p =>
    bif Nat.beq a.cells.length p.2 && Nat.ble (p.1 + a.cells.length) cells.length then afill place (cells.take p.1 ++ a.cells ++ cells.drop (p.1 + a.cells.length)) rest else none
theorem foldl_splice : ∀ (l : List Value) (off : Nat) (cells : List Value) (k : Nat), off + k + l.length ≤ cells.length →
    ((l.zipIdx k).foldl (fun (cs : Array Value) (x : Value × Nat) => cs.setIfInBounds (off + x.2) x.1) cells.toArray) = (cells.take (off + k) ++ l ++ cells.drop (off + k + l.length)).toArray
  | [], off, cells, k, h => by simp
  | x :: l, off, cells, k, h => by
    simp only [List.length_cons] at h
    have := foldl_splice l off (cells.set (off + k) x) (k + 1) (by simp; omega)
    simp only [List.zipIdx_cons, List.foldl_cons, List.setIfInBounds_toArray]
    rw [this]
    congr 1
    apply List.ext_getElem?
    intro j
    simp only [List.getElem?_append, List.length_append, List.length_take, List.length_set, List.length_cons, List.getElem?_take, List.getElem?_drop, List.getElem?_set, List.getElem?_cons]
    have e1 : min (off + (k + 1)) cells.length = off + k + 1 := by omega
    have e2 : min (off + k) cells.length = off + k := by omega
    rw [e1, e2]
    by_cases hj : j < off + k
    · have h1 : j < off + k + 1 + l.length := by omega
      have h2 : j < off + k + 1 := by omega
      have h3 : j < off + k + (l.length + 1) := by omega
      have h4 : j < off + (k + 1) := by omega
      have h5 : ¬ (off + k = j) := by omega
      simp [h1, h2, h3, h4, h5, hj]
    · by_cases hj0 : j = off + k
      · subst hj0
        have h1 : off + k < off + k + 1 + l.length := by omega
        have h3 : off + k < off + k + (l.length + 1) := by omega
        have h6 : off + k < cells.length := by omega
        have h7 : off + k < off + (k + 1) := by omega
        simp [h1, h3, h6, h7]
      · by_cases hj2 : j < off + k + 1 + l.length
        · have h2 : ¬ j < off + k + 1 := by omega
          have h3 : j < off + k + (l.length + 1) := by omega
          have h8 : ¬ (j - (off + k) = 0) := by omega
          have h9 : j - (off + k + 1) = j - (off + k) - 1 := by omega
          simp [hj2, h2, h3, hj, h8, h9]
        · have h3 : ¬ j < off + k + (l.length + 1) := by omega
          have h10 : ¬ (off + k = off + (k + 1) + l.length + (j - (off + k + 1 + l.length))) := by omega
          have h11 : off + (k + 1) + l.length + (j - (off + k + 1 + l.length)) = off + k + (l.length + 1) + (j - (off + k + (l.length + 1))) := by omega
          simp only [hj2, h3, if_false, h10]
          rw [h11]
theorem fill_ok {σ : Sg} {place : Nat → Option (Nat × Nat)} : ∀ {parts : List (Nat × AV)} {parts' : List (Nat × Value)} {cells out : List AV} {m : List Value},
    parts'.length = parts.length → (∀ (i : Nat) (p : Nat × AV), parts[i]? = some p → ∃ v, p.2.conc σ = some v ∧ parts'[i]? = some (p.1, v)) →
    concL σ cells = some m → afill place cells parts = some out → ∃ m', concL σ out = some m' ∧ Instr.fill place m.toArray parts' = some m'.toArray
  | [], [], cells, out, m, _, _, hm, ho => by
    simp only [afill, Option.some.injEq] at ho; subst ho
    exact ⟨m, hm, rfl⟩
  | [], _ :: _, cells, out, m, hl, _, hm, ho => by simp at hl
  | (i, a) :: rest, [], cells, out, m, hl, _, hm, ho => by simp at hl
  | (i, a) :: rest, (j, v) :: rest', cells, out, m, hl, hp, hm, ho => by
    obtain ⟨v', hv', e⟩ := hp 0 (i, a) (by simp)
    simp at e
    obtain ⟨rfl, rfl⟩ := e
    simp only [afill, Option.bind_eq_some_iff] at ho
    obtain ⟨⟨off, size⟩, hpl, ho⟩ := ho
    cases hb : (Nat.beq a.cells.length size && Nat.ble (off + a.cells.length) cells.length) with
    | false => simp [hb] at ho
    | true =>
      simp only [hb, cond_true] at ho
      simp only [Bool.and_eq_true] at hb
      have hsz := Nat.eq_of_beq_eq_true hb.1
      have hle := Nat.le_of_ble_eq_true hb.2
      have hcv := cells_conc hv'
      have hlv : v.cells.size = a.cells.length := by have := concL_length hcv; simpa using this
      have hlm := concL_length hm
      have hnew := concL_append (concL_append (concL_take hm off) hcv) (concL_drop hm (off + a.cells.length))
      obtain ⟨m', h1, h2⟩ := fill_ok (parts' := rest') (by simpa using hl) (fun k p hk => by have := hp (k + 1) p (by simpa using hk); simpa using this) hnew ho
      refine ⟨m', h1, ?_⟩
      simp only [Instr.fill, hpl]
      rw [if_neg (by simp; omega)]
      rw [← h2]
      congr 1
      rw [← Array.foldl_toList, Array.toList_zipIdx]
      have := foldl_splice v.cells.toList off m 0 (by simp; omega)
      simp only [Nat.add_zero, Array.length_toList, hlv] at this
      exact this

def PartsR (σ : Sg) (parts : List (Nat × AV)) (parts' : List (Nat × Value)) : Prop :=
  parts'.length = parts.length ∧ ∀ (i : Nat) (p : Nat × AV), parts[i]? = some p → ∃ v, p.2.conc σ = some v ∧ parts'[i]? = some (p.1, v)

def aBuild (P : Program) (t : TypeId) (parts : List (Nat × AV)) : Option AV :=
  (pureRun P (zeroValue t)).bind fun z => (pureRun P (underlying t)).bind fun d => match d with
    | .struct fields => (pureRun P (fields.mapM fun f => do pure (f.offset, ← sizeOf f.type) : Sem (Array (Nat × Nat)))).bind fun places =>
        (afill (places[·]?) (z.cells.toList.map AV.v) parts).map .agg
    | .array _ elem => (pureRun P (sizeOf elem)).bind fun size => (afill (fun i => some (i * size, size)) (z.cells.toList.map AV.v) parts).map .agg
    | _ => none
theorem build_ok (h : WR B w0 σ H w) {t : TypeId} {parts : List (Nat × AV)} {parts' : Array (Nat × Value)} (hp : PartsR σ parts parts'.toList) {a : AV} (hr : aBuild P t parts = some a) :
    OKp P σ w (Instr.build t parts') a := by
  simp only [aBuild, Option.bind_eq_some_iff] at hr
  obtain ⟨z, hz, d, hd, hr⟩ := hr
  have hz' := pureRun_run hz
  have hd' := pureRun_run hd
  split at hr
  · rename_i fields
    simp only [Option.bind_eq_some_iff, Option.map_eq_some_iff] at hr
    obtain ⟨places, hpl, cells, hf, rfl⟩ := hr
    obtain ⟨m', h1, h2⟩ := fill_ok hp.1 hp.2 (concL_v σ _) hf
    have hpl' := pureRun_run hpl
    refine OK1.pure h (v := .agg m'.toArray) (by simp [AV.conc, h1]) ?_
    simp only [Array.toArray_toList] at h2
    simp only [Instr.build, Sem.run_bind, hz', Result.andThen_ok, hd', hpl']
    simp [h2]
  · rename_i elem
    simp only [Option.bind_eq_some_iff, Option.map_eq_some_iff] at hr
    obtain ⟨size, hsz, cells, hf, rfl⟩ := hr
    obtain ⟨m', h1, h2⟩ := fill_ok hp.1 hp.2 (concL_v σ _) hf
    have hsz' := pureRun_run hsz
    refine OK1.pure h (v := .agg m'.toArray) (by simp [AV.conc, h1]) ?_
    simp only [Array.toArray_toList] at h2
    simp only [Instr.build, Sem.run_bind, hz', Result.andThen_ok, hd', hsz']
    simp [h2]
  · cases hr

def zcells (z : List Value) (n : Nat) : List Value := (List.range n).map fun i => z.getD (i % z.length) undef
theorem zcells_eq (z : Array Value) (n : Nat) (hz : z.size ≠ 0 ∨ n = 0) : ((Array.range n).map (z[· % z.size]!)) = (zcells z.toList n).toArray := by
  apply Array.ext'
  simp only [zcells, Array.toList_map, Array.toList_range]
  apply List.map_congr_left
  intro i hi
  rcases hz with hz | hz
  · have : i % z.size < z.size := Nat.mod_lt _ (by omega)
    simp [this, getElem!_pos, List.getD]
  · subst hz; simp at hi

def aBuildSlice (P : Program) (t : TypeId) (len : Nat) (parts : List (Nat × AV)) (H : AH) : Option (AV × AH) :=
  (pureRun P (underlying t)).bind fun d => match d with
    | .slice elem => (pureRun P (sizeOf elem)).bind fun size => (pureRun P (zeroValue elem)).bind fun z =>
      bif Nat.ble (len * size) 16777216 && (!Nat.beq z.cells.size 0) && (!Nat.beq size 0) then
        (afill (fun i => some (i * size, size)) ((zcells z.cells.toList (len * size)).map AV.v) parts).bind fun cs =>
          bif Nat.beq cs.length (len * size) then some (.slc H.length 0 size len (some len), H ++ [.cells cs elem]) else none
      else none
    | _ => none
theorem buildSlice_ok (h : WR B w0 σ H w) {t : TypeId} {len : Nat} {parts : List (Nat × AV)} {parts' : Array (Nat × Value)} (hp : PartsR σ parts parts'.toList) {r : AV × AH} (hr : aBuildSlice P t len parts H = some r) :
    OK1 P B w0 σ w (Instr.buildSlice t len parts') r := by
  simp only [aBuildSlice, Option.bind_eq_some_iff] at hr
  obtain ⟨d, hd, hr⟩ := hr
  split at hr
  · rename_i elem
    simp only [Option.bind_eq_some_iff] at hr
    obtain ⟨size, hsz, z, hz, hr⟩ := hr
    cases hb : (Nat.ble (len * size) 16777216 && (!Nat.beq z.cells.size 0) && (!Nat.beq size 0)) with
    | false => simp [hb] at hr
    | true =>
      simp only [hb, cond_true, Option.bind_eq_some_iff] at hr
      obtain ⟨cs, hf, hr⟩ := hr
      simp only [Bool.and_eq_true] at hb
      have hle := Nat.le_of_ble_eq_true hb.1.1
      have hz0 : z.cells.size ≠ 0 := fun e => by rw [e] at hb; simp at hb
      cases hl : Nat.beq cs.length (len * size) with
      | false => simp [hl] at hr
      | true =>
        simp only [hl, cond_true, Option.some.injEq] at hr
        subst hr
        have hcl := Nat.eq_of_beq_eq_true hl
        obtain ⟨m', h1, h2⟩ := fill_ok hp.1 hp.2 (concL_v σ _) hf
        have hd' := pureRun_run hd
        have hz' := pureRun_run hz
        have hsz' := pureRun_run hsz
        have hlm := concL_length h1
        refine ⟨_, _, .slice (some ⟨w.heap.size, 0, none⟩) len len, List.prefix_append _ _, newRow_ok h elem h1, ?_, ?_⟩
        · simp [AV.conc, last_sg h]
        · have hnb : ¬ (len * size > 2 ^ 24) := by omega
          simp only [Instr.buildSlice, Sem.run_bind, hd', Result.andThen_ok, hsz', hnb, if_false]
          by_cases h0 : len * size = 0
          · simp only [h0, if_true, Sem.run_bind, Sem.run_pure, Result.andThen_ok]
            have hZ : ((Array.range 0).map ((#[] : Array Value)[· % (#[] : Array Value).size]!)) = (zcells z.cells.toList (len * size)).toArray := by simp [h0, zcells]
            rw [hZ, h2]
            simp [newRow]
          · simp only [h0, if_false, Sem.run_bind, hz', Sem.run_pure, Result.andThen_ok]
            rw [zcells_eq z.cells _ (.inl hz0), h2]
            simp [newRow]
  · cases hr
end
end Go.Proofs.YtfphabkdgdgnbaaGreatDoor.AE
