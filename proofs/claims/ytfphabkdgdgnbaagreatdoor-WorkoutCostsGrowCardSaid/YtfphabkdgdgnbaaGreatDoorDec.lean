import Derived.Test.YtfphabkdgdgnbaaGreatDoorWWords
import Derived.Test.YtfphabkdgdgnbaaGreatDoorWMore
import Derived.OpenShut
import Derived.ChangeArms
import Derived.DataReads
import Derived.WideShapes
set_option linter.unusedVariables false
set_option linter.unusedSimpArgs false
namespace Go.Proofs.YtfphabkdgdgnbaaGreatDoor.Dec
open Go Go.RowKit Go.Proofs.YtfphabkdgdgnbaaGreatDoorW.PrintWords
universe u

/-- What is read of a type, at a depth, is of a kind. -/
structure DecN {α : Type} (P : Program) (n : Nat) (t : TypeId) (d : Kd α) (wf : α → Prop) : Prop where
  sz : d.sz = P.cellsOf t
  rd : ∀ {H : Type} (enc : TypeId × Value → H) (w : World) (cs : List Value) (x : DataW H × List MemPlace), DataW.trod enc P w 0 (fun _ => true) true n t cs = some x → ∃ a, d.K w a cs ∧ wf a

variable {P : Program} {n : Nat} {t : TypeId}
theorem dec_int {k : IntKind} (ht : P.underlying t = some (.int k)) (hc : P.cellsOf t = 1) : DecN P n t (Kd.int k) fun z => (Lit.int k z).wf = true :=
  ⟨hc.symm, fun enc w cs x h => by
    obtain ⟨z, rfl, _, hw⟩ := DataW.trod_int ht h
    exact ⟨z, rfl, hw⟩⟩
theorem dec_bool (ht : P.underlying t = some .bool) (hc : P.cellsOf t = 1) : DecN P n t Kd.bool fun _ => True :=
  ⟨hc.symm, fun enc w cs x h => by
    obtain ⟨z, rfl, _⟩ := DataW.trod_bool ht h
    exact ⟨z, rfl, trivial⟩⟩
theorem dec_string (ht : P.underlying t = some .string) (hc : P.cellsOf t = 1) : DecN P n t Kd.string fun s => s.size ≤ maxLen :=
  ⟨hc.symm, fun enc w cs x h => by
    obtain ⟨z, rfl, _, hw⟩ := DataW.trod_string ht h
    exact ⟨z, rfl, hw⟩⟩

theorem add_add' (a : Addr) (i j : Nat) : a.add (i + j) = (a.add i).add j := by
  unfold Addr.add
  by_cases hi : i = 0 <;> by_cases hj : j = 0 <;> simp [hi, hj, Nat.add_assoc]
theorem collect {α : Type} {R : Nat → α → Prop} : ∀ (m : Nat), (∀ i, i < m → ∃ a, R i a) → ∃ xs : List α, xs.length = m ∧ ∀ i a, xs[i]? = some a → R i a
  | 0, _ => ⟨[], rfl, fun i a h => by simp at h⟩
  | m + 1, h => by
    obtain ⟨xs, hl, hx⟩ := collect m fun i hi => h i (Nat.lt_succ_of_lt hi)
    obtain ⟨a, ha⟩ := h m (Nat.lt_succ_self m)
    refine ⟨xs ++ [a], by simp [hl], fun i b hb => ?_⟩
    rcases Nat.lt_or_ge i xs.length with hi | hi
    · rw [List.getElem?_append_left hi] at hb; exact hx i b hb
    · rw [List.getElem?_append_right hi] at hb
      have : i - xs.length = 0 := by
        rcases Nat.eq_zero_or_pos (i - xs.length) with h0 | h0
        · exact h0
        · rw [List.getElem?_eq_none (by simp; omega)] at hb; cases hb
      rw [this] at hb
      simp at hb; subst hb
      have : i = m := by omega
      subst this; exact ha
theorem dec_slice {α : Type} {d : Kd α} {wf : α → Prop} {e : TypeId} (ht : P.underlying t = some (.slice e)) (hc : P.cellsOf t = 1) (h0 : DecN P n e d wf) : DecN P (n + 1) t (Kd.slice e d) fun xs => xs.length ≤ maxLen ∧ ∀ a ∈ xs, wf a :=
  ⟨hc.symm, fun enc w cs x h => by
    rcases DataW.trod_slice ht h with ⟨rfl, _⟩ | ⟨a, len, cap, elems, rest, m, hm, rfl, _, _, hl, hcap, hlen, hel, _, _⟩
    · exact ⟨[], ⟨none, 0, rfl, Nat.le_refl _, rfl, by simp, fun h => by simp at h⟩, by simp, fun a ha => by cases ha⟩
    · obtain rfl : n = m := by omega
      have each : ∀ i, i < len → ∃ b : α, wf b ∧ ∃ c : List Value, c.length = d.sz ∧ d.K w b c ∧ ∀ j u, c[j]? = some u → w.cell? (a.add (i * d.sz + j)) = some u := by
        intro i hi
        have h1 := hel i hi
        rw [List.getElem?_eq_getElem (by omega)] at h1
        simp only [Option.bind_eq_some_iff] at h1
        obtain ⟨c, hcs, h1⟩ := h1
        obtain ⟨b, hK, hwf⟩ := h0.rd enc w c _ h1
        obtain ⟨_, hcl, hcc⟩ := World.cells?_some hcs
        refine ⟨b, hwf, c, by rw [hcl, h0.sz], hK, fun j u hu => ?_⟩
        have hj : j < c.length := by
          rcases Nat.lt_or_ge j c.length with h | h
          · exact h
          · rw [List.getElem?_eq_none h] at hu; cases hu
        have := hcc j (by omega)
        rw [hu] at this
        rw [h0.sz, ← this]
        rw [add_add']
      obtain ⟨xs, hxl, hx⟩ := collect len each
      refine ⟨xs, ⟨some a, cap, by rw [hxl], by omega, hxl ▸ rfl, ?_, fun _ => ⟨a, rfl, fun j p hp => (hx j p hp).2⟩⟩, by rw [hxl]; omega, fun b hb => ?_⟩
      · simp only [maxLen] at hcap; omega
      · obtain ⟨i, hi⟩ := List.getElem?_of_mem hb
        exact (hx i b hi).1⟩

/-- The same of fields from an offset on. -/
structure DecF {α : Type} (P : Program) (n : Nat) (fs : List Field) (off : Nat) (d : Kd α) (wf : α → Prop) : Prop where
  rd : ∀ {H : Type} (enc : TypeId × Value → H) (w : World) (cs : List Value), (∀ (i : Nat) (f : Field), fs[i]? = some f → ∃ x, DataW.trod enc P w 0 (fun _ => true) true n f.type ((cs.drop f.offset).take (P.cellsOf f.type)) = some x) → ∃ a, d.K w a ((cs.drop off).take d.sz) ∧ wf a
theorem dec_last {α : Type} {d : Kd α} {wf : α → Prop} {f : Field} {off : Nat} (h : DecN P n f.type d wf) (ho : f.offset = off) : DecF P n [f] off d wf :=
  ⟨fun enc w cs hf => by
    obtain ⟨x, hx⟩ := hf 0 f rfl
    obtain ⟨a, hK, hw⟩ := h.rd enc w _ x hx
    rw [ho, ← h.sz] at hK
    exact ⟨a, hK, hw⟩⟩
theorem dec_cons {α β : Type} {d : Kd α} {e : Kd β} {wf : α → Prop} {wg : β → Prop} {f : Field} {fs : List Field} {off : Nat} (h : DecN P n f.type d wf) (ho : f.offset = off) (hr : DecF P n fs (off + d.sz) e wg) :
    DecF P n (f :: fs) off (Kd.pair d e) fun p => wf p.1 ∧ wg p.2 :=
  ⟨fun enc w cs hf => by
    obtain ⟨x, hx⟩ := hf 0 f rfl
    obtain ⟨a, hK, hw⟩ := h.rd enc w _ x hx
    obtain ⟨b, hKb, hwb⟩ := hr.rd enc w cs fun i g hg => hf (i + 1) g (by simpa using hg)
    rw [ho, ← h.sz] at hK
    refine ⟨(a, b), ⟨_, _, ?_, hK, hKb⟩, hw, hwb⟩
    show (cs.drop off).take (d.sz + e.sz) = _
    rw [List.take_add, List.drop_drop]⟩
theorem dec_struct {α : Type} {d : Kd α} {wf : α → Prop} {fs : Array Field} (ht : P.underlying t = some (.struct fs)) (hc : P.cellsOf t = d.sz) (h : DecF P n fs.toList 0 d wf) : DecN P (n + 1) t d wf :=
  ⟨hc.symm, fun enc w cs x hx => by
    obtain ⟨xs, m, hm, _, hl, hxl, hf⟩ := DataW.trod_struct ht hx
    obtain rfl : n = m := by omega
    obtain ⟨a, hK, hw⟩ := h.rd enc w cs fun i f hi => by
      have hi' : fs[i]? = some f := by simpa using hi
      have := hf i f hi'
      have hlt : i < xs.length := by
        rw [hxl]
        rcases Nat.lt_or_ge i fs.size with h | h
        · exact h
        · rw [Array.getElem?_eq_none h] at hi'; cases hi'
      exact ⟨xs[i], by rw [this, List.getElem?_eq_getElem hlt]⟩
    refine ⟨a, ?_, hw⟩
    have e : (cs.drop 0).take d.sz = cs := by rw [List.drop_zero]; exact List.take_of_length_le (by rw [hl, hc]; exact Nat.le_refl _)
    rw [e] at hK; exact hK⟩
theorem dec_iso {α β : Type} {d : Kd α} {wf : α → Prop} (f : β → α) (g : α → β) (hfg : ∀ a, f (g a) = a) (h : DecN P n t d wf) : DecN P n t (Kd.iso d f) fun b => wf (f b) :=
  ⟨h.sz, fun enc w cs x hx => by
    obtain ⟨a, hK, hw⟩ := h.rd enc w cs x hx
    exact ⟨g a, by show d.K w (f (g a)) cs; rw [hfg]; exact hK, by rw [hfg]; exact hw⟩⟩
theorem dec_weak {α : Type} {d : Kd α} {wf wg : α → Prop} (h : DecN P n t d wf) (hw : ∀ a, wf a → wg a) : DecN P n t d wg :=
  ⟨h.sz, fun enc w cs x hx => let ⟨a, hK, h1⟩ := h.rd enc w cs x hx; ⟨a, hK, hw a h1⟩⟩
/-- At whatever depth. -/
theorem Trod.dec {α : Type} {d : Kd α} {wf : α → Prop} (h : ∀ n, DecN P n t d wf) {H : Type} {enc : TypeId × Value → H} {w : World} {v : Value} {x : DataW H} {ps : List MemPlace} (ht : DataW.Trod enc P w 0 (fun _ => true) true t v x ps) :
    ∃ a, d.K w a v.cells.toList ∧ wf a := by
  obtain ⟨fuel, hf⟩ := ht
  exact (h fuel).rd enc w _ _ hf
/-- At depth 0 nothing is read. -/
theorem dec_zero {α : Type} {d : Kd α} {wf : α → Prop} (hs : d.sz = P.cellsOf t) : DecN P 0 t d wf := ⟨hs, fun enc w cs x h => by simp [DataW.trod] at h⟩
theorem dec_all {α : Type} {d : Kd α} {wf : α → Prop} (hs : d.sz = P.cellsOf t) (h : ∀ n, DecN P (n + 1) t d wf) : ∀ n, DecN P n t d wf
  | 0 => dec_zero hs
  | n + 1 => h n
end Go.Proofs.YtfphabkdgdgnbaaGreatDoor.Dec
