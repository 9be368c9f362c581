import Derived.Test.YtfphabkdgdgnbaaGreatDoorAE5
set_option linter.unusedVariables false
set_option linter.unusedSimpArgs false
namespace Go.Proofs.YtfphabkdgdgnbaaGreatDoor.AE
open Go Go.RowKit

section
variable {P : Program} {B : Nat} {w0 : World} {σ : Sg} {H : AH} {w : World} {G : Gl}

/-! maps -/
def aMakeMap (H : AH) : AV × AH := (.mp H.length, H ++ [.map [] 0])
theorem makeMap_ok (h : WR B w0 σ H w) (t : TypeId) : OK1 P B w0 σ w (Instr.makeMap t none) (aMakeMap H) := by
  refine ⟨_, _, .map (some w.heap.size), List.prefix_append σ [(w.heap.size, 0)], h.alloc (O := .map #[] 0) (n := 0) fun σ' hp => ⟨h.size, #[], rfl, trivial⟩, ?_, ?_⟩
  · simp [aMakeMap, AV.conc, last_sg h]
  · simp [Instr.makeMap]

def afind (kind : TypeDesc) (k : Value) : List (Value × AV × Nat) → Nat → Option (Option (Nat × AV))
  | [], _ => some none
  | (key, a, _) :: es, i =>
    match Instr.sameNow kind k key with
    | some true => some (some (i, a))
    | some false => afind kind k es (i + 1)
    | none => none
theorem find_ok {σ : Sg} {kind : TypeDesc} {k : Value} : ∀ {es : List (Value × AV × Nat)} {ms : List MapEntry} {i : Nat} {r : Option (Nat × AV)}, EntsR σ es ms → afind kind k es i = some r →
    match r with
    | none => Instr.findNow kind k ms i = some none
    | some (j, a) => i ≤ j ∧ ∃ v m, a.conc σ = some v ∧ Instr.findNow kind k ms i = some (some (j, v)) ∧ ms[j - i]? = some m ∧ Instr.sameNow kind k m.key = some true
  | [], [], i, r, hE, hr => by simp only [afind, Option.some.injEq] at hr; subst hr; rfl
  | (key, a, b) :: es, m :: ms, i, r, ⟨h1, h2, h3, h4⟩, hr => by
    simp only [afind] at hr
    split at hr
    · rename_i hs
      simp only [Option.some.injEq] at hr; subst hr
      refine ⟨Nat.le_refl _, m.val, m, h2, ?_, by simp, by rw [h1]; exact hs⟩
      simp only [Instr.findNow, h1, hs]
    · rename_i hs
      have ih := find_ok h4 hr
      cases r with
      | none => simp only [Instr.findNow, h1, hs]; exact ih
      | some x =>
        obtain ⟨j, a'⟩ := x
        obtain ⟨hle, v, m', hv, hf, hm, hsm⟩ := ih
        refine ⟨by omega, v, m', hv, ?_, ?_, hsm⟩
        · simp only [Instr.findNow, h1, hs]; exact hf
        · have : j - i = (j - (i + 1)) + 1 := by omega
          rw [this]; simpa using hm
    · cases hr
  | [], _ :: _, _, _, hE, _ => hE.elim
  | _ :: _, [], _, _, hE, _ => hE.elim

def aLookup (P : Program) (t : TypeId) (a k : AV) (ok : Bool) (H : AH) : Option AV :=
  match a, k.toV?, pureRun P (underlying t) with
  | .mp id, some kv, some (.map key elem) =>
    match H[id]?, pureRun P (underlying key) with
    | some (.map es _), some kind =>
      (pureRun P (Instr.checkKey es.isEmpty 10000 key kv)).bind fun _ => (afind kind kv es 0).bind fun r =>
        match r with
        | some (_, v) => some (if ok then .tup [v, .v (.bool true)] else v)
        | none => (pureRun P (zeroValue elem)).map fun z => if ok then .tup [.v z, .v (.bool false)] else .v z
    | _, _ => none
  | _, _, _ => none
theorem ents_empty {σ : Sg} : ∀ {es : List (Value × AV × Nat)} {ms : Array MapEntry}, EntsR σ es ms.toList → ms.isEmpty = es.isEmpty
  | [], ms, h => by
    cases hm : ms.toList with
    | nil =>
      have : ms = #[] := by apply Array.ext'; simpa using hm
      subst this; rfl
    | cons x xs => rw [hm] at h; exact h.elim
  | e :: es, ms, h => by
    cases hm : ms.toList with
    | nil => rw [hm] at h; exact h.elim
    | cons x xs =>
      have : ms ≠ #[] := fun e => by subst e; simp at hm
      simp [Array.isEmpty_iff, this]
theorem lookup_ok (h : WR B w0 σ H w) {t : TypeId} {a k r : AV} {ok : Bool} {x y : Value} (hx : a.conc σ = some x) (hy : k.conc σ = some y) (hr : aLookup P t a k ok H = some r) :
    OKp P σ w (Instr.lookup t x y ok) r := by
  unfold aLookup at hr
  split at hr
  · rename_i id kv key elem hkv hu
    have e := toV_conc σ k hkv hy
    subst e
    split at hr
    · rename_i es clock kind ho hk
      simp only [Option.bind_eq_some_iff] at hr
      obtain ⟨u, hck, f, hf, hr⟩ := hr
      simp only [AV.conc, Option.map_eq_some_iff] at hx
      obtain ⟨p, hp, rfl⟩ := hx
      obtain ⟨_, ms, hms, hE⟩ := h.obj id _ p ho hp
      have hF := find_ok hE hf
      have hck' := pureRun_run hck w
      have hemp := ents_empty hE
      have hget : (getObj p.1).run P w = .ok (.map ms clock) w := by simp [getObj, Sem.run, hms]
      split at hr
      · rename_i j v
        simp only [Option.some.injEq] at hr; subst hr
        obtain ⟨_, v', m, hv, hfn, _, _⟩ := hF
        refine OK1.pure h (v := if ok then .tuple #[v', .bool true] else v') (by cases ok <;> simp [AV.conc, concL, hv]) ?_
        simp only [Instr.lookup, Sem.run_bind, pureRun_run hu w, Result.andThen_ok, hget, Sem.run_pure, hemp, hck']
        simp only [Instr.findKey, Sem.run_bind, pureRun_run hk w, Result.andThen_ok, hfn, Sem.run_pure]
      · simp only [Option.map_eq_some_iff] at hr
        obtain ⟨z, hz, rfl⟩ := hr
        refine OK1.pure h (v := if ok then .tuple #[z, .bool false] else z) (by cases ok <;> simp [AV.conc, concL]) ?_
        simp only [Instr.lookup, Sem.run_bind, pureRun_run hu w, Result.andThen_ok, hget, Sem.run_pure, hemp, hck']
        simp only [Instr.findKey, Sem.run_bind, pureRun_run hk w, Result.andThen_ok, hF, Sem.run_pure, pureRun_run hz w]
    · cases hr
  · cases hr

theorem sameNow_bits {kind : TypeDesc} {k key : Value} (h : Instr.sameNow kind k key = some true) (w : World) : (Instr.keyThatStays key k).run P w = .ok k w := by
  have hb : ∀ n, Instr.sameBits n key k = true := by
    intro n
    unfold Instr.sameNow at h
    split at h
    · rename_i kk a k2 b
      split at h
      · rename_i hk
        subst hk
        simp only [Option.some.injEq, beq_iff_eq] at h; subst h
        cases n <;> simp [Instr.sameBits]
      · cases h
    · rename_i a b
      simp only [Option.some.injEq] at h
      have hab : a = b := by
        cases a with | mk x => cases b with | mk y =>
        have h' : (x == y) = true := h
        rw [eq_of_beq h']
      subst hab
      cases n <;> (simp [Instr.sameBits]; exact h)
    · simp only [Option.some.injEq] at h
      have := eq_of_beq h; subst this
      cases n <;> simp [Instr.sameBits]
    · cases h
  simp [Instr.keyThatStays, hb]

theorem ents_set {σ : Sg} {k : Value} {a : AV} {v : Value} (hv : a.conc σ = some v) : ∀ {es : List (Value × AV × Nat)} {ms : List MapEntry} {j : Nat} {b : Nat}, EntsR σ es ms → (es[j]?).map (·.2.2) = some b →
    EntsR σ (es.set j (k, a, b)) (ms.modify j fun e => { e with key := k, val := v })
  | [], [], j, b, hE, hb => by simp at hb
  | (k', a', b') :: es, m :: ms, 0, b, ⟨h1, h2, h3, h4⟩, hb => by
    simp at hb; subst hb
    simp only [List.set_cons_zero, List.modify_zero_cons]
    exact ⟨rfl, hv, h3, h4⟩
  | (k', a', b') :: es, m :: ms, j + 1, b, ⟨h1, h2, h3, h4⟩, hb => by
    simp only [List.set_cons_succ, List.modify_succ_cons]
    exact ⟨h1, h2, h3, ents_set hv h4 (by simpa using hb)⟩
  | [], _ :: _, _, _, hE, _ => hE.elim
  | _ :: _, [], _, _, hE, _ => hE.elim
theorem ents_push {σ : Sg} {k : Value} {a : AV} {v : Value} (hv : a.conc σ = some v) (b : Nat) : ∀ {es : List (Value × AV × Nat)} {ms : List MapEntry}, EntsR σ es ms →
    EntsR σ (es ++ [(k, a, b)]) (ms ++ [{ key := k, val := v, born := b }])
  | [], [], _ => ⟨rfl, hv, rfl, trivial⟩
  | (k', a', b') :: es, m :: ms, ⟨h1, h2, h3, h4⟩ => ⟨h1, h2, h3, ents_push hv b h4⟩
  | [], _ :: _, hE => hE.elim
  | _ :: _, [], hE => hE.elim
theorem ents_get {σ : Sg} : ∀ {es : List (Value × AV × Nat)} {ms : List MapEntry} {j : Nat}, EntsR σ es ms → (es[j]?).map (·.2.2) = (ms[j]?).map (·.born)
  | [], [], j, _ => by simp
  | (k', a', b') :: es, m :: ms, 0, ⟨h1, h2, h3, h4⟩ => by simp [h3]
  | (k', a', b') :: es, m :: ms, j + 1, ⟨h1, h2, h3, h4⟩ => by simpa using ents_get h4
  | [], _ :: _, _, hE => hE.elim
  | _ :: _, [], _, hE => hE.elim

def aMapUpdate (P : Program) (t : TypeId) (a k v : AV) (H : AH) : Option AH :=
  match a, k.toV?, pureRun P (underlying t) with
  | .mp id, some kv, some (.map key elem) =>
    match H[id]?, pureRun P (underlying key) with
    | some (.map es clock), some kind =>
      (pureRun P (Instr.checkKey false 10000 key kv)).bind fun _ => (afind kind kv es 0).bind fun r =>
        match r with
        | some (j, _) => ((es[j]?).map (·.2.2)).map fun b => H.set id (.map (es.set j (kv, v, b)) clock)
        | none => some (H.set id (.map (es ++ [(kv, v, clock)]) (clock + 1)))
    | _, _ => none
  | _, _, _ => none
theorem mapUpdate_ok (h : WR B w0 σ H w) {t : TypeId} {a k v : AV} {x y z : Value} (hx : a.conc σ = some x) (hy : k.conc σ = some y) (hz : v.conc σ = some z) {H' : AH} (hr : aMapUpdate P t a k v H = some H') :
    OKU P B w0 σ w (Instr.mapUpdate t x y z) H' := by
  unfold aMapUpdate at hr
  split at hr
  · rename_i id kv key elem hkv hu
    have e := toV_conc σ k hkv hy
    subst e
    split at hr
    · rename_i es clock kind ho hk
      simp only [Option.bind_eq_some_iff] at hr
      obtain ⟨u, hck, f, hf, hr⟩ := hr
      simp only [AV.conc, Option.map_eq_some_iff] at hx
      obtain ⟨p, hp, rfl⟩ := hx
      obtain ⟨hB, ms, hms, hE⟩ := h.obj id _ p ho hp
      have hF := find_ok hE hf
      have hck' := pureRun_run hck w
      have hget : (getObj p.1).run P w = .ok (.map ms clock) w := by simp [getObj, Sem.run, hms]
      have hplt : p.1 < w.heap.size := by
        rcases Nat.lt_or_ge p.1 w.heap.size with h' | h'
        · exact h'
        · rw [Array.getElem?_eq_none h'] at hms; cases hms
      have hset : ∀ O : Obj, (setObj p.1 O).run P w = .ok () { w with heap := w.heap.setIfInBounds p.1 O } := fun O => by simp [setObj, Sem.run, hms]
      have hwr : ∀ (O : Obj) (o' : AObj), ObjR σ B p (some O) o' → WR B w0 σ (H.set id o') { w with heap := w.heap.setIfInBounds p.1 O } := fun O o' hO => by
        refine h.write ho rfl hp rfl rfl rfl (by simp) (fun q hq => by simp [Array.getElem?_setIfInBounds]; intro e; exact absurd e.symm hq) ?_
        simpa [hplt] using hO
      split at hr
      · rename_i j a'
        simp only [Option.map_eq_some_iff] at hr
        obtain ⟨b, ⟨ent, hent, hb⟩, rfl⟩ := hr
        obtain ⟨_, v', m, hv, hfn, hm, hsm⟩ := hF
        have hmj : ms[j]? = some m := by simpa using hm
        refine ⟨_, hwr (.map (ms.modify j fun e => { e with key := y, val := z }) clock) (.map (es.set j (y, v, b)) clock) ⟨hB, _, rfl, ?_⟩, ?_⟩
        · rw [Array.toList_modify]
          exact ents_set hz hE (by simp [hent, hb])
        · simp only [Instr.mapUpdate, Sem.run_bind, pureRun_run hu w, Result.andThen_ok, hget, hck']
          simp only [Instr.findKey, Sem.run_bind, pureRun_run hk w, Result.andThen_ok, hfn, Sem.run_pure, hmj, Option.map_some, Option.getD_some, sameNow_bits hsm, hset]
      · simp only [Option.some.injEq] at hr; subst hr
        refine ⟨_, hwr (.map (ms.push { key := y, val := z, born := clock }) (clock + 1)) (.map (es ++ [(y, v, clock)]) (clock + 1)) ⟨hB, _, rfl, ?_⟩, ?_⟩
        · rw [Array.toList_push]; exact ents_push hz clock hE
        · simp only [Instr.mapUpdate, Sem.run_bind, pureRun_run hu w, Result.andThen_ok, hget, hck']
          simp only [Instr.findKey, Sem.run_bind, pureRun_run hk w, Result.andThen_ok, hF, Sem.run_pure, hset]
    · cases hr
  · cases hr

/-! ranging over a string -/
def aRange (P : Program) (t : TypeId) (a : AV) (H : AH) : Option (AV × AH) :=
  match a, pureRun P (underlying t) with
  | .v (.string s), some .string => some (.ptr H.length 0, H ++ [.siter s 0])
  | _, _ => none
theorem range_ok (h : WR B w0 σ H w) {t : TypeId} {a : AV} {x : Value} (hx : a.conc σ = some x) {r : AV × AH} (hr : aRange P t a H = some r) : OK1 P B w0 σ w (Instr.range t x) r := by
  unfold aRange at hr
  split at hr
  · rename_i s hu
    simp only [AV.conc, Option.some.injEq] at hx hr; subst hx hr
    refine ⟨_, _, .pointer (some ⟨w.heap.size, 0, none⟩), List.prefix_append σ [(w.heap.size, 0)], h.alloc (O := .stringIter s 0) (n := 0) fun σ' hp => ⟨h.size, rfl⟩, ?_, ?_⟩
    · simp [AV.conc, last_sg h]
    · simp [Instr.range, pureRun_run hu w]
  · cases hr
def aNext (a : AV) (isString : Bool) (H : AH) : Option (AV × AH) :=
  match a, isString with
  | .ptr id 0, true => match H[id]? with
    | some (.siter s pos) =>
      if pos < s.size then
        match Utf8.decode s pos with
        | (c, width) => some (.tup [.v (.bool true), .v (goInt pos), .v (.int .i32 c)], H.set id (.siter s (pos + width)))
      else some (.tup [.v (.bool false)], H)
    | _ => none
  | _, _ => none
theorem next_ok (h : WR B w0 σ H w) {a : AV} {is : Bool} {x : Value} (t : TypeId) (hx : a.conc σ = some x) {r : AV × AH} (hr : aNext a is H = some r) : OK1 P B w0 σ w (Instr.next x is t) r := by
  unfold aNext at hr
  split at hr
  · rename_i id
    simp only [AV.conc, Option.map_eq_some_iff] at hx
    obtain ⟨p, hp, rfl⟩ := hx
    split at hr
    · rename_i s pos ho
      obtain ⟨hB, hms⟩ := h.obj id _ p ho hp
      have hget : (getObj p.1).run P w = .ok (.stringIter s pos) w := by simp [getObj, Sem.run, hms]
      have hplt : p.1 < w.heap.size := by
        rcases Nat.lt_or_ge p.1 w.heap.size with h' | h'
        · exact h'
        · rw [Array.getElem?_eq_none h'] at hms; cases hms
      split at hr
      · rename_i hlt
        generalize hd : Utf8.decode s pos = d at hr
        obtain ⟨c, width⟩ := d
        simp only [Option.some.injEq] at hr; subst hr
        have hset : (setObj p.1 (.stringIter s (pos + width))).run P w = .ok () { w with heap := w.heap.setIfInBounds p.1 (.stringIter s (pos + width)) } := by simp [setObj, Sem.run, hms]
        refine ⟨σ, { w with heap := w.heap.setIfInBounds p.1 (.stringIter s (pos + width)) }, .tuple #[.bool true, goInt pos, .int .i32 c], List.prefix_rfl, ?_, by simp [AV.conc, concL], ?_⟩
        · refine h.write ho rfl hp rfl rfl rfl (by simp) (fun q hq => by simp [Array.getElem?_setIfInBounds]; intro e; exact absurd e.symm hq) ?_
          exact ⟨hB, by simp [hplt]⟩
        · simp only [Instr.next, Sem.run_bind, hget, Result.andThen_ok, hlt, if_true, hd, hset, Sem.run_pure]
      · rename_i hlt
        simp only [Option.some.injEq] at hr; subst hr
        refine OK1.of h ⟨.tuple #[.bool false], by simp [AV.conc, concL], ?_⟩
        simp only [Instr.next, Sem.run_bind, hget, Result.andThen_ok, hlt, if_false, Sem.run_pure]
    · cases hr
  · cases hr

def aExtract (a : AV) (i : Nat) : Option AV :=
  match a with
  | .tup vs => vs[i]?
  | .v (.tuple vs) => (vs[i]?).map .v
  | _ => none
theorem extract_ok (h : WR B w0 σ H w) {a r : AV} {i : Nat} {x : Value} (hx : a.conc σ = some x) (hr : aExtract a i = some r) : OKp P σ w (Instr.extract x i) r := by
  unfold aExtract at hr
  split at hr
  · simp only [AV.conc, Option.map_eq_some_iff] at hx
    obtain ⟨l, hl, rfl⟩ := hx
    obtain ⟨v, hv, hc⟩ := concL_get hl hr
    exact OK1.pure h hv (by simp [Instr.extract, hc])
  · simp only [AV.conc, Option.some.injEq] at hx; subst hx
    simp only [Option.map_eq_some_iff] at hr
    obtain ⟨v, hv, rfl⟩ := hr
    exact OK1.pure h (v := v) (by simp [AV.conc]) (by simp [Instr.extract, hv])
  · cases hr
end
end Go.Proofs.YtfphabkdgdgnbaaGreatDoor.AE
