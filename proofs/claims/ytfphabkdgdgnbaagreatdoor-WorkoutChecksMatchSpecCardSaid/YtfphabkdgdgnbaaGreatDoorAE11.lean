import Derived.Test.YtfphabkdgdgnbaaGreatDoorAE10
set_option linter.unusedVariables false
set_option linter.unusedSimpArgs false
namespace Go.Proofs.YtfphabkdgdgnbaaGreatDoor.AE
open Go Go.RowKit

theorem take_get {σ : Sg} {n i : Nat} {p : Nat × Nat} (hi : i < n) (h : σ[i]? = some p) : (σ.take n)[i]? = some p := by
  rw [List.getElem?_take, if_pos hi]; exact h
mutual
theorem lt_conc {σ : Sg} {n : Nat} : ∀ (a : AV) {v : Value}, a.lt n = true → a.conc σ = some v → a.conc (σ.take n) = some v
  | .v x, v, _, e => by simpa [AV.conc] using e
  | .ptr id off, v, h, e => by
    simp only [AV.conc, Option.map_eq_some_iff] at e ⊢
    obtain ⟨p, hp, e⟩ := e; exact ⟨p, take_get (of_blt h) hp, e⟩
  | .slc id off size len cap, v, h, e => by
    simp only [AV.conc, Option.bind_eq_some_iff] at e ⊢
    obtain ⟨p, hp, e⟩ := e; exact ⟨p, take_get (of_blt h) hp, e⟩
  | .agg cs, v, h, e => by
    simp only [AV.conc, Option.map_eq_some_iff] at e ⊢
    obtain ⟨p, hp, e⟩ := e; exact ⟨p, ltL_conc cs (by simpa [AV.lt] using h) hp, e⟩
  | .tup cs, v, h, e => by
    simp only [AV.conc, Option.map_eq_some_iff] at e ⊢
    obtain ⟨p, hp, e⟩ := e; exact ⟨p, ltL_conc cs (by simpa [AV.lt] using h) hp, e⟩
  | .fn f a b, v, h, e => by
    simp only [AV.lt, Bool.and_eq_true] at h
    simp only [AV.conc, Option.bind_eq_some_iff, Option.map_eq_some_iff] at e ⊢
    obtain ⟨p, hp, q, hq, e⟩ := e; exact ⟨p, ltL_conc a h.1 hp, q, ltL_conc b h.2 hq, e⟩
  | .ifc t x, v, h, e => by
    simp only [AV.conc, Option.map_eq_some_iff] at e ⊢
    obtain ⟨p, hp, e⟩ := e; exact ⟨p, lt_conc x (by simpa [AV.lt] using h) hp, e⟩
  | .mp id, v, h, e => by
    simp only [AV.conc, Option.map_eq_some_iff] at e ⊢
    obtain ⟨p, hp, e⟩ := e; exact ⟨p, take_get (of_blt h) hp, e⟩
theorem ltL_conc {σ : Sg} {n : Nat} : ∀ (l : List AV) {v : List Value}, ltL n l = true → concL σ l = some v → concL (σ.take n) l = some v
  | [], v, _, e => by simpa [concL] using e
  | a :: l, v, h, e => by
    simp only [ltL, Bool.and_eq_true] at h
    simp only [concL, Option.bind_eq_some_iff, Option.map_eq_some_iff] at e ⊢
    obtain ⟨p, hp, q, hq, e⟩ := e; exact ⟨p, lt_conc a h.1 hp, q, ltL_conc l h.2 hq, e⟩
end
theorem ltL_get {n : Nat} : ∀ {l : List AV} {i : Nat} {a : AV}, ltL n l = true → l[i]? = some a → a.lt n = true
  | [], i, a, _, h => by simp at h
  | b :: l, 0, a, h, e => by simp only [ltL, Bool.and_eq_true] at h; simp at e; subst e; exact h.1
  | b :: l, i + 1, a, h, e => by simp only [ltL, Bool.and_eq_true] at h; simp at e; exact ltL_get h.2 e
theorem ltE_ents {σ : Sg} {n : Nat} : ∀ {es : List (Value × AV × Nat)} {ms : List MapEntry}, ltE n es = true → EntsR σ es ms → EntsR (σ.take n) es ms
  | [], [], _, _ => trivial
  | (k, a, b) :: es, m :: ms, h, ⟨h1, h2, h3, h4⟩ => by
    simp only [ltE, Bool.and_eq_true] at h
    exact ⟨h1, lt_conc a h.1 h2, h3, ltE_ents h.2 h4⟩
  | [], _ :: _, _, r => r.elim
  | _ :: _, [], _, r => r.elim
theorem obj_lt {σ : Sg} {B n : Nat} {p : Nat × Nat} {x : Option Obj} : ∀ {o : AObj}, o.lt n = true → ObjR σ B p x o → ObjR (σ.take n) B p x o
  | .cells cs e, h, ⟨h0, c, h1, h2, h3, h4⟩ => ⟨h0, c, h1, h2, h3, fun j a ha => let ⟨v, hv, hc⟩ := h4 j a ha; ⟨v, lt_conc a (ltL_get h ha) hv, hc⟩⟩
  | .ro cs e, h, ⟨h0, c, fr, h1, h2, h3, h4⟩ => ⟨h0, c, fr, h1, h2, h3, fun j a ha => let ⟨v, hv, hc⟩ := h4 j a ha; ⟨v, lt_conc a (ltL_get h ha) hv, hc⟩⟩
  | .map es cl, h, ⟨h0, c, h1, h3⟩ => ⟨h0, c, h1, ltE_ents h h3⟩
  | .siter s pos, _, r => r
  | .dead, _, _ => trivial

section
variable {P : Program} {B : Nat} {w0 : World} {G : Gl} {ds : List Deferred}

theorem trim_ok {σ σ' : Sg} {H : AH} {w w' : World} (h : WR B w0 σ H w) (hp : σ <+: σ') {r : AV × AH} (hw : WR B w0 σ' r.2 w') {v : Value} (hv : r.1.conc σ' = some v) :
    ∃ σ2, σ <+: σ2 ∧ WR B w0 σ2 (aTrim H.length r).2 w' ∧ (aTrim H.length r).1.conc σ2 = some v := by
  unfold aTrim
  cases hb : (Nat.blt H.length r.2.length && r.1.lt H.length && (r.2.take H.length).all (AObj.lt H.length)) with
  | false => exact ⟨σ', hp, hw, hv⟩
  | true =>
    simp only [Bool.and_eq_true] at hb
    obtain ⟨⟨h1, h2⟩, h3⟩ := hb
    have h1 := of_blt h1
    refine ⟨σ'.take H.length, ?_, ⟨hw.below, hw.size, ?_, ?_, ?_⟩, lt_conc _ h2 hv⟩
    · obtain ⟨t, rfl⟩ := hp
      rw [← h.len, List.take_left']
      · exact List.prefix_rfl
      · rfl
    · simp [hw.len]
    · intro i o p ho hq
      simp only [cond_true] at ho
      have hall := List.all_eq_true.1 h3 o (List.mem_of_getElem? ho)
      rw [List.getElem?_take] at ho hq
      split at ho
      · rename_i hlt
        rw [if_pos hlt] at hq
        exact obj_lt hall (hw.obj i o p ho hq)
      · cases ho
    · intro i j o o' p q ho ho' hq hq' l1 l2 e
      simp only [cond_true] at ho ho'
      rw [List.getElem?_take] at ho hq ho' hq'
      split at ho
      · rename_i hlt
        rw [if_pos hlt] at hq
        split at ho'
        · rename_i hlt'
          rw [if_pos hlt'] at hq'
          exact hw.inj i j o o' p q ho ho' hq hq' l1 l2 e
        · cases ho'
      · cases ho

theorem args_ok {σ : Sg} {n : Nat} : ∀ {args : List AV} {vs : List Value} {i : Nat} {T T' : PT} {a : Act}, concL σ args = some vs → TR σ n T a.tmps → aArgs n args i T = some T' → (∀ j v, vs[j]? = some v → a.tmps[i + j]? = some v) → TR σ n T' a.tmps
  | [], vs, i, T, T', a, _, hT, h, _ => by simp only [aArgs, Option.some.injEq] at h; subst h; exact hT
  | b :: l, vs, i, T, T', a, hv, hT, h, hk => by
    simp only [concL, Option.bind_eq_some_iff, Option.map_eq_some_iff] at hv
    obtain ⟨x, hx, y, hy, rfl⟩ := hv
    simp only [aArgs, Option.bind_eq_some_iff] at h
    obtain ⟨T1, h1, h⟩ := h
    have h0 := hk 0 x (by simp)
    have hsame : (a.put (some i) x).tmps = a.tmps := by
      simp only [Act.put]
      have hlt : i < a.tmps.size := by
        rcases Nat.lt_or_ge i a.tmps.size with h' | h'
        · exact h'
        · rw [Array.getElem?_eq_none (by omega)] at h0; cases h0
      apply Array.ext_getElem?
      intro j
      by_cases e : i = j
      · subst e; rw [Array.getElem?_setIfInBounds]; simp only [if_true, hlt]; simpa using h0.symm
      · rw [Array.getElem?_setIfInBounds_ne e]
    have hT1 := put_ok (a := a) hT hx h1
    rw [hsame] at hT1
    exact args_ok hy hT1 h fun j v hj => by
      have := hk (j + 1) v (by simpa using hj)
      rwa [show i + (j + 1) = i + 1 + j by omega] at this

def resOf (tmps : Array Value) : ResultVar → Sem Value
  | .tmp t => pure (tmps.getD t undef)
  | .cell b t => do loadVar t (← asAddr (tmps.getD b undef))
theorem res_list {σ : Sg} {n : Nat} {st : AS} {a : Act} {w : World} (hG : GOK B w0 G) (hs : SR ds B w0 σ n st a w) : ∀ {rs : List ResultVar} {as : List AV}, aRes P G st rs = some as →
    ∃ vs, concL σ as = some vs ∧ (rs.mapM (resOf a.tmps)).run P w = .ok vs w
  | [], as, h => by simp only [aRes, Option.some.injEq] at h; subst h; exact ⟨[], rfl, by simp⟩
  | .tmp t :: l, as, h => by
    simp only [aRes, Option.bind_eq_some_iff, Option.map_eq_some_iff] at h
    obtain ⟨b, hb, r, hr, rfl⟩ := h
    obtain ⟨vs, h1, h2⟩ := res_list hG hs hr
    obtain ⟨v, hv, hc⟩ := hs.tr.2 t b hb
    refine ⟨v :: vs, by simp [concL, hv, h1], ?_⟩
    simp only [List.mapM_cons, Sem.run_bind, resOf, Sem.run_pure, Result.andThen_ok, Array.getD_eq_getD_getElem?, hc, Option.getD_some]
    rw [h2]; rfl
  | .cell b t :: l, as, h => by
    simp only [aRes, Option.bind_eq_some_iff] at h
    obtain ⟨x, hx, h⟩ := h
    split at h
    · rename_i id off
      simp only [Option.bind_eq_some_iff, Option.map_eq_some_iff] at h
      obtain ⟨y, hy, r, hr, rfl⟩ := h
      obtain ⟨vs, h1, h2⟩ := res_list hG hs hr
      obtain ⟨v, hv, hc⟩ := hs.tr.2 b _ hx
      simp only [AV.conc, Option.map_eq_some_iff] at hv
      obtain ⟨p, hp, rfl⟩ := hv
      -- the load leaves the world as it was
      obtain ⟨u2, hu2, hrun2⟩ : ∃ u2, y.conc σ = some u2 ∧ (Instr.loadAt t (.pointer (some ⟨p.1, off, none⟩))).run P w = .ok u2 w := by
        have := load_pure (P := P) hG hs.wr (t := t) (addr := .ptr id off) (a := y) (x := .pointer (some ⟨p.1, off, none⟩)) (by simp [AV.conc, hp]) hy
        exact this
      refine ⟨u2 :: vs, by simp [concL, hu2, h1], ?_⟩
      have hl : (loadVar t ⟨p.1, off, none⟩).run P w = .ok u2 w := by simpa [Instr.loadAt, Instr.sureAddr] using hrun2
      simp only [List.mapM_cons, Sem.run_bind, resOf, Array.getD_eq_getD_getElem?, hc, Option.getD_some, asAddr, Sem.run_pure, Result.andThen_ok, hl]
      rw [h2]; rfl
    · cases h

def oneOf : List Value → Value
  | [v] => v
  | vs => .tuple vs.toArray
theorem results_ok {σ : Sg} {n : Nat} {st : AS} {a : Act} {w : World} (hG : GOK B w0 G) (hs : SR ds B w0 σ n st a w) {fn : Func} {as : List AV} (h : aRes P G st fn.results.toList = some as) :
    ∃ vs, concL σ as = some vs ∧ (results fn a.tmps).run P w = .ok (oneOf vs) w := by
  obtain ⟨vs, h1, h2⟩ := res_list hG hs h
  refine ⟨vs, h1, ?_⟩
  have hf : results fn a.tmps = (do let vs ← fn.results.mapM (resOf a.tmps); pure (if h : vs.size = 1 then vs[0] else .tuple vs)) := by
    unfold results
    congr 2
  rw [hf]
  simp only [Array.mapM_eq_mapM_toList, Sem.run_bind, Sem.run_map]
  rw [h2]
  simp only [Result.andThen_ok, Sem.run_pure]
  match vs with
  | [] => simp [oneOf]
  | [v] => simp [oneOf]
  | v :: u :: l => simp [oneOf]

/-- What is asked of a run. -/
def XR : Exit → AX → Prop
  | .normal, .normal => True
  | .exit i, .exit j => i = j
  | .ret, .ret => True
  | _, _ => False
def RunOK (P : Program) (B : Nat) (w0 : World) (run : RunF) : Prop :=
  ∀ (n : Nat) (c : Code) (st : AS) (e : AX) (st' : AS), run n c st = some (e, st') → ∀ {ds : List Deferred} (σ : Sg) (a : Act) (w : World), SR ds B w0 σ n st a w →
    c.wp P (fun x a' w' => XR x e ∧ ∃ σ', σ <+: σ' ∧ SR ds B w0 σ' n st' a' w') a w
def DrawOK (P : Program) (B : Nat) (w0 : World) (draw : Nat → Array Oper → AS → Option (List AS)) : Prop :=
  ∀ (n id : Nat) (ops : Array Oper) (st : AS) (l : List AS), draw n ops st = some l → ∀ {ds : List Deferred} (σ : Sg) (a : Act) (w : World), SR ds B w0 σ n st a w →
    (Code.region id ops true).wp P (fun x a' w' => XR x .normal ∧ ∃ st' ∈ l, ∃ σ', σ <+: σ' ∧ SR ds B w0 σ' n st' a' w') a w

theorem meetPT_get : ∀ (x y : PT) (t : Nat) (a : AV), (meetPT x y).get t = some a → x.get t = some a ∧ y.get t = some a
  | .node p l r, .node q l' r', t, a, h => by
    simp only [meetPT, PT.get] at h ⊢
    cases h0 : Nat.beq t 0 with
    | true =>
      simp only [h0, cond_true] at h ⊢
      cases he : eqOA' p q with
      | true => simp only [he, cond_true] at h; exact ⟨h, by rw [← eqOA'_ok he]; exact h⟩
      | false => simp [he] at h
    | false =>
      simp only [h0, cond_false] at h ⊢
      cases h1 : Nat.beq (t % 2) 1 with
      | true => simp only [h1, cond_true] at h ⊢; exact meetPT_get l l' _ a h
      | false => simp only [h1, cond_false] at h ⊢; exact meetPT_get r r' _ a h
  | .nil, y, t, a, h => by simp [meetPT, PT.get] at h
  | .node .., .nil, t, a, h => by simp [meetPT, PT.get] at h
theorem meetH_get : ∀ (x y : AH) (i : Nat) (o : AObj), (meetH x y)[i]? = some o → o.live = true → x[i]? = some o ∧ y[i]? = some o
  | [], m, i, o, h, hl => by
    simp only [meetH, List.getElem?_map, Option.map_eq_some_iff] at h
    obtain ⟨_, _, rfl⟩ := h; simp [AObj.live] at hl
  | a :: l, b :: m, 0, o, h, hl => by
    simp only [meetH, List.getElem?_cons_zero, Option.some.injEq] at h
    cases he : eqObj a b with
    | true => simp only [he, cond_true] at h; subst h; simp [eqObj_ok he]
    | false => simp only [he, cond_false] at h; subst h; simp [AObj.live] at hl
  | a :: l, b :: m, i + 1, o, h, hl => by simp [meetH] at h; simpa using meetH_get l m i o h hl
  | a :: l, [], 0, o, h, hl => by simp [meetH] at h; subst h; simp [AObj.live] at hl
  | a :: l, [], i + 1, o, h, hl => by
    simp [meetH] at h
    have := meetH_get l [] i o h hl
    simp at this
theorem meetH_len : ∀ (x y : AH), (meetH x y).length = max x.length y.length
  | [], m => by simp [meetH]
  | a :: l, b :: m => by simp [meetH, meetH_len l m]
  | a :: l, [] => by simp [meetH, meetH_len l []]
theorem SR.meet_any {σ : Sg} {n : Nat} {st st' : AS} {a : Act} {w : World} (hs : SR ds B w0 σ n st a w) (hT : ∀ t b, st'.T.get t = some b → st.T.get t = some b) (hl : st.H.length ≤ st'.H.length) (hH : ∀ (i : Nat) (o : AObj), st'.H[i]? = some o → o.live = true → st.H[i]? = some o) :
    ∃ σ', σ <+: σ' ∧ SR ds B w0 σ' n st' a w := by
  have hp : σ <+: σ ++ List.replicate (st'.H.length - st.H.length) (0, 0) := List.prefix_append ..
  refine ⟨_, hp, ⟨⟨hs.wr.below, hs.wr.size, by simp [hs.wr.len]; omega, fun i o p ho hq => ?_, fun i j o o' p q h1 h2 hq1 hq2 l1 l2 e => ?_⟩, ⟨hs.tr.1, fun t b hb => ?_⟩, hs.df⟩⟩
  · cases hlv : o.live with
    | false => cases o <;> first | trivial | simp [AObj.live] at hlv
    | true =>
      have h1 := hH i o ho hlv
      obtain ⟨p', hp'⟩ := sg_get hs.wr h1
      have := pre_get hp hp'
      rw [hq] at this; cases this
      exact (hs.wr.obj i o p h1 hp').mono hp
  · have g1 := hH i o h1 l1
    have g2 := hH j o' h2 l2
    obtain ⟨p', hp'⟩ := sg_get hs.wr g1
    obtain ⟨q', hq'⟩ := sg_get hs.wr g2
    have a1 := pre_get hp hp'
    have a2 := pre_get hp hq'
    rw [hq1] at a1; cases a1
    rw [hq2] at a2; cases a2
    exact hs.wr.inj i j o o' p q g1 g2 hp' hq' l1 l2 e
  · obtain ⟨v, h1, h2⟩ := hs.tr.2 t b (hT t b hb)
    exact ⟨v, conc_mono hp b h1, h2⟩
theorem SR.meetL {σ : Sg} {n : Nat} {st st' : AS} {a : Act} {w : World} (hs : SR ds B w0 σ n st a w) : ∃ σ', σ <+: σ' ∧ SR ds B w0 σ' n (meetAS st st') a w :=
  hs.meet_any (fun t b h => (meetPT_get _ _ t b h).1) (by simp only [meetAS, meetH_len]; omega) fun i o h hl => (meetH_get _ _ i o h hl).1
theorem SR.meetR {σ : Sg} {n : Nat} {st st' : AS} {a : Act} {w : World} (hs : SR ds B w0 σ n st' a w) : ∃ σ', σ <+: σ' ∧ SR ds B w0 σ' n (meetAS st st') a w :=
  hs.meet_any (fun t b h => (meetPT_get _ _ t b h).2) (by simp only [meetAS, meetH_len]; omega) fun i o h hl => (meetH_get _ _ i o h hl).2
theorem eqAX_ok : ∀ {a b : AX}, eqAX a b = true → a = b
  | .normal, .normal, _ => rfl
  | .ret, .ret, _ => rfl
  | .exit a, .exit b, h => by rw [Nat.eq_of_beq_eq_true h]
  | .normal, .ret, h => by simp [eqAX] at h
  | .normal, .exit _, h => by simp [eqAX] at h
  | .ret, .normal, h => by simp [eqAX] at h
  | .ret, .exit _, h => by simp [eqAX] at h
  | .exit _, .normal, h => by simp [eqAX] at h
  | .exit _, .ret, h => by simp [eqAX] at h
theorem meets_ok {f : AS → Option (AX × AS)} : ∀ {l : List AS} {e : AX} {st' : AS}, aMeets f l = some (e, st') → ∀ st ∈ l, ∃ s, f st = some (e, s) ∧ ∀ (n : Nat) (σ : Sg) (a : Act) (w : World), SR ds B w0 σ n s a w → ∃ σ', σ <+: σ' ∧ SR ds B w0 σ' n st' a w
  | [], e, st', h => by simp [aMeets] at h
  | [x], e, st', h => by
    intro st hm; simp at hm; subst hm
    exact ⟨st', by simpa [aMeets] using h, fun n σ a w hs => ⟨σ, List.prefix_rfl, hs⟩⟩
  | x :: y :: l, e, st', h => by
    simp only [aMeets] at h
    split at h
    · rename_i e1 s1 e2 s2 h1 h2
      cases he : eqAX e1 e2 with
      | false => simp [he] at h
      | true =>
        simp only [he, cond_true, Option.some.injEq, Prod.mk.injEq] at h
        obtain ⟨rfl, rfl⟩ := h
        have := eqAX_ok he; subst this
        intro st hm
        rcases List.mem_cons.1 hm with rfl | hm
        · exact ⟨s1, h1, fun n σ a w hs => hs.meetL⟩
        · obtain ⟨s, g1, g2⟩ := meets_ok (l := y :: l) h2 st hm
          refine ⟨s, g1, fun n σ a w hs => ?_⟩
          obtain ⟨σ1, p1, hs1⟩ := g2 n σ a w hs
          obtain ⟨σ2, p2, hs2⟩ := hs1.meetR (st := s1)
          exact ⟨σ2, p1.trans p2, hs2⟩
    · cases h
theorem coin_ok {c : Code} {ops : Array Oper} (h : coinOf c = some ops) : ∃ id, c = .region id ops true := by
  unfold coinOf at h
  split at h
  · split at h
    · split at h
      · simp only [Option.some.injEq] at h; subst h; exact ⟨_, rfl⟩
      · cases h
    · cases h
  · cases h

theorem rounds_mono {c : Code} {Q Q' : Exit → Act → World → Prop} (hq : ∀ e a w, Q e a w → Q' e a w) : ∀ {m : Nat} {a : Act} {w : World}, Code.rounds P c Q m a w → Code.rounds P c Q' m a w
  | 0, a, w, h => by simp [Code.rounds] at h
  | m + 1, a, w, h => by
    rw [rounds_succ] at h ⊢
    refine wp_mono h ?_
    intro e a' w' he
    cases e with
    | normal => exact rounds_mono hq he
    | _ => exact hq _ _ _ he
theorem step_ok (hNG : NG P) (hG : GOK B w0 G) {call : CallF} (hc : CallOK P B w0 call) {draw : Nat → Array Oper → AS → Option (List AS)} (hd : DrawOK P B w0 draw) (k : Nat) {ih : RunF} (hih : RunOK P B w0 ih) : RunOK P B w0 (aStep P G call draw k ih) := by
  have seq : ∀ {n : Nat} {c1 c2 : Code} {st : AS} {e : AX} {st' : AS}, aSeq (ih n c1 st) (ih n c2) = some (e, st') → ∀ {ds : List Deferred} (σ : Sg) (a : Act) (w : World), SR ds B w0 σ n st a w →
      c1.wp P (Exit.then (c2.wp P (fun x a' w' => XR x e ∧ ∃ σ', σ <+: σ' ∧ SR ds B w0 σ' n st' a' w')) (fun x a' w' => XR x e ∧ ∃ σ', σ <+: σ' ∧ SR ds B w0 σ' n st' a' w')) a w := by
    intro n c1 c2 st e st' h ds σ a w hs
    unfold aSeq at h
    split at h
    · rename_i st1 h1
      refine wp_mono (hih n c1 st .normal st1 h1 σ a w hs) ?_
      rintro x a' w' ⟨hx, σ1, hp, hs1⟩
      cases x <;> first | exact hx.elim | skip
      refine wp_mono (hih n c2 st1 e st' h σ1 a' w' hs1) ?_
      rintro x a2 w2 ⟨hx, σ2, hp2, hs2⟩
      exact ⟨hx, σ2, hp.trans hp2, hs2⟩
    · rename_i h1
      refine wp_mono (hih n c1 st e st' h σ a w hs) ?_
      rintro x a' w' ⟨hx, hr⟩
      cases x with
      | normal => cases e <;> first | exact hx.elim | (exact absurd h (h1 _))
      | _ => exact ⟨hx, hr⟩
  intro n c st e st' h ds σ a w hs
  unfold aStep at h
  split at h
  · simp only [Option.some.injEq, Prod.mk.injEq] at h; obtain ⟨rfl, rfl⟩ := h
    exact wp_skip ⟨trivial, σ, List.prefix_rfl, hs⟩
  · simp only [Option.some.injEq, Prod.mk.injEq] at h; obtain ⟨rfl, rfl⟩ := h
    exact wp_label ⟨trivial, σ, List.prefix_rfl, hs⟩
  · rename_i c1 c2
    split at h
    · exact wp_seq (seq h σ a w hs)
    · rename_i ops hcoin
      obtain ⟨id, rfl⟩ := coin_ok hcoin
      split at h
      · cases h
      · rename_i l hl
        refine wp_seq (wp_mono (hd n id ops st l hl σ a w hs) ?_)
        rintro x a' w' ⟨hx, st1, hm, σ1, hp, hs1⟩
        cases x <;> first | exact hx.elim | skip
        obtain ⟨s, g1, g2⟩ := meets_ok (B := B) (w0 := w0) h st1 hm
        refine wp_mono (hih n c2 st1 e s g1 σ1 a' w' hs1) ?_
        rintro x a2 w2 ⟨hx, σ2, hp2, hs2⟩
        obtain ⟨σ3, hp3, hs3⟩ := g2 n σ2 a2 w2 hs2
        exact ⟨hx, σ3, (hp.trans hp2).trans hp3, hs3⟩
  · rename_i x c1 c2
    have hev : ∀ t : Bool, ev st.T x = some (.v (.bool t)) → a.eval x = .bool t := fun t ht => by have := ev_ok hs.tr x _ ht; simpa [AV.conc] using this.symm
    split at h
    · rename_i hx; exact wp_cond_true (hev true hx) (hih n c1 st e st' h σ a w hs)
    · rename_i hx; exact wp_cond_false (hev false hx) (hih n c2 st e st' h σ a w hs)
    · cases h
  · rename_i id c1
    refine wp_block ?_
    split at h
    · rename_i j st1 h1
      refine wp_mono (hih n c1 st _ st1 h1 σ a w hs) ?_
      rintro x a' w' ⟨hx, hr⟩
      cases x <;> first | exact hx.elim | skip
      simp only [XR] at hx; subst hx
      rename_i i
      cases hb : Nat.beq i id with
      | true =>
        simp only [hb, cond_true, Option.some.injEq, Prod.mk.injEq] at h; obtain ⟨rfl, rfl⟩ := h
        simp only [Exit.inBlock, Nat.eq_of_beq_eq_true hb, if_true]
        exact ⟨trivial, hr⟩
      | false =>
        simp only [hb, cond_false, Option.some.injEq, Prod.mk.injEq] at h; obtain ⟨rfl, rfl⟩ := h
        simp only [Exit.inBlock, Nat.ne_of_beq_eq_false hb, if_false]
        exact ⟨rfl, hr⟩
    · rename_i hne
      refine wp_mono (hih n c1 st e st' h σ a w hs) ?_
      rintro x a' w' ⟨hx, hr⟩
      cases x with
      | exit i => cases e <;> first | exact hx.elim | exact absurd h (hne _ _)
      | _ => exact ⟨hx, hr⟩
  · rename_i c1
    refine wp_loop_rounds k ?_
    have key : ∀ (m : Nat) (st : AS) (σ : Sg) (a : Act) (w : World), aLoop (ih n c1) m st = some (e, st') → SR ds B w0 σ n st a w →
        Code.rounds P c1 (fun x a' w' => XR x e ∧ ∃ σ', σ <+: σ' ∧ SR ds B w0 σ' n st' a' w') m a w := by
      intro m
      induction m with
      | zero => intro st σ a w h; simp [aLoop] at h
      | succ m ihm =>
        intro st σ a w h hs
        rw [rounds_succ]
        simp only [aLoop] at h
        unfold aSeq at h
        split at h
        · rename_i st1 h1
          refine wp_mono (hih n c1 st .normal st1 h1 σ a w hs) ?_
          rintro x a' w' ⟨hx, σ1, hp, hs1⟩
          cases x <;> first | exact hx.elim | skip
          refine rounds_mono ?_ (ihm st1 σ1 a' w' h hs1)
          rintro x a2 w2 ⟨hx, σ2, hp2, hs2⟩
          exact ⟨hx, σ2, hp.trans hp2, hs2⟩
        · rename_i h1
          refine wp_mono (hih n c1 st e st' h σ a w hs) ?_
          rintro x a' w' ⟨hx, hr⟩
          cases x with
          | normal => cases e <;> first | exact hx.elim | (exact absurd h (h1 _))
          | _ => exact ⟨hx, hr⟩
    exact key k st σ a w h hs
  · simp only [Option.some.injEq, Prod.mk.injEq] at h; obtain ⟨rfl, rfl⟩ := h
    exact wp_exit ⟨rfl, σ, List.prefix_rfl, hs⟩
  · simp only [Option.some.injEq, Prod.mk.injEq] at h; obtain ⟨rfl, rfl⟩ := h
    exact wp_ret ⟨trivial, σ, List.prefix_rfl, hs⟩
  · rename_i c1
    refine wp_scope_straight ?_
    refine wp_mono (hih n c1 st e st' h σ a w hs) ?_
    rintro x a' w' ⟨hx, hr⟩
    cases x with
    | goto l => cases e <;> exact hx.elim
    | _ => exact ⟨hx, hr⟩
  · rename_i id ops d
    split at h
    · split at h
      · rename_i st1 h1
        simp only [Option.some.injEq, Prod.mk.injEq] at h
        obtain ⟨rfl, rfl⟩ := h
        refine wp_mono (hd n id ops st [st1] h1 σ a w hs) ?_
        rintro x a' w' ⟨hx, st2, hm, hr⟩
        simp only [List.mem_singleton] at hm; subst hm
        exact ⟨hx, hr⟩
      · cases h
    · simp only [Option.map_eq_some_iff, Prod.mk.injEq] at h
      obtain ⟨st1, h1, rfl, rfl⟩ := h
      refine wp_region ?_
      exact ops_ok hNG hG hc _ st st1 σ a w h1 hs fun σ' a' w' hp hs' => ⟨trivial, σ', hp, hs'⟩
  · cases h
end
end Go.Proofs.YtfphabkdgdgnbaaGreatDoor.AE
