import Derived.Test.YtfphabkdgdgnbaaGreatDoorAE14
set_option linter.unusedVariables false
set_option linter.unusedSimpArgs false
namespace Go.Proofs.YtfphabkdgdgnbaaGreatDoor.AE
open Go Go.RowKit

def aOne (P : Program) (G : Gl) (call : CallF) (n : Nat) (ops : Array Oper) (i : Nat) (st : AS) : Option AS :=
  match ops[i]? with
  | none => none
  | some o => match aWant st.T ops o with
    | none => none
    | some false => (aPut n o.dst (.v undef) st.T).map fun T' => ⟨T', st.H⟩
    | some true => match aExec P G (ev st.T) o st.H with
      | none => none
      | some (.val a, H') => (aPut n o.dst a st.T).map fun T' => ⟨T', H'⟩
      | some (.skip, H') => (aPut n o.dst (.v undef) st.T).map fun T' => ⟨T', H'⟩
      | some (.enter f args, H') => match call f args H' with
        | none => none
        | some (a, H'') => (aPut n o.dst a st.T).map fun T' => ⟨T', H''⟩
/-- An operation that only looks, at what is held. -/
def aLook (P : Program) (G : Gl) (n : Nat) (ops : Array Oper) (K : AH) (i : Nat) (st : AS) : Option AS :=
  match ops[i]? with
  | none => none
  | some o => match aWant st.T ops o with
    | none => none
    | some false => (aPut n o.dst (.v undef) st.T).map fun T' => ⟨T', st.H⟩
    | some true => bif isVal P o.op then
        match aExec P G (ev st.T) o (K ++ List.replicate (st.H.length - K.length) .dead) with
        | some (.val a, _) => (aPut n o.dst a st.T).map fun T' => ⟨T', st.H⟩
        | _ => none
      else none
def aFirst (P : Program) (G : Gl) (n : Nat) (ops : Array Oper) (K : AH) (listed : Array Bool) (st : AS) : List Nat → Option (Nat × AS)
  | [] => none
  | i :: l => match bif Region.free .any ops listed i then aLook P G n ops K i st else none with
    | some st' => some (i, st')
    | none => aFirst P G n ops K listed st l
def hasAS (a : AS) : List AS → Bool
  | [] => false
  | b :: l => eqAS a b || hasAS a l
theorem hasAS_ok {a : AS} : ∀ {l : List AS}, hasAS a l = true → a ∈ l
  | [], h => by simp [hasAS] at h
  | b :: l, h => by
    simp only [hasAS, Bool.or_eq_true] at h
    rcases h with h | h
    · rw [eqAS_ok h]; exact List.mem_cons_self ..
    · exact List.mem_cons_of_mem _ (hasAS_ok h)
def joinAS : List AS → List AS → List AS
  | [], m => m
  | a :: l, m => bif hasAS a m then joinAS l m else a :: joinAS l m
theorem joinAS_ok {x : AS} : ∀ {l m : List AS}, x ∈ l ∨ x ∈ m → x ∈ joinAS l m
  | [], m, h => by simpa [joinAS] using h
  | a :: l, m, h => by
    simp only [joinAS]
    cases hh : hasAS a m with
    | true =>
      simp only [cond_true]
      refine joinAS_ok ?_
      rcases h with h | h
      · rcases List.mem_cons.1 h with rfl | h
        · exact .inr (hasAS_ok hh)
        · exact .inl h
      · exact .inr h
    | false =>
      simp only [cond_false]
      rcases h with h | h
      · rcases List.mem_cons.1 h with rfl | h
        · exact List.mem_cons_self ..
        · exact List.mem_cons_of_mem _ (joinAS_ok (.inl h))
      · exact List.mem_cons_of_mem _ (joinAS_ok (.inr h))
def aBr (f : Nat → Option (List AS)) : List Nat → Option (List AS)
  | [] => none
  | i :: l => match l with
    | [] => f i
    | _ => match f i, aBr f l with
      | some a, some b => some (joinAS a b)
      | _, _ => none
theorem aBr_ok {f : Nat → Option (List AS)} : ∀ {l : List Nat} {r : List AS}, aBr f l = some r → ∀ i ∈ l, ∃ s, f i = some s ∧ ∀ x ∈ s, x ∈ r
  | [], r, h => by simp [aBr] at h
  | [i], r, h => by intro j hj; simp at hj; subst hj; exact ⟨r, by simpa [aBr] using h, fun x hx => hx⟩
  | i :: j :: l, r, h => by
    simp only [aBr] at h
    split at h
    · rename_i a b ha hb
      simp only [Option.some.injEq] at h; subst h
      intro k hk
      rcases List.mem_cons.1 hk with rfl | hk
      · exact ⟨a, ha, fun x hx => joinAS_ok (.inl hx)⟩
      · obtain ⟨s, h1, h2⟩ := aBr_ok (l := j :: l) hb k hk
        exact ⟨s, h1, fun x hx => joinAS_ok (.inr (h2 x hx))⟩
    · cases h
def aAny (P : Program) (G : Gl) (call : CallF) (n : Nat) (ops : Array Oper) (K : AH) : Nat → Array Bool → AS → Option (List AS)
  | 0, listed, st => match Region.ready .any ops listed with
    | [] => some [st]
    | _ => none
  | fuel + 1, listed, st => match Region.ready .any ops listed with
    | [] => some [st]
    | i :: l => match aFirst P G n ops K listed st (i :: l) with
      | some (j, st') => aAny P G call n ops K fuel (listed.setIfInBounds j true) st'
      | none => aBr (fun j => (aOne P G call n ops j st).bind fun st' => bif heldH K st'.H && Nat.ble K.length st'.H.length then aAny P G call n ops K fuel (listed.setIfInBounds j true) st' else none) (i :: l)
def aDraw (P : Program) (G : Gl) (call : CallF) (n : Nat) (ops : Array Oper) (st : AS) : Option (List AS) :=
  bif Region.noSelect ops then
    match aOps P G call n ops (List.range ops.size) st with
    | none => none
    | some stf => bif heldH (keepH st.H stf.H) st.H && Nat.beq (keepH st.H stf.H).length st.H.length then aAny P G call n ops (keepH st.H stf.H) ops.size (Array.replicate ops.size false) st else none
  else none

section
variable {P : Program} {B : Nat} {w0 : World} {G : Gl} {ds : List Deferred}

theorem one_ok (hNG : NG P) (hG : GOK B w0 G) {call : CallF} (hc : CallOK P B w0 call) {n : Nat} {ops : Array Oper} {Q : Exit → Act → World → Prop} {K : Act → World → Prop} {i : Nat} {st st' : AS} {σ : Sg} {a : Act} {w : World}
    (h : aOne P G call n ops i st = some st') (hs : SR ds B w0 σ n st a w) (hQ : ∀ σ' a' w', σ <+: σ' → SR ds B w0 σ' n st' a' w' → K a' w') : wpOp P ops Q i K a w := by
  unfold aOne at h
  unfold wpOp
  cases ho : ops[i]? with
  | none => rw [ho] at h; cases h
  | some o =>
    rw [ho] at h
    simp only at h ⊢
    have step : ∀ {σ1 : Sg} {w1 : World} {b : AV} {v : Value} {H1 : AH}, σ <+: σ1 → WR B w0 σ1 H1 w1 → b.conc σ1 = some v → ((aPut n o.dst b st.T).map fun T' => (⟨T', H1⟩ : AS)) = some st' → K (a.put o.dst v) w1 := by
      intro σ1 w1 b v H1 hp hw1 hb hr
      simp only [Option.map_eq_some_iff] at hr
      obtain ⟨T', hT', rfl⟩ := hr
      exact hQ σ1 _ _ hp ⟨hw1, put_ok (hs.tr.mono hp) hb hT', by rw [put_defers]; exact hs.df⟩
    split at h
    · cases h
    · rename_i hw
      rw [want_ok hs.tr hw]
      simp only [Bool.false_eq_true, if_false]
      exact step List.prefix_rfl hs.wr (b := .v undef) (by rfl) h
    · rename_i hw
      rw [want_ok hs.tr hw]
      simp only [if_true]
      refine .inl ?_
      unfold Oper.wp
      split at h
      · cases h
      · rename_i b H' hx
        obtain ⟨σ1, w1, hp, hw1, v, hv, hrun⟩ := exec_ok hNG hG hs.wr (ev_ok hs.tr) hx
        rw [hrun]; exact step hp hw1 hv h
      · rename_i H' hx
        obtain ⟨σ1, w1, hp, hw1, hrun⟩ := exec_ok hNG hG hs.wr (ev_ok hs.tr) hx
        simp only [NextR] at hrun
        rw [hrun]; exact step hp hw1 (b := .v undef) (by rfl) h
      · rename_i f args H' hx
        obtain ⟨σ1, w1, hp, hw1, vs, hvs, hrun⟩ := exec_ok hNG hG hs.wr (ev_ok hs.tr) hx
        rw [hrun]
        split at h
        · cases h
        · rename_i b H'' hcall
          refine (hc f args H' _ hcall σ1 w1 vs hw1 hvs).mono ?_
          rintro e w2 ⟨σ2, v, hp2, hw2, hv, rfl⟩
          exact step (hp.trans hp2) hw2 hv h

/-- What a block holds lies where 'σ' says. -/
def InS (σ : Sg) : AObj → Prop
  | .cells cs _ => ∀ (j : Nat) (a : AV), cs[j]? = some a → ∃ v, a.conc σ = some v
  | .ro cs _ => ∀ (j : Nat) (a : AV), cs[j]? = some a → ∃ v, a.conc σ = some v
  | .map es _ => ∃ ms, EntsR σ es ms
  | _ => True
theorem inS_of {σ : Sg} {B : Nat} {p : Nat × Nat} {x : Option Obj} : ∀ {o : AObj}, ObjR σ B p x o → InS σ o
  | .cells cs e, ⟨_, c, _, _, _, h⟩ => fun j a ha => let ⟨v, hv, _⟩ := h j a ha; ⟨v, hv⟩
  | .ro cs e, ⟨_, c, _, _, _, _, h⟩ => fun j a ha => let ⟨v, hv, _⟩ := h j a ha; ⟨v, hv⟩
  | .map es cl, ⟨_, ms, _, h⟩ => ⟨_, h⟩
  | .siter .., _ => trivial
  | .dead, _ => trivial
theorem ents_back {σ0 σ : Sg} (hp : σ0 <+: σ) : ∀ {es : List (Value × AV × Nat)} {ms ms' : List MapEntry}, EntsR σ0 es ms' → EntsR σ es ms → EntsR σ0 es ms
  | [], [], [], _, _ => trivial
  | (k, a, b) :: es, m :: ms, m' :: ms', ⟨_, g2, _, g4⟩, ⟨h1, h2, h3, h4⟩ => by
    have := conc_mono hp a g2
    rw [h2] at this
    exact ⟨h1, by rw [g2]; exact this.symm, h3, ents_back hp g4 h4⟩
  | [], [], _ :: _, r, _ => r.elim
  | [], _ :: _, _, _, r => r.elim
  | _ :: _, [], _, _, r => r.elim
  | _ :: _, _ :: _, [], r, _ => r.elim
theorem objR_back {σ0 σ : Sg} (hp : σ0 <+: σ) {B : Nat} {p : Nat × Nat} {x : Option Obj} : ∀ {o : AObj}, InS σ0 o → ObjR σ B p x o → ObjR σ0 B p x o
  | .cells cs e, hi, ⟨h0, c, h1, h2, h3, h4⟩ => ⟨h0, c, h1, h2, h3, fun j a ha => by
      obtain ⟨v, hv⟩ := hi j a ha
      obtain ⟨v', hv', hc⟩ := h4 j a ha
      rw [conc_mono hp a hv] at hv'; cases hv'
      exact ⟨v, hv, hc⟩⟩
  | .ro cs e, hi, ⟨h0, c, fr, h1, h2, h3, h4⟩ => ⟨h0, c, fr, h1, h2, h3, fun j a ha => by
      obtain ⟨v, hv⟩ := hi j a ha
      obtain ⟨v', hv', hc⟩ := h4 j a ha
      rw [conc_mono hp a hv] at hv'; cases hv'
      exact ⟨v, hv, hc⟩⟩
  | .map es cl, ⟨ms', hi⟩, ⟨h0, ms, h1, h2⟩ => ⟨h0, ms, h1, ents_back hp hi h2⟩
  | .siter .., _, r => r
  | .dead, _, r => r

/-- Fewer blocks are known. -/
theorem WR.held {σ0 σ : Sg} {K H : AH} {w : World} (hp : σ0 <+: σ) (h : WR B w0 σ H w) (hK : σ0.length = K.length) (hI : ∀ (i : Nat) (o : AObj), K[i]? = some o → InS σ0 o) (hh : heldH K H = true) : WR B w0 σ0 K w := by
  have hx := heldH_ok hh
  have back : ∀ {i : Nat} {o : AObj} {p : Nat × Nat}, K[i]? = some o → σ0[i]? = some p → o.live = true → H[i]? = some o ∧ σ[i]? = some p := fun ho hq hl => ⟨hx _ _ ho hl, pre_get hp hq⟩
  refine ⟨h.below, h.size, hK, fun i o p ho hq => ?_, fun i j o o' p q h1 h2 hq1 hq2 l1 l2 e => ?_⟩
  · cases hl : o.live with
    | false => cases o <;> first | trivial | simp [AObj.live] at hl
    | true =>
      obtain ⟨h1, h2⟩ := back ho hq hl
      exact objR_back hp (hI i o ho) (h.obj i o p h1 h2)
  · obtain ⟨a1, a2⟩ := back h1 hq1 l1
    obtain ⟨b1, b2⟩ := back h2 hq2 l2
    exact h.inj i j o o' p q a1 b1 a2 b2 l1 l2 e

theorem WR.pad {σ0 σ : Sg} {K : AH} {w : World} (hp : σ0 <+: σ) (h : WR B w0 σ0 K w) : WR B w0 σ (K ++ List.replicate (σ.length - K.length) .dead) w := by
  have hle : K.length ≤ σ.length := by have := hp.length_le; rw [h.len] at this; exact this
  have back : ∀ {i : Nat} {o : AObj} {p : Nat × Nat}, (K ++ List.replicate (σ.length - K.length) .dead)[i]? = some o → σ[i]? = some p → o.live = true → K[i]? = some o ∧ σ0[i]? = some p := by
    intro i o p ho hq hl
    by_cases hi : i < K.length
    · rw [List.getElem?_append_left hi] at ho
      obtain ⟨t, rfl⟩ := hp
      rw [List.getElem?_append_left (by rw [h.len]; exact hi)] at hq
      exact ⟨ho, hq⟩
    · rw [List.getElem?_append_right (by omega), List.getElem?_replicate] at ho
      split at ho
      · simp only [Option.some.injEq] at ho; subst ho; simp [AObj.live] at hl
      · cases ho
  refine ⟨h.below, h.size, by simp; omega, fun i o p ho hq => ?_, fun i j o o' p q h1 h2 hq1 hq2 l1 l2 e => ?_⟩
  · cases hl : o.live with
    | false => cases o <;> first | trivial | simp [AObj.live] at hl
    | true =>
      obtain ⟨h1, h2⟩ := back ho hq hl
      exact (h.obj i o p h1 h2).mono hp
  · obtain ⟨a1, a2⟩ := back h1 hq1 l1
    obtain ⟨b1, b2⟩ := back h2 hq2 l2
    exact h.inj i j o o' p q a1 b1 a2 b2 l1 l2 e

theorem look_ok (hG : GOK B w0 G) {n : Nat} {ops : Array Oper} {σ0 σ : Sg} {K : AH} {i : Nat} {st st' : AS} {a : Act} {w : World} (hp : σ0 <+: σ) (hS : WR B w0 σ0 K w) (h : aLook P G n ops K i st = some st') (hs : SR ds B w0 σ n st a w) :
    ∃ o v, ops[i]? = some o ∧ YieldsIf P ops (WR B w0 σ0 K) o v a ∧ SR ds B w0 σ n st' (a.put o.dst v) w := by
  unfold aLook at h
  cases ho : ops[i]? with
  | none => rw [ho] at h; cases h
  | some o =>
    rw [ho] at h
    simp only at h
    split at h
    · cases h
    · rename_i hw
      simp only [Option.map_eq_some_iff] at h
      obtain ⟨T', hT', rfl⟩ := h
      exact ⟨o, undef, rfl, .inr ⟨want_ok hs.tr hw, rfl⟩, hs.wr, put_ok hs.tr (b := .v undef) (by rfl) hT', by rw [put_defers]; exact hs.df⟩
    · rename_i hw
      cases hv : isVal P o.op with
      | false => simp [hv] at h
      | true =>
        simp only [hv, cond_true] at h
        split at h
        · rename_i b H1 hx
          simp only [Option.map_eq_some_iff] at h
          obtain ⟨T', hT', rfl⟩ := h
          have hlen : st.H.length = σ.length := hs.wr.len.symm
          rw [hlen] at hx
          have hany : ∀ w', WR B w0 σ0 K w' → ∃ v, b.conc σ = some v ∧ (execOp a.eval o).run P w' = .ok (.value v) w' := fun w' hw' => val_ok hG (hw'.pad hp) (ev_ok hs.tr) hv hx
          obtain ⟨v, hbv, _⟩ := hany w hS
          refine ⟨o, v, rfl, .inl ⟨want_ok hs.tr hw, fun w' hw' => ?_⟩, hs.wr, put_ok hs.tr hbv hT', by rw [put_defers]; exact hs.df⟩
          obtain ⟨v', hv', hrun⟩ := hany w' hw'
          rw [hbv] at hv'; cases hv'; exact hrun
        · cases h
theorem first_ok {n : Nat} {ops : Array Oper} {K : AH} {listed : Array Bool} {st st' : AS} {j : Nat} : ∀ {l : List Nat}, aFirst P G n ops K listed st l = some (j, st') → j ∈ l ∧ Region.free .any ops listed j = true ∧ aLook P G n ops K j st = some st'
  | [], h => by simp [aFirst] at h
  | i :: l, h => by
    simp only [aFirst] at h
    split at h
    · rename_i st1 h1
      simp only [Option.some.injEq, Prod.mk.injEq] at h
      obtain ⟨rfl, rfl⟩ := h
      cases hf : Region.free .any ops listed i with
      | false => simp [hf] at h1
      | true => simp only [hf, cond_true] at h1; exact ⟨List.mem_cons_self .., rfl, h1⟩
    · obtain ⟨a, b, c⟩ := first_ok h
      exact ⟨List.mem_cons_of_mem _ a, b, c⟩
theorem any_ok (hNG : NG P) (hG : GOK B w0 G) {call : CallF} (hc : CallOK P B w0 call) {n : Nat} {ops : Array Oper} (hsel : Region.noSelect ops = true) {Q : Exit → Act → World → Prop} (hQp : ∀ c a w, ¬ Q (.panic c) a w) {σ0 : Sg} {K : AH} (hK : σ0.length = K.length) (hI : ∀ (i : Nat) (o : AObj), K[i]? = some o → InS σ0 o) :
    ∀ (fuel : Nat) (listed : Array Bool) (st : AS) (ls : List AS) (σ : Sg) (a : Act) (w : World), aAny P G call n ops K fuel listed st = some ls → SR ds B w0 σ n st a w → σ0 <+: σ → WR B w0 σ0 K w →
      (∀ st' ∈ ls, ∀ σ' a' w', σ <+: σ' → SR ds B w0 σ' n st' a' w' → Q .normal a' w') → wpAnyH P .any ops Q (WR B w0 σ0 K) fuel listed a w
  | 0, listed, st, ls, σ, a, w, h, hs, hp, hS, hQ => by
    unfold aAny at h
    split at h
    · rename_i hr
      simp only [Option.some.injEq] at h; subst h
      exact ⟨hr, hQ st (by simp) σ a w List.prefix_rfl hs⟩
    · cases h
  | fuel + 1, listed, st, ls, σ, a, w, h, hs, hp, hS, hQ => by
    unfold aAny at h
    split at h
    · rename_i hr
      simp only [Option.some.injEq] at h; subst h
      exact wpAnyH_done hr (hQ st (by simp) σ a w List.prefix_rfl hs) _
    · rename_i i l hr
      split at h
      · rename_i j st1 hf
        obtain ⟨h1, h2, h3⟩ := first_ok hf
        obtain ⟨o, v, ho, hy, hs1⟩ := look_ok hG hp hS h3 hs
        refine wpAnyH_take ho hsel h2 (by rw [hr]; simpa using h1) (fun c a w hq => absurd hq (hQp c _ w)) hy hS ?_
        exact any_ok hNG hG hc hsel hQp hK hI fuel _ st1 ls σ _ w h hs1 hp hS hQ
      · refine wpAnyH_all hr (by simp) fun j hj => ?_
        obtain ⟨s, hb, hsub⟩ := aBr_ok h j hj
        simp only [Option.bind_eq_some_iff] at hb
        obtain ⟨st1, h1, hb⟩ := hb
        cases hh : (heldH K st1.H && Nat.ble K.length st1.H.length) with
        | false => simp [hh] at hb
        | true =>
          simp only [hh, cond_true] at hb
          simp only [Bool.and_eq_true] at hh
          refine one_ok hNG hG hc h1 hs fun σ' a' w' hp' hs' => ?_
          have hS' : WR B w0 σ0 K w' := hs'.wr.held (hp.trans hp') hK hI hh.1
          exact ⟨hS', any_ok hNG hG hc hsel hQp hK hI fuel _ st1 s σ' a' w' hb hs' (hp.trans hp') hS' fun st' hm σ2 a2 w2 hp2 hs2 => hQ st' (hsub st' hm) σ2 a2 w2 (hp'.trans hp2) hs2⟩

theorem keep_mem : ∀ {a b : AH} {i : Nat} {o : AObj}, (keepH a b)[i]? = some o → o = .dead ∨ a[i]? = some o
  | [], b, i, o, h => by simp [keepH] at h
  | x :: l, [], 0, o, h => by simp [keepH] at h; exact .inl h.symm
  | x :: l, [], i + 1, o, h => by simp [keepH] at h; have := keep_mem h; simpa using this
  | x :: l, y :: m, 0, o, h => by
    simp only [keepH, List.getElem?_cons_zero, Option.some.injEq] at h
    cases he : eqObj x y with
    | true => simp only [he, cond_true] at h; right; simp [h]
    | false => simp only [he, cond_false] at h; exact .inl h.symm
  | x :: l, y :: m, i + 1, o, h => by simp [keepH] at h; have := keep_mem h; simpa using this

theorem draw_ok (hm : P.follows .mixedOrders = true) (hNG : NG P) (hG : GOK B w0 G) {call : CallF} (hc : CallOK P B w0 call) : DrawOK P B w0 (aDraw P G call) := by
  intro n id ops st ls h ds σ a w hs
  unfold aDraw at h
  cases hsel : Region.noSelect ops with
  | false => simp [hsel] at h
  | true =>
    simp only [hsel, cond_true] at h
    split at h
    · cases h
    · rename_i stf hf
      cases hh : (heldH (keepH st.H stf.H) st.H && Nat.beq (keepH st.H stf.H).length st.H.length) with
      | false => simp [hh] at h
      | true =>
        simp only [hh, cond_true] at h
        simp only [Bool.and_eq_true] at hh
        have hs1 : SR ds B w0 σ n st a { w with drawn := w.drawn + 1 } := ⟨hs.wr.drawn _, hs.tr, hs.df⟩
        have hlen : σ.length = (keepH st.H stf.H).length := by rw [Nat.eq_of_beq_eq_true hh.2]; exact hs.wr.len
        have hI : ∀ (i : Nat) (o : AObj), (keepH st.H stf.H)[i]? = some o → InS σ o := fun i o ho => by
          rcases keep_mem ho with rfl | ho
          · trivial
          · obtain ⟨p, hp⟩ := sg_get hs.wr ho
            exact inS_of (hs.wr.obj i o p ho hp)
        refine wp_region_held (S := WR B w0 σ (keepH st.H stf.H)) hm ?_
        exact any_ok hNG hG hc hsel (fun c a w hq => hq.1.elim) hlen hI _ _ st ls σ a _ h hs1 List.prefix_rfl (hs1.wr.held List.prefix_rfl hlen hI hh.1) fun st' hm σ' a' w' hp hs' => ⟨trivial, st', hm, σ', hp, hs'⟩

/-- A call, every order. -/
theorem call_all (hm : P.follows .mixedOrders = true) (hNG : NG P) (hG : GOK B w0 G) {orc : CallF} (ho : CallOK P B w0 orc) (k : Nat) : CallOK P B w0 (aCall P G orc (run P G orc (aDraw P G) k)) :=
  call_run hNG hG ho (fun call hcall => draw_ok hm hNG hG hcall) k
end
end Go.Proofs.YtfphabkdgdgnbaaGreatDoor.AE
