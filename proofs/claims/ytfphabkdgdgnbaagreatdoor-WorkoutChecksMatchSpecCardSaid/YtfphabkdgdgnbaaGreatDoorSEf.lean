import Derived.Test.YtfphabkdgdgnbaaGreatDoorSEe
set_option linter.unusedVariables false
set_option linter.unusedSimpArgs false
set_option linter.unusedSectionVars false
namespace Go.Proofs.YtfphabkdgdgnbaaGreatDoor.SE
open Go Go.RowKit Go.Proofs.YtfphabkdgdgnbaaGreatDoor.AE
variable [Tb]

section
variable {P : Program} {orc : Nat → List D → Option (List D)} {kk : Nat} {sg : List Sig} {M0 : Mem} {w0 : World} {S : Nat → Prop} {ds : List Deferred} {nt nh : Nat}
/-- What is asked of a way to tell regions that draw their order. -/
def DrawOK (P : Program) (orc : Nat → List D → Option (List D)) (kk : Nat) (nt : Nat) (draw : Array Oper → SS → Option (Tree SS)) : Prop :=
  ∀ id ops st T, draw ops st = some T → Closed P orc kk T ∧ ∀ (M0 : Mem) (w0 : World) (S : Nat → Prop) (ds : List Deferred) (nh : Nat) cx a w o, SR P M0 w0 S ds cx nt st a w → T.den P orc kk cx.ρ = some o →
    (Code.region id ops true).wp P (fun e a' w' => e = .normal ∧ ∃ st' cx', o = .leaf st' cx'.ρ ∧ Kps nh cx cx' ∧ SR P M0 w0 S ds cx' nt st' a' w') a w
theorem lift_den {T : Tree SS} {T' : TX} (h : T.bindM (fun s => some (.leaf (.normal, s))) = some T') (hc : Closed P orc kk T) : Closed P orc kk T' ∧ ∀ ρ o, T'.den P orc kk ρ = some o → ∃ s ρ1, T.den P orc kk ρ = some (.leaf s ρ1) ∧ o = .leaf (.normal, s) ρ1 := by
  have hcl : ∀ (q : SS) (t : TX), (fun s => some (Tree.leaf (AX.normal, s))) q = some t → Closed P orc kk t := fun q t hq => by
    simp only [Option.some.injEq] at hq; subst hq; exact closed_leaf _
  refine ⟨closed_bindM h hc hcl, fun ρ o ho => ?_⟩
  rw [den_bindM T h (fun q t ρ l es h1 h2 => absurd h2 (hcl q t h1 ρ l es)) ρ] at ho
  cases hT : T.den P orc kk ρ with
  | none => rw [hT] at ho; cases ho
  | some o1 =>
    rw [hT] at ho
    cases o1 with
    | out l es => exact absurd hT (hc _ _ _)
    | leaf s ρ1 => simp only [thenD, Tree.den, Option.some.injEq] at ho; exact ⟨s, ρ1, rfl, ho.symm⟩
theorem se_ok (hNG : NG P) (hsg : ∀ k g, sg[k]? = some g → SigOK P g (orc k)) {draw : Array Oper → SS → Option (Tree SS)} (hdr : DrawOK P orc kk nt draw) : ∀ (k live : Nat) (c : Code) (st : SS) (T : TX), se P sg nt nh draw k live c st = some T → SeOK P orc kk M0 w0 S ds nt nh c st T
  | 0, live, c, st, T, h => by cases h
  | k + 1, live, c, st, T, h => by
    have ih := fun live c st T h => se_ok hNG hsg hdr k live c st T h
    have leaf : ∀ {x : AX} {e : Exit} {c : Code}, XR e x → (∀ (Q : Exit → Act → World → Prop) a w, Q e a w → c.wp P Q a w) → SeOK P orc kk M0 w0 S ds nt nh c st (.leaf (x, st)) := by
      intro x e c hx hwp
      refine ⟨closed_leaf _, fun cx a w o hs hd => ?_⟩
      simp only [Tree.den, Option.some.injEq] at hd; subst hd
      exact hwp _ a w ⟨x, st, cx, rfl, hx, .rfl, hs⟩
    have fail : ∀ {c : Code} {T : TX}, some Tree.fail = some T → SeOK P orc kk M0 w0 S ds nt nh c st T := fun h => by
      simp only [Option.some.injEq] at h; subst h
      exact ⟨closed_fail, fun cx a w o _ hd => by simp [Tree.den] at hd⟩
    unfold se at h
    split at h
    · simp only [Option.some.injEq] at h; subst h
      exact leaf (e := .normal) trivial fun Q a w hq => wp_skip hq
    · simp only [Option.some.injEq] at h; subst h
      exact leaf (e := .normal) trivial fun Q a w hq => wp_label hq
    · rename_i c1 c2
      simp only [Option.bind_eq_some_iff] at h
      obtain ⟨T1, h1, h⟩ := h
      have hT1 := ih _ _ _ _ h1
      have hf := fun s t (ht : se P sg nt nh draw k live c2 s = some t) => ih live c2 s t ht
      unfold seqT at h
      split at h
      · exact graft_ok hT1 hf h
      · exact graft_ok hT1 hf h
      · split at h
        · rename_i r hr
          simp only [Option.some.injEq] at h; subst h
          cases hk : keptAll (gen P st.n nh _ (norms T1.leaves)).sl (norms T1.leaves) _ with
          | true => rw [hk] at hr; exact join_ok rfl hT1 hf hr
          | false => rw [hk] at hr; cases hr
        · exact graft_ok hT1 hf h
    · rename_i x c1 c2
      split at h
      · rename_i hx
        obtain ⟨g1, g2⟩ := ih _ _ _ _ h
        refine ⟨g1, fun cx a w o hs hd => wp_cond_true ?_ (g2 cx a w o hs hd)⟩
        have := ev_ok hs.tr x _ hx; simpa [SV.R] using this
      · rename_i hx
        obtain ⟨g1, g2⟩ := ih _ _ _ _ h
        refine ⟨g1, fun cx a w o hs hd => wp_cond_false ?_ (g2 cx a w o hs hd)⟩
        have := ev_ok hs.tr x _ hx; simpa [SV.R] using this
      · rename_i y hx
        split at h
        · rename_i t
          simp only [Option.bind_eq_some_iff, Option.map_eq_some_iff] at h
          obtain ⟨s1, h1, s2, h2, A, hA, B, hB, rfl⟩ := h
          obtain ⟨a1, a2⟩ := ih _ _ _ _ hA
          obtain ⟨b1, b2⟩ := ih _ _ _ _ hB
          have hx' : st.T.get t = some (.s y) := hx
          refine ⟨closed_ite a1 b1, fun cx a w o hs hd => ?_⟩
          simp only [Tree.den] at hd
          split at hd
          · rename_i hy
            obtain ⟨k1, k2⟩ := setB_ok hs hx' hy h1
            exact wp_cond_true (by simp [Act.eval, Array.getD_eq_getD_getElem?, k2]) (a2 cx a w o k1 hd)
          · rename_i hy
            obtain ⟨k1, k2⟩ := setB_ok hs hx' hy h2
            exact wp_cond_false (by simp [Act.eval, Array.getD_eq_getD_getElem?, k2]) (b2 cx a w o k1 hd)
          · cases hd
        · exact fail h
      · exact fail h
    · rename_i id c1
      simp only [Option.bind_eq_some_iff] at h
      obtain ⟨T1, h1, h⟩ := h
      obtain ⟨g1, g2⟩ := ih _ _ _ _ h1
      have hcl : ∀ q t, offBlock id q = some t → (∃ st', q.1 = .exit id ∧ st' = q.2 ∧ t = .leaf (.normal, st')) ∨ ((∀ j, q.1 = .exit j → j ≠ id) ∧ t = .leaf q) := fun q t hq => by
        unfold offBlock at hq
        split at hq
        · rename_i j hj
          cases hb : Nat.beq j id with
          | true =>
            simp only [hb, cond_true, Option.some.injEq] at hq
            exact .inl ⟨q.2, by rw [hj, Nat.eq_of_beq_eq_true hb], rfl, hq.symm⟩
          | false =>
            simp only [hb, cond_false, Option.some.injEq] at hq
            refine .inr ⟨fun j' hj' e => ?_, hq.symm⟩
            rw [hj] at hj'; cases hj'
            subst e; rw [Nat.beq_refl] at hb; cases hb
        · rename_i hne
          simp only [Option.some.injEq] at hq
          exact .inr ⟨fun j hj => absurd hj (hne j), hq.symm⟩
      have hcc : ∀ q t, offBlock id q = some t → Closed P orc kk t := fun q t hq => by
        rcases hcl q t hq with ⟨_, _, _, rfl⟩ | ⟨_, rfl⟩ <;> exact closed_leaf _
      refine ⟨closed_bindM h g1 hcc, fun cx a w o hs hd => wp_block ?_⟩
      rw [den_bindM T1 h (fun q t ρ l es h1 h2 => absurd h2 (hcc q t h1 ρ l es)) cx.ρ] at hd
      cases hT : T1.den P orc kk cx.ρ with
      | none => rw [hT] at hd; cases hd
      | some o1 =>
        rw [hT] at hd
        cases o1 with
        | out l es => exact absurd hT (g1 _ _ _)
        | leaf q ρ1 =>
          simp only [thenD] at hd
          refine wp_mono (g2 cx a w _ hs hT) ?_
          rintro e a' w' ⟨x, st', cx', q1, q2, q3, q4⟩
          simp only [Out.leaf.injEq] at q1
          obtain ⟨rfl, rfl⟩ := q1
          cases hq : offBlock id (x, st') with
          | none => rw [hq] at hd; cases hd
          | some t =>
            rw [hq] at hd
            simp only at hd
            rcases hcl _ t hq with ⟨st2, e1, e2, rfl⟩ | ⟨e1, rfl⟩
            · simp only at e1 e2
              subst e1
              subst e2
              simp only [Tree.den, Option.some.injEq] at hd; subst hd
              cases e with
              | exit j =>
                simp only [XR] at q2
                subst q2
                simp only [Exit.inBlock, if_true]
                exact ⟨.normal, _, cx', rfl, trivial, q3, q4⟩
              | _ => exact q2.elim
            · simp only [Tree.den, Option.some.injEq] at hd; subst hd
              have hF : Fin P M0 w0 S ds nt nh cx (.leaf (x, st') cx'.ρ) e a' w' := ⟨x, st', cx', rfl, q2, q3, q4⟩
              cases e with
              | exit j =>
                have hj : j ≠ id := by
                  cases x with
                  | exit j' => simp only [XR] at q2; subst q2; exact e1 _ rfl
                  | _ => exact q2.elim
                simp only [Exit.inBlock, if_neg hj]; exact hF
              | _ => exact hF
    · rename_i c1
      exact loop_ok rfl (fun s t hb => ih _ _ _ _ hb) h
    · simp only [Option.some.injEq] at h; subst h
      rename_i id
      exact leaf (e := .exit id) rfl fun Q a w hq => wp_exit hq
    · simp only [Option.some.injEq] at h; subst h
      exact leaf (e := .ret) trivial fun Q a w hq => wp_ret hq
    · rename_i c1
      obtain ⟨g1, g2⟩ := ih _ _ _ _ h
      refine ⟨g1, fun cx a w o hs hd => wp_scope_straight (wp_mono (g2 cx a w o hs hd) ?_)⟩
      rintro e a' w' ⟨x, st', cx', q1, q2, q3, q4⟩
      cases e with
      | goto l => cases x <;> exact q2.elim
      | _ => exact ⟨x, st', cx', q1, q2, q3, q4⟩
    · rename_i id ops d
      split at h
      · simp only [Option.bind_eq_some_iff] at h
        obtain ⟨T1, h1, h⟩ := h
        obtain ⟨g1, g2⟩ := hdr id ops st T1 h1
        obtain ⟨k1, k2⟩ := lift_den h g1
        refine ⟨k1, fun cx a w o hs hd => ?_⟩
        obtain ⟨s, ρ1, e1, rfl⟩ := k2 _ _ hd
        refine wp_mono (g2 M0 w0 S ds nh cx a w _ hs e1) ?_
        rintro e a' w' ⟨rfl, st', cx', q1, q2, q3⟩
        simp only [Out.leaf.injEq] at q1
        obtain ⟨rfl, rfl⟩ := q1
        exact ⟨.normal, s, cx', rfl, trivial, q2, q3⟩
      · simp only [Option.bind_eq_some_iff] at h
        obtain ⟨T1, h1, h⟩ := h
        obtain ⟨g1, g2⟩ := seOps_ok (kk := kk) (M0 := M0) (w0 := w0) (S := S) (ds := ds) (nh := nh) hNG hsg (Q := fun _ _ _ => False) _ st T1 h1
        obtain ⟨k1, k2⟩ := lift_den h g1
        refine ⟨k1, fun cx a w o hs hd => ?_⟩
        obtain ⟨s, ρ1, e1, rfl⟩ := k2 _ _ hd
        refine wp_mono (wp_region (g2 cx a w _ (fun a' w' => Fin P M0 w0 S ds nt nh cx (.leaf (.normal, s) ρ1) .normal a' w') hs e1 fun st' cx' a' w' q1 q2 q3 => ?_)) ?_
        · simp only [Out.leaf.injEq] at q1
          obtain ⟨rfl, rfl⟩ := q1
          exact ⟨.normal, s, cx', rfl, trivial, q2, q3⟩
        · intro e a' w' hh
          cases e with
          | normal => exact hh
          | _ => exact hh.elim
    · exact fail h

/-! a function -/
def sArgs (n : Nat) : List SV → Nat → PTS → Option PTS
  | [], _, T => some T
  | a :: l, i, T => (sPut n (some i) a T).bind fun T' => sArgs n l (i + 1) T'
def sRes (P : Program) (st : SS) : List ResultVar → Option (List SV)
  | [] => some []
  | .tmp t :: l => (st.T.get t).bind fun a => (sRes P st l).map fun r => a :: r
  | .cell a t :: l => (st.T.get a).bind fun x => (sLoad P t x st.H).bind fun b => (sRes P st l).map fun r => b :: r
def oneSV : List SV → SV
  | [a] => a
  | l => .tup l
def resMask : List ResultVar → Nat
  | [] => 0
  | .tmp t :: l => Nat.lor (Nat.shiftLeft 1 t) (resMask l)
  | .cell t _ :: l => Nat.lor (Nat.shiftLeft 1 t) (resMask l)
def retLeaf (P : Program) (g : Sig) (rs : List ResultVar) (q : AX × SS) : Option (Tree Unit) :=
  match q.1 with
  | .exit _ => none
  | _ => (sRes P q.2 rs).bind fun l =>
    let st : SS := ⟨ofList [(0, oneSV l)], q.2.H, q.2.n⟩
    let p : Pat := ⟨[(0, g.res)], g.Ho, g.no⟩
    bif fitSS P g.ni g.Hi.length p (witness g.ni g.Hi.length p st).1 (witness g.ni g.Hi.length p st).2 st then some (.out 0 (witness g.ni g.Hi.length p st).1) else none
def fnTree (P : Program) (sg : List Sig) (draw : Nat → Array Oper → SS → Option (Tree SS)) (g : Sig) (k : Nat) : Option (Tree Unit) :=
  match P.funcs[g.f]? with
  | none => none
  | some fn => match fn.body with
    | none => none
    | some c => bif Nat.ble g.args.length fn.ntmps then
        (sArgs fn.ntmps g.args 0 .nil).bind fun T => (se P sg fn.ntmps g.Hi.length (draw fn.ntmps) k (resMask fn.results.toList) c ⟨T, g.Hi, g.ni⟩).bind fun X =>
          bif X.avoids 0 then X.bindM (retLeaf P g fn.results.toList) else none
      else none
def outOf {α : Type} : Option (Out α) → Option (List D)
  | some (.out _ ds) => some ds
  | _ => none
theorem args_ok {cx : Cx} {n : Nat} : ∀ {args : List SV} {vs : List Value} {i : Nat} {T T' : PTS} {a : Act}, RL P cx args vs → TR P cx n T a.tmps → sArgs n args i T = some T' → (∀ (j : Nat) (v : Value), vs[j]? = some v → a.tmps[i + j]? = some v) → TR P cx n T' a.tmps
  | [], vs, i, T, T', a, _, hT, h, _ => by simp only [sArgs, Option.some.injEq] at h; subst h; exact hT
  | b :: l, vs, i, T, T', a, hv, hT, h, hk => by
    simp only [RL] at hv
    obtain ⟨x, y, rfl, hx, hy⟩ := hv
    simp only [sArgs, Option.bind_eq_some_iff] at h
    obtain ⟨T1, h1, h⟩ := h
    have h0 := hk 0 x (by simp)
    have hsame : (a.put (some i) x).tmps = a.tmps := by
      simp only [Act.put]
      have hlt : i < a.tmps.size := by
        rcases Nat.lt_or_ge i a.tmps.size with h' | h'
        · exact h'
        · rw [Array.getElem?_eq_none (by omega)] at h0; cases h0
      apply Array.ext_getElem?
      intro j
      by_cases e : i = j
      · subst e; rw [Array.getElem?_setIfInBounds]; simp only [if_true, hlt]; simpa using h0.symm
      · rw [Array.getElem?_setIfInBounds_ne e]
    have hT1 := put_ok (a := a) hT hx h1
    rw [hsame] at hT1
    exact args_ok hy hT1 h fun j v hj => by
      have := hk (j + 1) v (by simpa using hj)
      rwa [show i + (j + 1) = i + 1 + j by omega] at this
theorem res_list {cx : Cx} {st : SS} {a : Act} {w : World} (hs : SR P M0 w0 S ds cx nt st a w) : ∀ {rs : List ResultVar} {as : List SV}, sRes P st rs = some as →
    ∃ vs, RL P cx as vs ∧ (rs.mapM (resOf a.tmps)).run P w = .ok vs w
  | [], as, h => by simp only [sRes, Option.some.injEq] at h; subst h; exact ⟨[], rfl, by simp⟩
  | .tmp t :: l, as, h => by
    simp only [sRes, Option.bind_eq_some_iff, Option.map_eq_some_iff] at h
    obtain ⟨b, hb, r, hr, rfl⟩ := h
    obtain ⟨vs, h1, h2⟩ := res_list hs hr
    obtain ⟨v, hv, hc⟩ := hs.tr.2 t b hb
    refine ⟨v :: vs, ⟨v, vs, rfl, hv, h1⟩, ?_⟩
    simp only [List.mapM_cons, Sem.run_bind, resOf, Sem.run_pure, Result.andThen_ok, Array.getD_eq_getD_getElem?, hc, Option.getD_some]
    rw [h2]; rfl
  | .cell b t :: l, as, h => by
    simp only [sRes, Option.bind_eq_some_iff, Option.map_eq_some_iff] at h
    obtain ⟨x, hx, y, hy, r, hr, rfl⟩ := h
    obtain ⟨vs, h1, h2⟩ := res_list hs hr
    obtain ⟨v, hv, hc⟩ := hs.tr.2 b _ hx
    obtain ⟨u2, hu2, hrun2⟩ := load_ok hs.wr hv hy
    have hrun2 := hrun2 w hs.wr.agree
    have hptr : ∃ ad, v = .pointer (some ad) := by
      unfold sLoad at hy
      split at hy
      · simp only [SV.R] at hv; obtain ⟨p, b, _, _, rfl⟩ := hv; exact ⟨_, rfl⟩
      · simp only [SV.R] at hv; obtain ⟨b, o, rfl, _⟩ := hv; exact ⟨_, rfl⟩
      · cases hy
    obtain ⟨ad, rfl⟩ := hptr
    refine ⟨u2 :: vs, ⟨u2, vs, rfl, hu2, h1⟩, ?_⟩
    have hl : (loadVar t ad).run P w = .ok u2 w := by simpa [Instr.loadAt, Instr.sureAddr] using hrun2
    simp only [List.mapM_cons, Sem.run_bind, resOf, Array.getD_eq_getD_getElem?, hc, Option.getD_some, asAddr, Sem.run_pure, Result.andThen_ok, hl]
    rw [h2]; rfl
theorem results_ok {cx : Cx} {st : SS} {a : Act} {w : World} (hs : SR P M0 w0 S ds cx nt st a w) {fn : Func} {as : List SV} (h : sRes P st fn.results.toList = some as) :
    ∃ v, (oneSV as).R P cx v ∧ (results fn a.tmps).run P w = .ok v w := by
  obtain ⟨vs, h1, h2⟩ := res_list hs h
  have hf : results fn a.tmps = (do let vs ← fn.results.mapM (resOf a.tmps); pure (if h : vs.size = 1 then vs[0] else .tuple vs)) := by
    unfold results
    congr 2
  have hrun : (results fn a.tmps).run P w = .ok (oneOf vs) w := by
    rw [hf]
    simp only [Array.mapM_eq_mapM_toList, Sem.run_bind, Sem.run_map]
    rw [h2]
    simp only [Result.andThen_ok, Sem.run_pure]
    match vs with
    | [] => simp [oneOf]
    | [v] => simp [oneOf]
    | v :: u :: l => simp [oneOf]
  refine ⟨_, ?_, hrun⟩
  have hl := RL_len h1
  match as, vs, hl, h1 with
  | [], [], _, h1 => exact ⟨[], h1, rfl⟩
  | [a], [v], _, h1 =>
    simp only [RL] at h1
    obtain ⟨v', vs', e, hv, rfl⟩ := h1
    cases e; exact hv
  | a :: b :: l, v :: u :: m, _, h1 => exact ⟨_, h1, rfl⟩
/-- What a function's tree tells. -/
theorem fn_ok (hNG : NG P) (hsg : ∀ k g, sg[k]? = some g → SigOK P g (orc k)) {draw : Nat → Array Oper → SS → Option (Tree SS)} (hdr : ∀ nt, DrawOK P orc kk nt (draw nt)) {g : Sig} {k : Nat} {T : Tree Unit} (h : fnTree P sg draw g k = some T) :
    SigOK P g fun ρ => outOf (T.den P orc kk ρ) := by
  unfold fnTree at h
  split at h
  · cases h
  · rename_i fn hfn
    split at h
    · cases h
    · rename_i c hc
      cases hb : Nat.ble g.args.length fn.ntmps with
      | false => simp [hb] at h
      | true =>
        simp only [hb, cond_true, Option.bind_eq_some_iff] at h
        obtain ⟨T0, hT0, X, hX, h⟩ := h
        cases hav : X.avoids 0 with
        | false => simp [hav] at h
        | true =>
          simp only [hav, cond_true] at h
          intro ρ σ M w vs outs hρ hW hargs hm hlen
          have hle := Nat.le_of_ble_eq_true hb
          have hvl := RL_len hargs
          obtain ⟨hcl, hok⟩ := se_ok (M0 := M) (w0 := w) (S := blkOf σ) (ds := []) (nh := g.Hi.length) hNG hsg (hdr fn.ntmps) _ _ _ _ _ hX
          refine calls_of_wp hfn hc ?_
          have hs0 : TR P ⟨ρ, σ, M⟩ fn.ntmps T0 (vs.toArray ++ Array.replicate (fn.ntmps - vs.toArray.size) undef) := by
            refine args_ok (a := { tmps := vs.toArray ++ Array.replicate (fn.ntmps - vs.toArray.size) undef, defers := [] }) hargs ⟨by simp; omega, fun t a ha => by simp [PTS.get] at ha⟩ hT0 fun j v hj => ?_
            have hjl := get_lt hj
            rw [Nat.zero_add, Array.getElem?_append_left (by simpa using hjl)]; simpa using hj
          have havoid : ∀ (q : AX × SS) (t : Tree Unit) (ρ : List D) (l : Nat) (es : List D), retLeaf P g fn.results.toList q = some t → t.den P orc kk ρ = some (.out l es) → X.avoids l = true := by
            intro q t ρ l es hq hd
            have ht : ∃ β, t = .out 0 β := by
              unfold retLeaf at hq
              split at hq
              · cases hq
              · simp only [Option.bind_eq_some_iff] at hq
                obtain ⟨l, _, hq⟩ := hq
                cases hf : fitSS P g.ni g.Hi.length ⟨[(0, g.res)], g.Ho, g.no⟩ (witness g.ni g.Hi.length ⟨[(0, g.res)], g.Ho, g.no⟩ ⟨ofList [(0, oneSV l)], q.2.H, q.2.n⟩).1 (witness g.ni g.Hi.length ⟨[(0, g.res)], g.Ho, g.no⟩ ⟨ofList [(0, oneSV l)], q.2.H, q.2.n⟩).2 ⟨ofList [(0, oneSV l)], q.2.H, q.2.n⟩ with
                | false => rw [hf] at hq; cases hq
                | true => rw [hf] at hq; simp only [cond_true, Option.some.injEq] at hq; exact ⟨_, hq.symm⟩
            obtain ⟨β, rfl⟩ := ht
            simp only [Tree.den, Option.map_eq_some_iff] at hd
            obtain ⟨_, _, e⟩ := hd
            cases e; exact hav
          have hden := den_bindM (P := P) (orc := orc) (k := kk) X h havoid ρ
          have hm : outOf (T.den P orc kk ρ) = some outs := hm
          rw [hden] at hm
          cases hXd : X.den P orc kk ρ with
          | none => rw [hXd] at hm; cases hm
          | some o1 =>
            cases o1 with
            | out l es => exact absurd hXd (hcl _ _ _)
            | leaf q ρ1 =>
              rw [hXd] at hm
              simp only [thenD] at hm
              refine wp_mono (hok ⟨ρ, σ, M⟩ _ w _ ⟨hW, hs0, rfl, hρ⟩ hXd) ?_
              rintro e a' w' ⟨x, st', cx', q1, q2, q3, q4⟩
              simp only [Out.leaf.injEq] at q1
              obtain ⟨rfl, rfl⟩ := q1
              cases hq : retLeaf P g fn.results.toList (x, st') with
              | none => rw [hq] at hm; cases hm
              | some t =>
                rw [hq] at hm
                simp only at hm
                have hx : x = .normal ∨ x = .ret := by
                  cases x with
                  | exit j => simp [retLeaf] at hq
                  | normal => exact .inl rfl
                  | ret => exact .inr rfl
                have hq' : (sRes P st' fn.results.toList).bind (fun l => bif fitSS P g.ni g.Hi.length ⟨[(0, g.res)], g.Ho, g.no⟩ (witness g.ni g.Hi.length ⟨[(0, g.res)], g.Ho, g.no⟩ ⟨ofList [(0, oneSV l)], st'.H, st'.n⟩).1 (witness g.ni g.Hi.length ⟨[(0, g.res)], g.Ho, g.no⟩ ⟨ofList [(0, oneSV l)], st'.H, st'.n⟩).2 ⟨ofList [(0, oneSV l)], st'.H, st'.n⟩ then some (Tree.out (α := Unit) 0 (witness g.ni g.Hi.length ⟨[(0, g.res)], g.Ho, g.no⟩ ⟨ofList [(0, oneSV l)], st'.H, st'.n⟩).1) else none) = some t := by
                  rcases hx with rfl | rfl <;> exact hq
                simp only [Option.bind_eq_some_iff] at hq'
                obtain ⟨l, hl, hq'⟩ := hq'
                cases hf : fitSS P g.ni g.Hi.length ⟨[(0, g.res)], g.Ho, g.no⟩ (witness g.ni g.Hi.length ⟨[(0, g.res)], g.Ho, g.no⟩ ⟨ofList [(0, oneSV l)], st'.H, st'.n⟩).1 (witness g.ni g.Hi.length ⟨[(0, g.res)], g.Ho, g.no⟩ ⟨ofList [(0, oneSV l)], st'.H, st'.n⟩).2 ⟨ofList [(0, oneSV l)], st'.H, st'.n⟩ with
                | false => rw [hf] at hq'; cases hq'
                | true =>
                  rw [hf] at hq'
                  simp only [cond_true, Option.some.injEq] at hq'
                  subst hq'
                  obtain ⟨v, hv, hrun⟩ := results_ok q4 hl
                  -- the results alone
                  have hs1 : SR P M w (blkOf σ) [] cx' 1 ⟨ofList [(0, oneSV l)], st'.H, st'.n⟩ { tmps := #[v], defers := [] } w' :=
                    ⟨q4.wr, ⟨rfl, fun t y hy => by
                      have := ofList_get hy
                      simp only [List.mem_singleton, Prod.mk.injEq] at this
                      obtain ⟨rfl, rfl⟩ := this
                      exact ⟨v, hv, rfl⟩⟩, rfl, q4.n⟩
                  simp only [Tree.den] at hm
                  cases hβ : denRow cx'.ρ (witness g.ni g.Hi.length ⟨[(0, g.res)], g.Ho, g.no⟩ ⟨ofList [(0, oneSV l)], st'.H, st'.n⟩).1 with
                  | none => rw [hβ] at hm; cases hm
                  | some es =>
                    rw [hβ] at hm
                    simp only [Option.map_some, outOf, Option.some.injEq] at hm
                    subst hm
                    have hpre : ρ <+: cx'.ρ := den_ext X hXd
                    obtain ⟨k1, k2, k3⟩ := fitSS_ok hf hs1 hpre hρ hβ
                    have hkeep := q3.trans k3
                    have hr : g.res.R P ⟨ρ ++ es, pickPl cx'.σ (witness g.ni g.Hi.length ⟨[(0, g.res)], g.Ho, g.no⟩ ⟨ofList [(0, oneSV l)], st'.H, st'.n⟩).2, cx'.M⟩ v := by
                      have h0 : (ofList [(0, g.res)]).get 0 = some g.res := rfl
                      obtain ⟨u, hu, hut⟩ := k2.tr.2 0 g.res h0
                      have hv0 : (#[v] : Array Value)[0]? = some v := rfl
                      rw [hv0] at hut; cases hut; exact hu
                    have hσ : σ <+: pickPl cx'.σ (witness g.ni g.Hi.length ⟨[(0, g.res)], g.Ho, g.no⟩ ⟨ofList [(0, oneSV l)], st'.H, st'.n⟩).2 := by
                      have hlenσ : σ.length = g.Hi.length := hW.len
                      refine ⟨(pickPl cx'.σ (witness g.ni g.Hi.length ⟨[(0, g.res)], g.Ho, g.no⟩ ⟨ofList [(0, oneSV l)], st'.H, st'.n⟩).2).drop σ.length, ?_⟩
                      apply List.ext_getElem?
                      intro i
                      rcases Nat.lt_or_ge i σ.length with hi | hi
                      · rw [List.getElem?_append_left hi]
                        have := hkeep.2 i σ[i] (by omega) (List.getElem?_eq_getElem hi)
                        rw [this]; exact List.getElem?_eq_getElem hi
                      · rw [List.getElem?_append_right hi, List.getElem?_drop]
                        congr 1; omega
                    have post : a'.defers = [] ∧ ∃ v, (results fn a'.tmps).run P w' = .ok v w' ∧ ∃ σ' M' v', Ending.returned v = .returned v' ∧ σ <+: σ' ∧ M.le M' ∧ WR P M w (blkOf σ) ⟨ρ ++ es, σ', M'⟩ g.Ho w' ∧ g.res.R P ⟨ρ ++ es, σ', M'⟩ v' :=
                      ⟨q4.df, v, hrun, _, _, v, rfl, hσ, hkeep.1, k2.wr, hr⟩
                    rcases hx with rfl | rfl
                    · cases e <;> first | exact q2.elim | exact post
                    · cases e <;> first | exact q2.elim | exact post

/-! all functions -/
inductive Ent where
  | tree (T : Tree Unit)
  | ext (m : List D → Option (List D))
/-- What all functions compute, at so many rounds. -/
def Mo (P : Program) (ents : List Ent) : Nat → Nat → List D → Option (List D)
  | 0, _, _ => none
  | n + 1, k, ρ => match ents[k]? with
    | some (.tree T) => outOf (T.den P (Mo P ents n) n ρ)
    | some (.ext m) => m ρ
    | none => none
def EntOK (P : Program) (sg : List Sig) (draw : Nat → Array Oper → SS → Option (Tree SS)) (g : Sig) : Ent → Prop
  | .tree T => ∃ k, fnTree P sg draw g k = some T
  | .ext m => SigOK P g m
theorem all_ok (hNG : NG P) {draw : Nat → Array Oper → SS → Option (Tree SS)} (hdr : ∀ orc kk nt, (∀ k g, sg[k]? = some g → SigOK P g (orc k)) → DrawOK P orc kk nt (draw nt)) {ents : List Ent}
    (h : ∀ (k : Nat) (g : Sig), sg[k]? = some g → ∃ e, ents[k]? = some e ∧ EntOK P sg draw g e) : ∀ n k g, sg[k]? = some g → SigOK P g (Mo P ents n k)
  | 0, k, g, hg => fun ρ σ M w vs outs _ _ _ hm => by cases hm
  | n + 1, k, g, hg => by
    have ih := all_ok hNG hdr h n
    obtain ⟨e, he, hok⟩ := h k g hg
    cases e with
    | tree T =>
      obtain ⟨kf, hT⟩ := hok
      have := fn_ok (kk := n) hNG ih (fun nt => hdr _ n nt ih) hT
      intro ρ σ M w vs outs h1 h2 h3 h4
      refine this ρ σ M w vs outs h1 h2 h3 ?_
      simpa [Mo, he] using h4
    | ext m =>
      intro ρ σ M w vs outs h1 h2 h3 h4
      refine hok ρ σ M w vs outs h1 h2 h3 ?_
      simpa [Mo, he] using h4
end
end Go.Proofs.YtfphabkdgdgnbaaGreatDoor.SE
set_option linter.unusedVariables false
set_option linter.unusedSimpArgs false
set_option linter.unusedSectionVars false
namespace Go.Proofs.YtfphabkdgdgnbaaGreatDoor.SE
open Go Go.RowKit Go.Proofs.YtfphabkdgdgnbaaGreatDoor.AE
variable [Tb]

/-! regions that draw their order: the text's order tells what they come to, every other one comes to the same -/
/-- What is known along a way through the tree. -/
structure Fx where
  B : List (Pr × Nat × Nat)
  A : List (Ex × Bool)
  E : PTS
def lookA (x : Ex) : List (Ex × Bool) → Option Bool
  | [] => none
  | (y, b) :: l => bif eqEx x y then some b else lookA x l
def normV (A : List (Ex × Bool)) (a : SV) : SV :=
  match a with
  | .s x => match lookA x A with
    | some b => .c (.bool b)
    | none => .s x
  | a => a
def listSlots (T : PTS) : Nat → List (Nat × SV)
  | 0 => []
  | t + 1 => match T.get t with
    | some a => (t, a) :: listSlots T t
    | none => listSlots T t
def normSlots (A : List (Ex × Bool)) : List (Nat × SV) → List (Nat × SV)
  | [] => []
  | (t, a) :: l => (t, normV A a) :: normSlots A l
def normSS (A : List (Ex × Bool)) (nt : Nat) (st : SS) : SS := ⟨ofList (normSlots A (listSlots st.T nt)), st.H, st.n⟩
def eqOSV : Option SV → Option SV → Bool
  | none, none => true
  | some a, some b => eqSV a b
  | _, _ => false
def eqPr : Pr → Pr → Bool
  | .pure f a, .pure g b => decide (f = g) && eqSL a b
  | .llen x, .llen y => eqEx x y
  | .row n x i, .row m y j => Nat.beq n m && eqEx x y && eqSV i j
  | .sub x a b, .sub y c d => eqEx x y && eqOSV a c && eqOSV b d
  | .cat x y, .cat a b => eqEx x a && eqEx y b
  | .catS x y, .catS a b => eqEx x a && eqSV y b
  | .call g x, .call h y => Nat.beq g h && eqRow x y
  | .toStr x, .toStr y => eqEx x y
  | .toBytes x, .toBytes y => eqSV x y
  | _, _ => false
mutual
theorem eqSV_ok : ∀ {a b : SV}, eqSV a b = true → a = b
  | .c u, .c v, h => by rw [eqV_ok h]
  | .s x, .s y, h => by rw [eqEx_ok h]
  | .d e x, .d e' y, h => by simp only [eqSV, Bool.and_eq_true] at h; rw [Nat.eq_of_beq_eq_true h.1, eqEx_ok h.2]
  | .sp a, .sp b, h => by rw [eqSL_ok h]
  | .agg a, .agg b, h => by rw [eqSL_ok h]
  | .tup a, .tup b, h => by rw [eqSL_ok h]
  | .fn k a b, .fn k' a' b', h => by simp only [eqSV, Bool.and_eq_true] at h; rw [eqFn_ok h.1.1, eqSL_ok h.1.2, eqSL_ok h.2]
  | .ifc t x, .ifc t' y, h => by simp only [eqSV, Bool.and_eq_true] at h; rw [Nat.eq_of_beq_eq_true h.1, eqSV_ok h.2]
  | .own _, b, h => by cases b <;> simp [eqSV] at h
  | .slc _ _ _ _, b, h => by cases b <;> simp [eqSV] at h
  | .ptr _ _, b, h => by cases b <;> simp [eqSV] at h
  | .unk, b, h => by cases b <;> simp [eqSV] at h
  | .c u, .s _, h => by simp [eqSV] at h
  | .c u, .d _ _, h => by simp [eqSV] at h
  | .c u, .own _, h => by simp [eqSV] at h
  | .c u, .slc _ _ _ _, h => by simp [eqSV] at h
  | .c u, .ptr _ _, h => by simp [eqSV] at h
  | .c u, .sp _, h => by simp [eqSV] at h
  | .c u, .agg _, h => by simp [eqSV] at h
  | .c u, .tup _, h => by simp [eqSV] at h
  | .c u, .fn _ _ _, h => by simp [eqSV] at h
  | .c u, .ifc _ _, h => by simp [eqSV] at h
  | .c u, .unk, h => by simp [eqSV] at h
  | .s x, .c _, h => by simp [eqSV] at h
  | .s x, .d _ _, h => by simp [eqSV] at h
  | .s x, .own _, h => by simp [eqSV] at h
  | .s x, .slc _ _ _ _, h => by simp [eqSV] at h
  | .s x, .ptr _ _, h => by simp [eqSV] at h
  | .s x, .sp _, h => by simp [eqSV] at h
  | .s x, .agg _, h => by simp [eqSV] at h
  | .s x, .tup _, h => by simp [eqSV] at h
  | .s x, .fn _ _ _, h => by simp [eqSV] at h
  | .s x, .ifc _ _, h => by simp [eqSV] at h
  | .s x, .unk, h => by simp [eqSV] at h
  | .d e x, .c _, h => by simp [eqSV] at h
  | .d e x, .s _, h => by simp [eqSV] at h
  | .d e x, .own _, h => by simp [eqSV] at h
  | .d e x, .slc _ _ _ _, h => by simp [eqSV] at h
  | .d e x, .ptr _ _, h => by simp [eqSV] at h
  | .d e x, .sp _, h => by simp [eqSV] at h
  | .d e x, .agg _, h => by simp [eqSV] at h
  | .d e x, .tup _, h => by simp [eqSV] at h
  | .d e x, .fn _ _ _, h => by simp [eqSV] at h
  | .d e x, .ifc _ _, h => by simp [eqSV] at h
  | .d e x, .unk, h => by simp [eqSV] at h
  | .sp a, .c _, h => by simp [eqSV] at h
  | .sp a, .s _, h => by simp [eqSV] at h
  | .sp a, .d _ _, h => by simp [eqSV] at h
  | .sp a, .own _, h => by simp [eqSV] at h
  | .sp a, .slc _ _ _ _, h => by simp [eqSV] at h
  | .sp a, .ptr _ _, h => by simp [eqSV] at h
  | .sp a, .agg _, h => by simp [eqSV] at h
  | .sp a, .tup _, h => by simp [eqSV] at h
  | .sp a, .fn _ _ _, h => by simp [eqSV] at h
  | .sp a, .ifc _ _, h => by simp [eqSV] at h
  | .sp a, .unk, h => by simp [eqSV] at h
  | .agg a, .c _, h => by simp [eqSV] at h
  | .agg a, .s _, h => by simp [eqSV] at h
  | .agg a, .d _ _, h => by simp [eqSV] at h
  | .agg a, .own _, h => by simp [eqSV] at h
  | .agg a, .slc _ _ _ _, h => by simp [eqSV] at h
  | .agg a, .ptr _ _, h => by simp [eqSV] at h
  | .agg a, .sp _, h => by simp [eqSV] at h
  | .agg a, .tup _, h => by simp [eqSV] at h
  | .agg a, .fn _ _ _, h => by simp [eqSV] at h
  | .agg a, .ifc _ _, h => by simp [eqSV] at h
  | .agg a, .unk, h => by simp [eqSV] at h
  | .tup a, .c _, h => by simp [eqSV] at h
  | .tup a, .s _, h => by simp [eqSV] at h
  | .tup a, .d _ _, h => by simp [eqSV] at h
  | .tup a, .own _, h => by simp [eqSV] at h
  | .tup a, .slc _ _ _ _, h => by simp [eqSV] at h
  | .tup a, .ptr _ _, h => by simp [eqSV] at h
  | .tup a, .sp _, h => by simp [eqSV] at h
  | .tup a, .agg _, h => by simp [eqSV] at h
  | .tup a, .fn _ _ _, h => by simp [eqSV] at h
  | .tup a, .ifc _ _, h => by simp [eqSV] at h
  | .tup a, .unk, h => by simp [eqSV] at h
  | .fn _ _ _, .c _, h => by simp [eqSV] at h
  | .fn _ _ _, .s _, h => by simp [eqSV] at h
  | .fn _ _ _, .d _ _, h => by simp [eqSV] at h
  | .fn _ _ _, .own _, h => by simp [eqSV] at h
  | .fn _ _ _, .slc _ _ _ _, h => by simp [eqSV] at h
  | .fn _ _ _, .ptr _ _, h => by simp [eqSV] at h
  | .fn _ _ _, .sp _, h => by simp [eqSV] at h
  | .fn _ _ _, .agg _, h => by simp [eqSV] at h
  | .fn _ _ _, .tup _, h => by simp [eqSV] at h
  | .fn _ _ _, .ifc _ _, h => by simp [eqSV] at h
  | .fn _ _ _, .unk, h => by simp [eqSV] at h
  | .ifc _ _, .c _, h => by simp [eqSV] at h
  | .ifc _ _, .s _, h => by simp [eqSV] at h
  | .ifc _ _, .d _ _, h => by simp [eqSV] at h
  | .ifc _ _, .own _, h => by simp [eqSV] at h
  | .ifc _ _, .slc _ _ _ _, h => by simp [eqSV] at h
  | .ifc _ _, .ptr _ _, h => by simp [eqSV] at h
  | .ifc _ _, .sp _, h => by simp [eqSV] at h
  | .ifc _ _, .agg _, h => by simp [eqSV] at h
  | .ifc _ _, .tup _, h => by simp [eqSV] at h
  | .ifc _ _, .fn _ _ _, h => by simp [eqSV] at h
  | .ifc _ _, .unk, h => by simp [eqSV] at h
theorem eqSL_ok : ∀ {a b : List SV}, eqSL a b = true → a = b
  | [], [], _ => rfl
  | a :: l, b :: m, h => by simp only [eqSL, Bool.and_eq_true] at h; rw [eqSV_ok h.1, eqSL_ok h.2]
  | [], _ :: _, h => by simp [eqSL] at h
  | _ :: _, [], h => by simp [eqSL] at h
end
theorem eqOSV_ok {a b : Option SV} (h : eqOSV a b = true) : a = b := by
  cases a <;> cases b <;> first | rfl | (simp [eqOSV] at h; done) | (simp only [eqOSV] at h; rw [eqSV_ok h])
theorem eqPr_ok {a b : Pr} (h : eqPr a b = true) : a = b := by
  cases a <;> cases b <;> simp only [eqPr, Bool.and_eq_true, decide_eq_true_eq] at h <;> first
    | (cases h; done)
    | (rw [h.1, eqSL_ok h.2]; done)
    | (rw [eqEx_ok h]; done)
    | (rw [Nat.eq_of_beq_eq_true h.1.1, eqEx_ok h.1.2, eqSV_ok h.2]; done)
    | (rw [eqEx_ok h.1.1, eqOSV_ok h.1.2, eqOSV_ok h.2]; done)
    | (rw [eqEx_ok h.1, eqEx_ok h.2]; done)
    | (rw [eqEx_ok h.1, eqSV_ok h.2]; done)
    | (rw [Nat.eq_of_beq_eq_true h.1, eqRow_ok h.2]; done)
    | (rw [eqSV_ok h]; done)
/-- The places where it was bound; the one that is wanted, if it is among them. -/
def lookB (ok : Nat → Bool) (p : Pr) (k : Nat) : List (Pr × Nat × Nat) → Option Nat
  | [] => none
  | (q, m, b) :: l => bif eqPr p q && Nat.beq k m then (bif ok b then some b else match lookB ok p k l with
      | some b' => some b'
      | none => some b) else lookB ok p k l
def baseOf (B : List (Pr × Nat × Nat)) (ok : Nat → Bool) : Option (Pr × Nat) → Option Nat
  | none => some 0
  | some (p, k) => lookB ok p k B
def isAt (E : PTS) (d : Option Tmp) (a : SV) : Bool :=
  match d with
  | none => true
  | some t => match E.get t with
    | some b => eqSV a b
    | none => true

/-- A state beside what of its slots was known before. -/
structure XS where
  s : SS
  To : PTS
def aliveAt (K : SH) (i : Nat) : Bool :=
  match K[i]? with
  | some o => o.live
  | none => false
def aliveAll : SH → SH → Bool
  | [], _ => true
  | o :: l, [] => !o.live && aliveAll l []
  | o :: l, o' :: m => (!o.live || o'.live) && aliveAll l m
theorem aliveAll_ok : ∀ {K H : SH}, aliveAll K H = true → ∀ (i : Nat) (o : SObj), K[i]? = some o → o.live = true → ∃ o', H[i]? = some o' ∧ o'.live = true
  | [], _, _, i, o, h, _ => by simp at h
  | k :: l, [], ha, i, o, h, hl => by
    simp only [aliveAll, Bool.and_eq_true, Bool.not_eq_true'] at ha
    cases i with
    | zero => simp at h; subst h; rw [ha.1] at hl; cases hl
    | succ i => obtain ⟨o', h1, h2⟩ := aliveAll_ok ha.2 i o (by simpa using h) hl; simp at h1
  | k :: l, o' :: m, ha, i, o, h, hl => by
    simp only [aliveAll, Bool.and_eq_true, Bool.or_eq_true, Bool.not_eq_true'] at ha
    cases i with
    | zero =>
      simp at h; subst h
      rcases ha.1 with h1 | h1
      · rw [h1] at hl; cases hl
      · exact ⟨o', rfl, h1⟩
    | succ i => obtain ⟨o2, h1, h2⟩ := aliveAll_ok ha.2 i o (by simpa using h) hl; exact ⟨o2, by simpa using h1, h2⟩
def oneX (P : Program) (sg : List Sig) (nt : Nat) (ops : Array Oper) (F : Fx) (K : SH) (j : Nat) (x : XS) : Option XS :=
  match ops[j]? with
  | none => none
  | some o => match want x.s.T ops o with
    | .no => (sPut nt o.dst (.c undef) x.s.T).bind fun T' => (sPut nt o.dst (.c undef) x.To).map fun U' => ⟨⟨T', x.s.H, x.s.n⟩, U'⟩
    | .yes => match stp P sg o x.s with
      | none => none
      | some s => (baseOf F.B (fun b => isAt F.E o.dst (normV F.A (s.res x.s.H b).1)) s.p).bind fun b =>
        bif s.touched.any (aliveAt K) || !aliveAll K (s.res x.s.H b).2 then none else
        (sPut nt o.dst (normV F.A (s.res x.s.H b).1) x.s.T).bind fun T' => (sPut nt o.dst .unk x.To).map fun U' => ⟨⟨T', (s.res x.s.H b).2, x.s.n⟩, U'⟩
    | _ => none
def SV.known : SV → Bool
  | .unk => false
  | .sp cs => all cs
  | .agg cs => all cs
  | .tup cs => all cs
  | .fn _ a b => all a && all b
  | .ifc _ x => x.known
  | _ => true
where all : List SV → Bool
  | [] => true
  | a :: l => a.known && all l
/-- An operation that looks at what was there. -/
def lookX (P : Program) (nt : Nat) (ops : Array Oper) (F : Fx) (K : SH) (j : Nat) (x : XS) : Option XS :=
  match ops[j]? with
  | none => none
  | some o => match want x.To ops o with
    | .no => (sPut nt o.dst (.c undef) x.s.T).bind fun T' => (sPut nt o.dst (.c undef) x.To).map fun U' => ⟨⟨T', x.s.H, x.s.n⟩, U'⟩
    | .yes => match vStep P (ev x.To) o K with
      | none => none
      | some v => (baseOf F.B (fun b => isAt F.E o.dst (normV F.A (v.2 b))) v.1).bind fun b => bif !(v.2 b).known then none else
        (sPut nt o.dst (normV F.A (v.2 b)) x.s.T).bind fun T' => (sPut nt o.dst (normV F.A (v.2 b)) x.To).map fun U' => ⟨⟨T', x.s.H, x.s.n⟩, U'⟩
    | _ => none
def firstX (P : Program) (nt : Nat) (ops : Array Oper) (F : Fx) (K : SH) (listed : Array Bool) (x : XS) : List Nat → Option (Nat × XS)
  | [] => none
  | i :: l => match bif Region.free .any ops listed i then lookX P nt ops F K i x else none with
    | some x' => some (i, x')
    | none => firstX P nt ops F K listed x l
def allB (f : Nat → Bool) : List Nat → Bool
  | [] => true
  | i :: l => f i && allB f l
/-- Every order comes to a state that fits the pattern. -/
def anyX (P : Program) (sg : List Sig) (nt nh : Nat) (ops : Array Oper) (F : Fx) (K : SH) (p : Pat) : Nat → Array Bool → XS → Bool
  | 0, listed, x => match Region.ready .any ops listed with
    | [] => fitSS P x.s.n nh p (witness x.s.n nh p x.s).1 (witness x.s.n nh p x.s).2 x.s
    | _ => false
  | fuel + 1, listed, x => match Region.ready .any ops listed with
    | [] => fitSS P x.s.n nh p (witness x.s.n nh p x.s).1 (witness x.s.n nh p x.s).2 x.s
    | i :: l => match firstX P nt ops F K listed x (i :: l) with
      | some (j, x') => anyX P sg nt nh ops F K p fuel (listed.setIfInBounds j true) x'
      | none => allB (fun j => match oneX P sg nt ops F K j x with
        | some x' => anyX P sg nt nh ops F K p fuel (listed.setIfInBounds j true) x'
        | none => false) (i :: l)
/-- What is written in the text's order. -/
def touchedIn (P : Program) (sg : List Sig) (nt : Nat) (ops : Array Oper) : List Nat → SS → List Nat
  | [], _ => []
  | i :: rest, st => match ops[i]? with
    | none => []
    | some o => match stp P sg o st with
      | none => match sPut nt o.dst (.c undef) st.T with
        | some T' => touchedIn P sg nt ops rest ⟨T', st.H, st.n⟩
        | none => []
      | some s => match sPut nt o.dst (s.res st.H st.n).1 st.T with
        | some T' => s.touched ++ touchedIn P sg nt ops rest ⟨T', (s.res st.H st.n).2, st.n + (match s.p with | some (_, k) => k | none => 0)⟩
        | none => s.touched
def killAll : SH → List Nat → SH
  | H, [] => H
  | H, i :: l => killAll (H.set i .dead) l
/-! the way without orders: each operation, with what surely came before it, comes to what it came to in the text's order -/
def depsX (o : Oper) : List Nat := (o.after.toList.filter fun e => Region.binds .any e).map fun e => e.on
def maskOf (acc : List Nat) : List Nat → Nat
  | [] => 0
  | d :: l => Nat.lor (Nat.lor (Nat.shiftLeft 1 d) (acc[d]?.getD 0)) (maskOf acc l)
def sureL : List Oper → List Nat → List Nat
  | [], acc => acc
  | o :: l, acc => sureL l (acc ++ [maskOf acc (depsX o)])
def unkAll (nt : Nat) : List Oper → PTS → Option PTS
  | [], T => some T
  | o :: l, T => (sPut nt o.dst .unk T).bind (unkAll nt l)
def sureT (nt : Nat) (E : PTS) (m : Nat → Bool) : List Oper → Nat → PTS → Option PTS
  | [], _, T => some T
  | o :: l, i, T => bif m i then (match o.dst with
      | none => sureT nt E m l (i + 1) T
      | some t => (sPut nt (some t) ((E.get t).getD .unk) T).bind (sureT nt E m l (i + 1))) else sureT nt E m l (i + 1) T
def isAt1 (E : PTS) (d : Option Tmp) (a : SV) : Bool :=
  match d with
  | none => true
  | some t => match E.get t with
    | some .unk => true
    | some b => eqSV a b
    | none => true
def eqSH : SH → SH → Bool
  | [], [] => true
  | .dead :: l, .dead :: m => eqSH l m
  | .box a e :: l, .box b f :: m => eqSL a b && Nat.beq e f && eqSH l m
  | .grow e x :: l, .grow f y :: m => Nat.beq e f && eqEx x y && eqSH l m
  | _, _ => false
def detOp (P : Program) (sg : List Sig) (nt : Nat) (ops : Array Oper) (F : Fx) (H : SH) (n : Nat) (T0 : PTS) (ms : List Nat) (j : Nat) : Bool :=
  match ops[j]? with
  | none => true
  | some o => (depsX o).all (fun d => Nat.blt d j) && match sureT nt F.E (fun i => Nat.testBit (ms[j]?.getD 0) i) ops.toList 0 T0 with
    | none => false
    | some T => match want T ops o with
      | .no => isAt1 F.E o.dst (.c undef)
      | .yes => match stp P sg o ⟨T, H, n⟩ with
        | none => false
        | some s => match baseOf F.B (fun b => isAt F.E o.dst (normV F.A (s.res H b).1)) s.p with
          | none => false
          | some b => eqSH (s.res H b).2 H && isAt1 F.E o.dst (normV F.A (s.res H b).1)
      | _ => false
def detX (P : Program) (sg : List Sig) (nt nh : Nat) (ops : Array Oper) (F : Fx) (p : Pat) (x : SS) : Bool :=
  match unkAll nt ops.toList x.T with
  | none => false
  | some T0 => allB (detOp P sg nt ops F x.H x.n T0 (sureL ops.toList [])) (List.range ops.size) && (match sureT nt F.E (fun _ => true) ops.toList 0 T0 with
    | none => false
    | some T => fitSS P x.n nh p (witness x.n nh p ⟨T, x.H, x.n⟩).1 (witness x.n nh p ⟨T, x.H, x.n⟩).2 ⟨T, x.H, x.n⟩)
def okX (P : Program) (sg : List Sig) (nt nh : Nat) (ops : Array Oper) (F : Fx) (K : SH) (p : Pat) (x : XS) : Bool :=
  detX P sg nt nh ops F p x.s || (aliveAll K x.s.H && anyX P sg nt nh ops F K p ops.size (Array.replicate ops.size false) x)
def leafX (P : Program) (sg : List Sig) (nt nh : Nat) (ops : Array Oper) (st : SS) (K : SH) (F : Fx) (stf : SS) : Option (Tree SS) :=
  let e := normSS F.A nt stf
  let s0 := normSS F.A nt st
  bif okX P sg nt nh ops ⟨F.B, F.A, e.T⟩ K ⟨listSlots e.T nt, e.H, 0⟩ ⟨⟨s0.T, st.H, stf.n⟩, s0.T⟩ then some (.leaf ⟨ofList (listSlots e.T nt), e.H, stf.n⟩) else none
def waysX (P : Program) (sg : List Sig) (nt nh : Nat) (ops : Array Oper) (st : SS) (K : SH) : Fx → Nat → Tree SS → Option (Tree SS)
  | F, n, .leaf stf => bif Nat.beq stf.n n then leafX P sg nt nh ops st K F stf else none
  | F, n, .op p k t => (waysX P sg nt nh ops st K ⟨(p, k, n) :: F.B, F.A, F.E⟩ (n + k) t).map (.op p k)
  | F, n, .ite x a b => (waysX P sg nt nh ops st K ⟨F.B, (x, true) :: F.A, F.E⟩ n a).bind fun a' => (waysX P sg nt nh ops st K ⟨F.B, (x, false) :: F.A, F.E⟩ n b).map fun b' => .ite x a' b'
  | _, _, _ => some .fail
def drawX (P : Program) (sg : List Sig) (nt : Nat) (ops : Array Oper) (st : SS) : Option (Tree SS) :=
  bif Region.noSelect ops then
    (seOps P sg nt ops (List.range ops.size) st).bind fun T => match waysX P sg nt st.H.length ops st (killAll st.H (touchedIn P sg nt ops (List.range ops.size) st)) ⟨[], [], .nil⟩ st.n T with
      | some T' => some T'
      | none => some .fail
  else some .fail

section
variable {P : Program} {orc : Nat → List D → Option (List D)} {kk : Nat} {sg : List Sig} {M0 : Mem} {w0 : World} {S : Nat → Prop} {ds : List Deferred} {nt nh : Nat}
def FxOK (P : Program) (orc : Nat → List D → Option (List D)) (F : Fx) (ρ : List D) : Prop :=
  (∀ p k b, (p, k, b) ∈ F.B → Bd P orc ρ b (some (p, k))) ∧ ∀ x b, (x, b) ∈ F.A → x.den ρ = some (.v (.bool b))
theorem bd_mono {ρ ρ' : List D} (h : ρ <+: ρ') {b : Nat} {q : Option (Pr × Nat)} (k : Bd P orc ρ b q) : Bd P orc ρ' b q := by
  cases q with
  | none => trivial
  | some q =>
    obtain ⟨p, n⟩ := q
    obtain ⟨es, h1, h2, h3⟩ := k
    exact ⟨es, pr_mono h h1, h2, fun j d hj => env_mono h (h3 j d hj)⟩
theorem FxOK.mono {F : Fx} {ρ ρ' : List D} (h : ρ <+: ρ') (k : FxOK P orc F ρ) : FxOK P orc F ρ' :=
  ⟨fun p n b hm => bd_mono h (k.1 p n b hm), fun x b hm => den_mono h x (k.2 x b hm)⟩
theorem lookA_mem {x : Ex} {b : Bool} : ∀ {A : List (Ex × Bool)}, lookA x A = some b → (x, b) ∈ A
  | [], h => by cases h
  | (y, c) :: l, h => by
    simp only [lookA] at h
    cases he : eqEx x y with
    | true => simp only [he, cond_true, Option.some.injEq] at h; subst h; rw [eqEx_ok he]; exact List.mem_cons_self ..
    | false => simp only [he, cond_false] at h; exact List.mem_cons_of_mem _ (lookA_mem h)
theorem lookB_mem {ok : Nat → Bool} {p : Pr} {k b : Nat} : ∀ {B : List (Pr × Nat × Nat)}, lookB ok p k B = some b → (p, k, b) ∈ B
  | [], h => by cases h
  | (q, m, c) :: l, h => by
    simp only [lookB] at h
    cases he : (eqPr p q && Nat.beq k m) with
    | true =>
      simp only [he, cond_true] at h
      simp only [Bool.and_eq_true] at he
      have hhd : (p, k, c) ∈ (q, m, c) :: l := by rw [eqPr_ok he.1, Nat.eq_of_beq_eq_true he.2]; exact List.mem_cons_self ..
      cases ho : ok c with
      | true => simp only [ho, cond_true, Option.some.injEq] at h; subst h; exact hhd
      | false =>
        simp only [ho, cond_false] at h
        split at h
        · rename_i b' hb'
          simp only [Option.some.injEq] at h; subst h
          exact List.mem_cons_of_mem _ (lookB_mem hb')
        · simp only [Option.some.injEq] at h; subst h; exact hhd
    | false => simp only [he, cond_false] at h; exact List.mem_cons_of_mem _ (lookB_mem h)
theorem baseOf_ok {F : Fx} {ρ : List D} (hF : FxOK P orc F ρ) {ok : Nat → Bool} {q : Option (Pr × Nat)} {b : Nat} (h : baseOf F.B ok q = some b) : Bd P orc ρ b q := by
  cases q with
  | none => trivial
  | some q => obtain ⟨p, k⟩ := q; exact hF.1 p k b (lookB_mem h)
theorem normV_ok {F : Fx} {cx : Cx} (hF : FxOK P orc F cx.ρ) {a : SV} {v : Value} (h : a.R P cx v) : (normV F.A a).R P cx v := by
  unfold normV
  split
  · rename_i x
    split
    · rename_i b hb
      have h1 := hF.2 x b (lookA_mem hb)
      have h2 : x.den cx.ρ = some (.v v) := h.1
      rw [h1] at h2
      simp only [Option.some.injEq, D.v.injEq] at h2
      exact h2.symm
    · exact h
  · exact h
theorem listSlots_mem {T : PTS} : ∀ {n t : Nat} {a : SV}, (t, a) ∈ listSlots T n → T.get t = some a
  | 0, t, a, h => by cases h
  | n + 1, t, a, h => by
    simp only [listSlots] at h
    split at h
    · rename_i b hb
      rcases List.mem_cons.1 h with e | h
      · simp only [Prod.mk.injEq] at e; obtain ⟨rfl, rfl⟩ := e; exact hb
      · exact listSlots_mem h
    · exact listSlots_mem h
theorem normSlots_mem {A : List (Ex × Bool)} : ∀ {l : List (Nat × SV)} {t : Nat} {a : SV}, (t, a) ∈ normSlots A l → ∃ b, (t, b) ∈ l ∧ a = normV A b
  | [], t, a, h => by cases h
  | (u, b) :: l, t, a, h => by
    simp only [normSlots] at h
    rcases List.mem_cons.1 h with e | h
    · simp only [Prod.mk.injEq] at e; obtain ⟨rfl, rfl⟩ := e; exact ⟨b, List.mem_cons_self .., rfl⟩
    · obtain ⟨c, h1, h2⟩ := normSlots_mem h; exact ⟨c, List.mem_cons_of_mem _ h1, h2⟩
theorem normSS_TR {F : Fx} {cx : Cx} {st : SS} {tmps : Array Value} (hF : FxOK P orc F cx.ρ) (h : TR P cx nt st.T tmps) : TR P cx nt (normSS F.A nt st).T tmps :=
  ⟨h.1, fun t x hx => by
    obtain ⟨b, h1, rfl⟩ := normSlots_mem (ofList_get hx)
    obtain ⟨v, hv, ht⟩ := h.2 t b (listSlots_mem h1)
    exact ⟨v, normV_ok hF hv, ht⟩⟩
theorem killAll_wr {cx : Cx} {w : World} : ∀ (l : List Nat) {H : SH}, WR P M0 w0 S cx H w → WR P M0 w0 S cx (killAll H l) w
  | [], H, h => h
  | i :: l, H, h => killAll_wr l (h.kill i)
/-- What is seen of a region from its beginning. -/
structure XR' (P : Program) (M0 : Mem) (w0 : World) (S : Nat → Prop) (ds : List Deferred) (nt : Nat) (cs : Cx) (K : SH) (ws : World) (x : XS) (cx : Cx) (a : Act) (w : World) : Prop where
  sr : SR P M0 w0 S ds cx nt x.s a w
  le : cs.le cx
  ρ : cx.ρ = cs.ρ
  to : TR P cs nt x.To a.tmps
  ag : Agree cs K ws w
  al : ∀ (i : Nat) (o : SObj), K[i]? = some o → o.live = true → ∃ o', x.s.H[i]? = some o' ∧ o'.live = true
theorem one_ok (hNG : NG P) (hsg : ∀ k g, sg[k]? = some g → SigOK P g (orc k)) {ops : Array Oper} {F : Fx} {K : SH} {cs : Cx} {ws : World} (hF : FxOK P orc F cs.ρ) {j : Nat} {x x' : XS} {cx : Cx} {a : Act} {w : World} {Q : Exit → Act → World → Prop} {G : Act → World → Prop}
    (h : oneX P sg nt ops F K j x = some x') (hx : XR' P M0 w0 S ds nt cs K ws x cx a w) (hG : ∀ cx' a' w', XR' P M0 w0 S ds nt cs K ws x' cx' a' w' → x'.s.n = x.s.n → G a' w') : wpOp P ops Q j G a w := by
  unfold oneX at h
  unfold wpOp
  cases ho : ops[j]? with
  | none => rw [ho] at h; cases h
  | some o =>
    rw [ho] at h
    simp only at h ⊢
    split at h
    · rename_i hw
      rw [(want_yes hx.sr.tr).2.1 hw]
      simp only [Bool.false_eq_true, if_false]
      simp only [Option.bind_eq_some_iff, Option.map_eq_some_iff] at h
      obtain ⟨T', hT, U', hU, rfl⟩ := h
      exact hG cx _ w ⟨⟨hx.sr.wr, put_ok hx.sr.tr (b := .c undef) (v := undef) rfl hT, by rw [put_defers]; exact hx.sr.df, hx.sr.n⟩, hx.le, hx.ρ, put_ok hx.to (b := .c undef) (v := undef) rfl hU, hx.ag, hx.al⟩ rfl
    · rename_i hw
      rw [(want_yes hx.sr.tr).1 hw]
      simp only [if_true]
      refine .inl ?_
      split at h
      · cases h
      · rename_i s hs
        simp only [Option.bind_eq_some_iff] at h
        obtain ⟨b, hb, h⟩ := h
        cases ht : (s.touched.any (aliveAt K) || !aliveAll K (s.res x.s.H b).2) with
        | true => simp [ht] at h
        | false =>
          simp only [ht, cond_false, Option.bind_eq_some_iff, Option.map_eq_some_iff] at h
          obtain ⟨T', hT, U', hU, rfl⟩ := h
          simp only [Bool.or_eq_false_iff, Bool.not_eq_false'] at ht
          refine stp_ok (base := b) hNG hsg hx.sr.wr hx.sr.tr hs (by rw [hx.ρ]; exact baseOf_ok hF hb) fun cx' v w' hle hρ hW hR hun => ?_
          have hF' : FxOK P orc F cx'.ρ := by rw [hρ, hx.ρ]; exact hF
          refine hG cx' _ w' ⟨⟨hW, put_ok (hx.sr.tr.mono hle) (normV_ok hF' hR) hT, by rw [put_defers]; exact hx.sr.df, by rw [hρ]; exact hx.sr.n⟩, hx.le.trans hle, hρ.trans hx.ρ, put_ok hx.to (b := .unk) (v := v) trivial hU, ⟨fun k o u hu => hW.mem k o u (hle.M _ _ _ (hx.le.M _ _ _ hu)), fun i o p k hi hl hp hpk => ?_⟩, aliveAll_ok ht.2⟩ rfl
          obtain ⟨o', h1, h2⟩ := hx.al i o hi hl
          rw [hun i o' p k (fun hm => ?_) h1 h2 (pl_mono hx.le.σ hp) hpk]
          · exact hx.ag.obj i o p k hi hl hp hpk
          · have : s.touched.any (aliveAt K) = true := List.any_eq_true.2 ⟨i, hm, by simp [aliveAt, hi, hl]⟩
            rw [ht.1] at this; cases this
    · cases h
theorem look_ok {ops : Array Oper} {F : Fx} {K : SH} {cs : Cx} {ws : World} (hF : FxOK P orc F cs.ρ) (hK : WR P M0 w0 S cs K ws) {j : Nat} {x x' : XS} {cx : Cx} {a : Act} {w : World} (h : lookX P nt ops F K j x = some x') (hx : XR' P M0 w0 S ds nt cs K ws x cx a w) :
    ∃ o v, ops[j]? = some o ∧ YieldsIf P ops (Agree cs K ws) o v a ∧ XR' P M0 w0 S ds nt cs K ws x' cx (a.put o.dst v) w ∧ x'.s.n = x.s.n := by
  unfold lookX at h
  cases ho : ops[j]? with
  | none => rw [ho] at h; cases h
  | some o =>
    rw [ho] at h
    simp only at h
    split at h
    · rename_i hw
      simp only [Option.bind_eq_some_iff, Option.map_eq_some_iff] at h
      obtain ⟨T', hT, U', hU, rfl⟩ := h
      exact ⟨o, undef, rfl, .inr ⟨(want_yes (st := ⟨x.To, [], 0⟩) hx.to).2.1 hw, rfl⟩, ⟨⟨hx.sr.wr, put_ok hx.sr.tr (b := .c undef) (v := undef) rfl hT, by rw [put_defers]; exact hx.sr.df, hx.sr.n⟩, hx.le, hx.ρ, put_ok hx.to (b := .c undef) (v := undef) rfl hU, hx.ag, hx.al⟩, rfl⟩
    · rename_i hw
      split at h
      · cases h
      · rename_i v hv
        simp only [Option.bind_eq_some_iff] at h
        obtain ⟨b, hb, h⟩ := h
        cases hkn : (!(v.2 b).known) with
        | true => simp [hkn] at h
        | false =>
        simp only [hkn, cond_false, Option.bind_eq_some_iff, Option.map_eq_some_iff] at h
        obtain ⟨T', hT, U', hU, rfl⟩ := h
        obtain ⟨u, h1, h2⟩ := vStep_ok hK (ev_ok hx.to) hv (baseOf_ok hF hb)
        have hn := normV_ok hF h1
        exact ⟨o, u, rfl, .inl ⟨(want_yes (st := ⟨x.To, [], 0⟩) hx.to).1 hw, h2⟩, ⟨⟨hx.sr.wr, put_ok hx.sr.tr (R_mono hx.le _ hn) hT, by rw [put_defers]; exact hx.sr.df, hx.sr.n⟩, hx.le, hx.ρ, put_ok hx.to hn hU, hx.ag, hx.al⟩, rfl⟩
    · cases h
theorem first_ok {ops : Array Oper} {F : Fx} {K : SH} {listed : Array Bool} {x x' : XS} {j : Nat} : ∀ {l : List Nat}, firstX P nt ops F K listed x l = some (j, x') → j ∈ l ∧ Region.free .any ops listed j = true ∧ lookX P nt ops F K j x = some x'
  | [], h => by simp [firstX] at h
  | i :: l, h => by
    simp only [firstX] at h
    split at h
    · rename_i st1 h1
      simp only [Option.some.injEq, Prod.mk.injEq] at h
      obtain ⟨rfl, rfl⟩ := h
      cases hf : Region.free .any ops listed i with
      | false => simp [hf] at h1
      | true => simp only [hf, cond_true] at h1; exact ⟨List.mem_cons_self .., rfl, h1⟩
    · obtain ⟨a, b, c⟩ := first_ok h
      exact ⟨List.mem_cons_of_mem _ a, b, c⟩
theorem allB_ok {f : Nat → Bool} : ∀ {l : List Nat}, allB f l = true → ∀ i ∈ l, f i = true
  | [], _, i, h => by cases h
  | j :: l, h, i, hi => by
    simp only [allB, Bool.and_eq_true] at h
    rcases List.mem_cons.1 hi with rfl | hi
    · exact h.1
    · exact allB_ok h.2 i hi
theorem any_ok (hNG : NG P) (hsg : ∀ k g, sg[k]? = some g → SigOK P g (orc k)) {ops : Array Oper} (hsel : Region.noSelect ops = true) {F : Fx} {K : SH} {cs : Cx} {ws : World} (hF : FxOK P orc F cs.ρ) (hK : WR P M0 w0 S cs K ws) {p : Pat} {Q : Exit → Act → World → Prop} (hQp : ∀ c a w, ¬ Q (.panic c) a w) :
    ∀ (fuel : Nat) (listed : Array Bool) (x : XS) (cx : Cx) (a : Act) (w : World), anyX P sg nt nh ops F K p fuel listed x = true → XR' P M0 w0 S ds nt cs K ws x cx a w →
      (∀ x' cx' a' w', XR' P M0 w0 S ds nt cs K ws x' cx' a' w' → x'.s.n = x.s.n → (∃ β ι, fitSS P x'.s.n nh p β ι x'.s = true) → Q .normal a' w') → wpAnyH P .any ops Q (Agree cs K ws) fuel listed a w
  | 0, listed, x, cx, a, w, h, hx, hQ => by
    unfold anyX at h
    split at h
    · rename_i hr
      exact ⟨hr, hQ x cx a w hx rfl ⟨_, _, h⟩⟩
    · cases h
  | fuel + 1, listed, x, cx, a, w, h, hx, hQ => by
    unfold anyX at h
    split at h
    · rename_i hr
      exact wpAnyH_done hr (hQ x cx a w hx rfl ⟨_, _, h⟩) _
    · rename_i i l hr
      split at h
      · rename_i j x1 hf
        obtain ⟨h1, h2, h3⟩ := first_ok hf
        obtain ⟨o, v, ho, hy, hx1, hn⟩ := look_ok hF hK h3 hx
        refine wpAnyH_take ho hsel h2 (by rw [hr]; simpa using h1) (fun c a w hq => absurd hq (hQp c _ w)) hy hx.ag ?_
        exact any_ok hNG hsg hsel hF hK hQp fuel _ x1 cx _ w h hx1 fun x' cx' a' w' q1 q2 q3 => hQ x' cx' a' w' q1 (q2.trans hn) q3
      · refine wpAnyH_all hr (by simp) fun j hj => ?_
        have hb := allB_ok h j hj
        split at hb
        · rename_i x1 h1
          exact one_ok hNG hsg hF h1 hx fun cx' a' w' hx' hn => ⟨hx'.ag, any_ok hNG hsg hsel hF hK hQp fuel _ x1 cx' a' w' hb hx' fun x' cx2 a2 w2 q1 q2 q3 => hQ x' cx2 a2 w2 q1 (q2.trans hn) q3⟩
        · cases hb
/-! the way without orders is right -/
def Down (ops : Array Oper) (L : Nat → Prop) : Prop := ∀ (i : Nat) (o : Oper), L i → ops[i]? = some o → ∀ d ∈ depsX o, L d
theorem testBit_lor {a b i : Nat} (h : Nat.testBit (Nat.lor a b) i = true) : Nat.testBit a i = true ∨ Nat.testBit b i = true := by
  have : Nat.testBit (a ||| b) i = true := h
  rw [Nat.testBit_or, Bool.or_eq_true] at this; exact this
theorem maskOf_ok {ops : Array Oper} {L : Nat → Prop} (hL : Down ops L) {acc : List Nat} (hacc : ∀ (i : Nat) (m : Nat), acc[i]? = some m → L i → ∀ t, Nat.testBit m t = true → L t) : ∀ {ds : List Nat}, (∀ d ∈ ds, L d) → ∀ t, Nat.testBit (maskOf acc ds) t = true → L t
  | [], _, t, h => by simp [maskOf] at h
  | d :: l, hd, t, h => by
    simp only [maskOf] at h
    rcases testBit_lor h with h1 | h1
    · rcases testBit_lor h1 with h2 | h2
      · have : Nat.testBit (1 <<< d) t = true := h2
        rw [Nat.testBit_shiftLeft] at this
        simp only [Bool.and_eq_true, decide_eq_true_eq] at this
        have h3 := this.2
        have : t - d = 0 := by
          rcases Nat.eq_zero_or_pos (t - d) with e | e
          · exact e
          · rw [Nat.testBit_one_eq_true_iff_self_eq_zero] at h3; exact h3
        have : t = d := by omega
        subst this; exact hd _ (List.mem_cons_self ..)
      · cases ha : acc[d]? with
        | none => rw [ha] at h2; simp at h2
        | some m => rw [ha] at h2; exact hacc d m ha (hd d (List.mem_cons_self ..)) t h2
    · exact maskOf_ok hL hacc (fun x hx => hd x (List.mem_cons_of_mem _ hx)) t h1
theorem sureL_ok {ops : Array Oper} {L : Nat → Prop} (hL : Down ops L) : ∀ (l : List Oper) (acc : List Nat), ops.toList.drop acc.length = l → (∀ (i : Nat) (m : Nat), acc[i]? = some m → (∀ o, ops[i]? = some o → ∀ d ∈ depsX o, L d) → ∀ t, Nat.testBit m t = true → L t) →
    ∀ (i : Nat) (m : Nat), (sureL l acc)[i]? = some m → (∀ o, ops[i]? = some o → ∀ d ∈ depsX o, L d) → ∀ t, Nat.testBit m t = true → L t
  | [], acc, _, h, i, m, hi, hd => h i m hi hd
  | o :: l, acc, hl, h, i, m, hi, hd => by
    simp only [sureL] at hi
    have hat : ops.toList[acc.length]? = some o := by
      have := congrArg (fun z => z[0]?) hl
      simpa using this
    refine sureL_ok hL l (acc ++ [maskOf acc (depsX o)]) ?_ (fun i m hi hd t ht => ?_) i m hi hd
    · rw [List.length_append]
      show ops.toList.drop (acc.length + 1) = l
      rw [← List.drop_drop, hl]; rfl
    · rcases Nat.lt_or_ge i acc.length with h' | h'
      · rw [List.getElem?_append_left h'] at hi; exact h i m hi hd t ht
      · rw [List.getElem?_append_right h'] at hi
        have : i = acc.length := by
          have := get_lt hi; simp at this; omega
        subst this
        simp at hi; subst hi
        exact maskOf_ok hL (fun i m hi hLi t ht => h i m hi (fun o ho => hL i o hLi ho) t ht) (hd o (by rw [← Array.getElem?_toList]; exact hat)) t ht
theorem TR.set {cx : Cx} {n : Nat} {T T' : PTS} {tmps : Array Value} (r : TR P cx n T tmps) {t : Tmp} {b : SV} (h : sPut n (some t) b T = some T') (hb : ∃ v, b.R P cx v ∧ tmps[t]? = some v) : TR P cx n T' tmps := by
  simp only [sPut] at h
  cases hd : (Nat.blt t n && Nat.blt t 4000) with
  | false => simp only [hd, cond_false] at h; cases h
  | true =>
    simp only [hd, cond_true, Option.some.injEq] at h; subst h
    simp only [Bool.and_eq_true] at hd
    have h2 : @LT.lt Nat _ t 4000 := of_blt hd.2
    have h3 : @LT.lt Nat _ (t + 1) (2 ^ 12) := Nat.lt_of_lt_of_le (Nat.succ_lt_succ h2) (by decide)
    refine ⟨r.1, fun u x hx => ?_⟩
    rw [PTS.get_set 12 T t b u h3] at hx
    by_cases e : u = t
    · subst e; simp at hx; subst hx; exact hb
    · rw [if_neg e] at hx; exact r.2 u x hx
theorem sPut_get {n : Nat} {T T' : PTS} {d : Option Tmp} {b : SV} (h : sPut n d b T = some T') : (∀ t, d = some t → t < n ∧ T'.get t = some b) ∧ ∀ u, d ≠ some u → T'.get u = T.get u := by
  cases d with
  | none => simp only [sPut, Option.some.injEq] at h; subst h; exact ⟨fun t e => (by cases e), fun _ _ => rfl⟩
  | some t =>
    simp only [sPut] at h
    cases hd : (Nat.blt t n && Nat.blt t 4000) with
    | false => simp only [hd, cond_false] at h; cases h
    | true =>
      simp only [hd, cond_true, Option.some.injEq] at h; subst h
      simp only [Bool.and_eq_true] at hd
      have h2 : @LT.lt Nat _ t 4000 := of_blt hd.2
      have h3 : @LT.lt Nat _ (t + 1) (2 ^ 12) := Nat.lt_of_lt_of_le (Nat.succ_lt_succ h2) (by decide)
      refine ⟨fun u e => by cases e; exact ⟨of_blt hd.1, by rw [PTS.get_set 12 T t b t h3, if_pos rfl]⟩, fun u hu => ?_⟩
      rw [PTS.get_set 12 T t b u h3, if_neg fun e => hu (by rw [e])]
theorem unkAll_ok {n : Nat} : ∀ {l : List Oper} {T T' : PTS}, unkAll n l T = some T' → (∀ o ∈ l, ∀ t, o.dst = some t → t < n ∧ T'.get t = some .unk) ∧ (∀ u x, T'.get u = some x → x = .unk ∧ u < n ∨ T.get u = some x)
  | [], T, T', h => by simp only [unkAll, Option.some.injEq] at h; subst h; exact ⟨fun o ho => (by cases ho), fun u x hx => .inr hx⟩
  | o :: l, T, T', h => by
    simp only [unkAll, Option.bind_eq_some_iff] at h
    obtain ⟨T1, h1, h2⟩ := h
    obtain ⟨k1, k2⟩ := unkAll_ok h2
    obtain ⟨g1, g2⟩ := sPut_get h1
    have old : ∀ u x, T1.get u = some x → x = .unk ∧ u < n ∨ T.get u = some x := fun u x hx => by
      by_cases e : o.dst = some u
      · obtain ⟨q1, q2⟩ := g1 u e
        rw [q2] at hx; cases hx; exact .inl ⟨rfl, q1⟩
      · rw [g2 u e] at hx; exact .inr hx
    refine ⟨fun o' ho t ht => ?_, fun u x hx => ?_⟩
    · rcases List.mem_cons.1 ho with rfl | ho
      · obtain ⟨q1, q2⟩ := g1 t ht
        -- it stays unknown
        have stay : ∀ {l : List Oper} {T1 T' : PTS}, unkAll n l T1 = some T' → T1.get t = some .unk → T'.get t = some .unk := by
          intro l
          induction l with
          | nil => intro T1 T' h e; simp only [unkAll, Option.some.injEq] at h; subst h; exact e
          | cons o l ih =>
            intro T1 T' h e
            simp only [unkAll, Option.bind_eq_some_iff] at h
            obtain ⟨T2, h1, h2⟩ := h
            obtain ⟨g1, g2⟩ := sPut_get h1
            refine ih h2 ?_
            by_cases eo : o.dst = some t
            · exact (g1 t eo).2
            · rw [g2 t eo]; exact e
        exact ⟨q1, stay h2 q2⟩
      · exact k1 o' ho t ht
    · rcases k2 u x hx with hx | hx
      · exact .inl hx
      · exact old u x hx
theorem sureT_ok {n : Nat} {E : PTS} {m : Nat → Bool} {cx : Cx} {tmps : Array Value} : ∀ {l : List Oper} {i : Nat} {T T' : PTS}, sureT n E m l i T = some T' → TR P cx n T tmps →
    (∀ (k : Nat) (o : Oper) (t : Tmp), l[k]? = some o → m (i + k) = true → o.dst = some t → ∃ v, ((E.get t).getD .unk).R P cx v ∧ tmps[t]? = some v) → TR P cx n T' tmps
  | [], i, T, T', h, r, _ => by simp only [sureT, Option.some.injEq] at h; subst h; exact r
  | o :: l, i, T, T', h, r, hv => by
    have hv' : ∀ (k : Nat) (o' : Oper) (t : Tmp), l[k]? = some o' → m (i + 1 + k) = true → o'.dst = some t → ∃ v, ((E.get t).getD .unk).R P cx v ∧ tmps[t]? = some v := fun k o' t h1 h2 h3 => hv (k + 1) o' t (by simpa using h1) (by rw [show i + (k + 1) = i + 1 + k by omega]; exact h2) h3
    simp only [sureT] at h
    cases hm : m i with
    | false => simp only [hm, cond_false] at h; exact sureT_ok h r hv'
    | true =>
      simp only [hm, cond_true] at h
      split at h
      · exact sureT_ok h r hv'
      · rename_i t ht
        simp only [Option.bind_eq_some_iff] at h
        obtain ⟨T1, h1, h2⟩ := h
        exact sureT_ok h2 (r.set h1 (hv 0 o t rfl (by simpa using hm) ht)) hv'
theorem isAt1_ok {E : PTS} {t : Tmp} {a : SV} {cx : Cx} {v : Value} (h : isAt1 E (some t) a = true) (r : a.R P cx v) : ((E.get t).getD .unk).R P cx v := by
  simp only [isAt1] at h
  split at h
  · rename_i he; rw [he]; trivial
  · rename_i b _ he; rw [he]; rw [eqSV_ok h] at r; exact r
  · rename_i he; rw [he]; trivial
theorem eqSH_ok : ∀ {a b : SH}, eqSH a b = true → a = b
  | [], [], _ => rfl
  | .dead :: l, .dead :: m, h => by simp only [eqSH] at h; rw [eqSH_ok h]
  | .box a e :: l, .box b f :: m, h => by
    simp only [eqSH, Bool.and_eq_true] at h
    rw [eqSL_ok h.1.1, Nat.eq_of_beq_eq_true h.1.2, eqSH_ok h.2]
  | .grow e x :: l, .grow f y :: m, h => by
    simp only [eqSH, Bool.and_eq_true] at h
    rw [Nat.eq_of_beq_eq_true h.1.1, eqEx_ok h.1.2, eqSH_ok h.2]
  | [], _ :: _, h => by simp [eqSH] at h
  | .dead :: _, [], h => by simp [eqSH] at h
  | .box _ _ :: _, [], h => by simp [eqSH] at h
  | .grow _ _ :: _, [], h => by simp [eqSH] at h
  | .dead :: _, .box _ _ :: _, h => by simp [eqSH] at h
  | .dead :: _, .grow _ _ :: _, h => by simp [eqSH] at h
  | .box _ _ :: _, .dead :: _, h => by simp [eqSH] at h
  | .box _ _ :: _, .grow _ _ :: _, h => by simp [eqSH] at h
  | .grow _ _ :: _, .dead :: _, h => by simp [eqSH] at h
  | .grow _ _ :: _, .box _ _ :: _, h => by simp [eqSH] at h
def lis (listed : Array Bool) (i : Nat) : Prop := listed.getD i false = true
theorem lis_set {listed : Array Bool} {j i : Nat} (h : lis (listed.setIfInBounds j true) i) : i = j ∨ lis listed i := by
  by_cases e : j = i
  · exact .inl e.symm
  · exact .inr (by unfold lis at h ⊢; simpa [Array.getElem?_setIfInBounds_ne e] using h)
theorem lis_keep {listed : Array Bool} {j i : Nat} (h : lis listed i) : lis (listed.setIfInBounds j true) i := by
  unfold lis at h ⊢
  by_cases e : j = i
  · subst e
    have hlt : j < listed.size := by
      rcases Nat.lt_or_ge j listed.size with h' | h'
      · exact h'
      · simp [Array.getElem?_eq_none h'] at h
    simp [hlt]
  · simpa [Array.getElem?_setIfInBounds_ne e] using h
theorem det_ok (hNG : NG P) (hsg : ∀ k g, sg[k]? = some g → SigOK P g (orc k)) {ops : Array Oper} {F : Fx} {cs : Cx} (hF : FxOK P orc F cs.ρ) {H : SH} {n : Nat} (hn : cs.ρ.length = n) {T0 Tf : PTS} (hT0 : ∀ o ∈ ops.toList, ∀ t, o.dst = some t → t < nt ∧ T0.get t = some .unk)
    (hall : ∀ j, j < ops.size → detOp P sg nt ops F H n T0 (sureL ops.toList []) j = true) (hTf : sureT nt F.E (fun _ => true) ops.toList 0 T0 = some Tf) {Q : Exit → Act → World → Prop} :
    ∀ (fuel : Nat) (listed : Array Bool) (cx : Cx) (a : Act) (w : World), listed.size = ops.size → listed.toList.countP (fun b => !b) ≤ fuel → Down ops (lis listed) → WR P M0 w0 S cx H w → cs.le cx → cx.ρ = cs.ρ → TR P cx nt T0 a.tmps → a.defers = ds →
      (∀ (i : Nat) (o : Oper) (t : Tmp), lis listed i → ops[i]? = some o → o.dst = some t → ∃ v, ((F.E.get t).getD .unk).R P cx v ∧ a.tmps[t]? = some v) →
      (∀ cx' a' w', SR P M0 w0 S ds cx' nt ⟨Tf, H, n⟩ a' w' → cs.le cx' → cx'.ρ = cs.ρ → Q .normal a' w') → wpAnyH P .any ops Q (fun _ => True) fuel listed a w := by
  intro fuel
  have ready_lt : ∀ {listed : Array Bool} {j : Nat}, listed.size = ops.size → j ∈ Region.ready .any ops listed → ∃ o, ops[j]? = some o ∧ ∃ h : j < listed.size, listed[j] = false ∧ ∀ d ∈ depsX o, lis listed d := fun {listed} {j} hsz hj => by
    obtain ⟨h1, o, ho, h2⟩ := mem_ready.1 hj
    have hlt : j < listed.size := by rw [hsz]; exact (Array.getElem?_eq_some_iff.1 ho).1
    refine ⟨o, ho, hlt, by simpa [hlt] using h1, fun d hd => ?_⟩
    unfold depsX at hd
    obtain ⟨e, he, rfl⟩ := List.mem_map.1 hd
    obtain ⟨he1, he2⟩ := List.mem_filter.1 he
    exact h2 e (by simpa using he1) he2
  have fin : ∀ {listed : Array Bool} {cx : Cx} {a : Act} {w : World}, listed.size = ops.size → Down ops (lis listed) → (∀ j, j < ops.size → lis listed j) → WR P M0 w0 S cx H w → cx.ρ = cs.ρ → TR P cx nt T0 a.tmps → a.defers = ds →
      (∀ (i : Nat) (o : Oper) (t : Tmp), lis listed i → ops[i]? = some o → o.dst = some t → ∃ v, ((F.E.get t).getD .unk).R P cx v ∧ a.tmps[t]? = some v) → SR P M0 w0 S ds cx nt ⟨Tf, H, n⟩ a w := fun {listed} {cx} {a} {w} hsz hD hl hW hρ hT hdf hv =>
    ⟨hW, sureT_ok hTf hT fun k o t h1 _ h3 => hv k o t (hl k (by have := get_lt h1; simpa using this)) (by rw [← Array.getElem?_toList]; exact h1) h3, hdf, by rw [hρ]; exact hn⟩
  have done : ∀ {listed : Array Bool}, listed.size = ops.size → Region.ready .any ops listed = [] → ∀ j, j < ops.size → lis listed j := fun {listed} hsz hr j => by
    induction j using Nat.strongRecOn with
    | _ j ih =>
      intro hj
      refine Classical.byContradiction fun hn => ?_
      have hlt : j < listed.size := by omega
      have hfalse : listed[j] = false := by
        cases hb : listed[j] with
        | false => rfl
        | true => exact absurd (by simp [lis, hlt, hb]) hn
      have : j ∈ Region.ready .any ops listed := by
        refine mem_ready.2 ⟨by simp [hlt, hfalse], ops[j], by simp [hj], fun e he hb => ?_⟩
        have h1 := hall j hj
        simp only [detOp, Array.getElem?_eq_getElem hj, Bool.and_eq_true, List.all_eq_true] at h1
        have hd : e.on ∈ depsX ops[j] := List.mem_map.2 ⟨e, List.mem_filter.2 ⟨by simpa using he, hb⟩, rfl⟩
        have := of_blt (h1.1 _ hd)
        exact ih _ this (by omega)
      rw [hr] at this; cases this
  have zero : ∀ {listed : Array Bool}, listed.size = ops.size → listed.toList.countP (fun b => !b) = 0 → Region.ready .any ops listed = [] := fun {listed} hsz hc => by
    refine List.eq_nil_iff_forall_not_mem.2 fun j hj => ?_
    obtain ⟨o, ho, hlt, hf, _⟩ := ready_lt hsz hj
    rw [List.countP_eq_zero] at hc
    have := hc listed[j] (by simp)
    rw [hf] at this; simp at this
  induction fuel with
  | zero =>
    intro listed cx a w hsz hc hD hW hle hρ hT hdf hv hQ
    have hr := zero hsz (by omega)
    exact ⟨hr, hQ cx a w (fin hsz hD (done hsz hr) hW hρ hT hdf hv) hle hρ⟩
  | succ fuel ih =>
    intro listed cx a w hsz hc hD hW hle hρ hT hdf hv hQ
    by_cases hr : Region.ready .any ops listed = []
    · exact wpAnyH_done hr (hQ cx a w (fin hsz hD (done hsz hr) hW hρ hT hdf hv) hle hρ) _
    refine wpAnyH_all rfl hr fun j hj => ?_
    obtain ⟨o, ho, hlt, hf, hdeps⟩ := ready_lt hsz hj
    have hj' : j < ops.size := by omega
    have hd := hall j hj'
    simp only [detOp, ho, Bool.and_eq_true] at hd
    have hd := hd.2
    have hsz' : (listed.setIfInBounds j true).size = ops.size := by simpa using hsz
    have hc' : (listed.setIfInBounds j true).toList.countP (fun b => !b) ≤ fuel := by
      have h1 := List.countP_set (p := fun b : Bool => !b) (l := listed.toList) (i := j) (a := true) (by simpa using hlt)
      have h2 : (listed.setIfInBounds j true).toList = listed.toList.set j true := by simp
      rw [h2, h1]
      have h3 : listed.toList[j]'(by simpa using hlt) = false := by simpa using hf
      simp only [h3, Bool.not_false, if_true, Bool.not_true, Bool.false_eq_true, if_false]
      omega
    have hD' : Down ops (lis (listed.setIfInBounds j true)) := fun i o' hi ho' d hd => by
      rcases lis_set hi with rfl | hi
      · rw [ho] at ho'; cases ho'; exact lis_keep (hdeps d hd)
      · exact lis_keep (hD i o' hi ho' d hd)
    -- what the operation comes to
    have next : ∀ (cx' : Cx) (v : Value) (w' : World), cx.le cx' → cx'.ρ = cx.ρ → WR P M0 w0 S cx' H w' → (∀ t, o.dst = some t → ((F.E.get t).getD .unk).R P cx' v) → wpAnyH P .any ops Q (fun _ => True) fuel (listed.setIfInBounds j true) (a.put o.dst v) w' := fun cx' v w' hle' hρ' hW' hv' => by
      have hTm := hT.mono hle'
      have hput : ∀ u : Tmp, o.dst ≠ some u → (a.put o.dst v).tmps[u]? = a.tmps[u]? := fun u hu => by
        cases hd : o.dst with
        | none => rfl
        | some t =>
          have : t ≠ u := fun e => hu (by rw [hd, e])
          simp [Act.put, Array.getElem?_setIfInBounds_ne this]
      have hputs : ∀ t : Tmp, o.dst = some t → (a.put o.dst v).tmps[t]? = some v := fun t ht => by
        have h1 := (hT0 o (by rw [← Array.getElem?_toList] at ho; exact List.mem_of_getElem? ho) t ht).1
        rw [ht]
        simp [Act.put, hT.1, h1]
      refine ih (listed.setIfInBounds j true) cx' (a.put o.dst v) w' hsz' hc' hD' hW' (hle.trans hle') (hρ'.trans hρ) ⟨?_, fun u x hx => ?_⟩ (by rw [put_defers]; exact hdf) (fun i o' t hi ho' ht => ?_) (fun cx2 a2 w2 h1 h2 h3 => hQ cx2 a2 w2 h1 h2 h3)
      · cases hd : o.dst with
        | none => exact hTm.1
        | some t => simpa [Act.put] using hTm.1
      · by_cases e : o.dst = some u
        · have h1 := (hT0 o (by rw [← Array.getElem?_toList] at ho; exact List.mem_of_getElem? ho) u e).2
          rw [h1] at hx; cases hx
          exact ⟨v, trivial, hputs u e⟩
        · rw [hput u e]; exact hTm.2 u x hx
      · by_cases e : o.dst = some t
        · exact ⟨v, hv' t e, hputs t e⟩
        · rcases lis_set hi with rfl | hi
          · rw [ho] at ho'; cases ho'; exact absurd ht e
          · obtain ⟨u, h1, h2⟩ := hv i o' t hi ho' ht
            exact ⟨u, R_mono hle' _ h1, by rw [hput t e]; exact h2⟩
    split at hd
    · cases hd
    · rename_i T hTj
      have hTR : TR P cx nt T a.tmps := by
        refine sureT_ok hTj hT fun k o' t h1 h2 h3 => ?_
        have h2' : Nat.testBit ((sureL ops.toList [])[j]?.getD 0) k = true := by simpa using h2
        have hk : lis listed k := by
          cases hm : (sureL ops.toList [])[j]? with
          | none => rw [hm] at h2'; simp at h2'
          | some m =>
            rw [hm] at h2'
            exact sureL_ok hD ops.toList [] rfl (fun i m hi => by simp at hi) j m hm (fun o2 ho2 => by rw [ho] at ho2; cases ho2; exact hdeps) k h2'
        exact hv k o' t hk (by rw [← Array.getElem?_toList]; exact h1) h3
      unfold wpOp
      rw [ho]
      simp only
      split at hd
      · rename_i hw
        rw [(want_yes (st := ⟨T, H, n⟩) hTR).2.1 hw]
        simp only [Bool.false_eq_true, if_false]
        refine ⟨trivial, next cx undef w .rfl rfl hW fun t ht => ?_⟩
        rw [ht] at hd
        exact isAt1_ok (a := .c undef) hd rfl
      · rename_i hw
        rw [(want_yes (st := ⟨T, H, n⟩) hTR).1 hw]
        simp only [if_true]
        refine .inl ?_
        split at hd
        · cases hd
        · rename_i s hs
          split at hd
          · cases hd
          · rename_i b hb
            simp only [Bool.and_eq_true] at hd
            refine stp_ok (base := b) (st := ⟨T, H, n⟩) hNG hsg hW hTR hs (by rw [hρ]; exact baseOf_ok hF hb) fun cx' v w' hle' hρ' hW' hR _ => ⟨trivial, next cx' v w' hle' hρ' (by rw [← eqSH_ok hd.1]; exact hW') fun t ht => ?_⟩
            rw [ht] at hd
            exact isAt1_ok hd.2 (normV_ok (by rw [hρ', hρ]; exact hF) hR)
      · cases hd
theorem det_all (hNG : NG P) (hsg : ∀ k g, sg[k]? = some g → SigOK P g (orc k)) {ops : Array Oper} {F : Fx} {cs : Cx} (hF : FxOK P orc F cs.ρ) {p : Pat} {x : SS} {Q : Exit → Act → World → Prop} {a : Act} {w : World} (hx : SR P M0 w0 S ds cs nt x a w)
    (h : detX P sg nt nh ops F p x = true) (hQ : ∀ (T : PTS) cx' a' w', SR P M0 w0 S ds cx' nt ⟨T, x.H, x.n⟩ a' w' → cs.le cx' → cx'.ρ = cs.ρ → (∃ β ι, fitSS P x.n nh p β ι ⟨T, x.H, x.n⟩ = true) → Q .normal a' w') :
    wpAnyH P .any ops Q (fun _ => True) ops.size (Array.replicate ops.size false) a w := by
  unfold detX at h
  split at h
  · cases h
  · rename_i T0 hT0
    simp only [Bool.and_eq_true] at h
    obtain ⟨h1, h2⟩ := h
    split at h2
    · cases h2
    · rename_i T hT
      obtain ⟨k1, k2⟩ := unkAll_ok hT0
      have none : ∀ i, ¬ lis (Array.replicate ops.size false) i := fun i hi => by
        unfold lis at hi
        rcases Nat.lt_or_ge i ops.size with h' | h'
        · simp [h'] at hi
        · simp [Array.getElem?_eq_none, h'] at hi
      refine det_ok hNG hsg hF (H := x.H) (n := x.n) hx.n (T0 := T0) (Tf := T) k1 (fun j hj => allB_ok h1 j (List.mem_range.2 hj)) hT ops.size _ cs a w (by simp) (Nat.le_trans List.countP_le_length (by simp)) (fun i o hi => absurd hi (none i)) hx.wr .rfl rfl ⟨hx.tr.1, fun t y hy => ?_⟩ hx.df (fun i o t hi => absurd hi (none i)) (fun cx' a' w' q1 q2 q3 => hQ T cx' a' w' q1 q2 q3 ⟨_, _, h2⟩)
      rcases k2 t y hy with ⟨rfl, hlt⟩ | hy
      · exact ⟨a.tmps[t]'(by rw [hx.tr.1]; exact hlt), trivial, Array.getElem?_eq_getElem _⟩
      · exact hx.tr.2 t y hy
/-- Where a way through the tree ends. -/
theorem ways_ok {ops : Array Oper} {st : SS} {K : SH} : ∀ (T : Tree SS) {F : Fx} {n : Nat} {T' : Tree SS}, waysX P sg nt nh ops st K F n T = some T' → Closed P orc kk T' ∧ ∀ ρ o, FxOK P orc F ρ → ρ.length = n → T'.den P orc kk ρ = some o →
    ∃ F' stf e ρ', o = .leaf e ρ' ∧ FxOK P orc F' ρ' ∧ ρ <+: ρ' ∧ ρ'.length = stf.n ∧ leafX P sg nt nh ops st K F' stf = some (.leaf e)
  | .leaf stf, F, n, T', h => by
    simp only [waysX] at h
    cases hn : Nat.beq stf.n n with
    | false => simp [hn] at h
    | true =>
      simp only [hn, cond_true] at h
      have hn := Nat.eq_of_beq_eq_true hn
      have hT : ∃ e, T' = .leaf e := by
        unfold leafX at h
        simp only at h
        cases hc : okX P sg nt nh ops ⟨F.B, F.A, (normSS F.A nt stf).T⟩ K ⟨listSlots (normSS F.A nt stf).T nt, (normSS F.A nt stf).H, 0⟩ ⟨⟨(normSS F.A nt st).T, st.H, stf.n⟩, (normSS F.A nt st).T⟩ with
        | false => rw [hc] at h; cases h
        | true => rw [hc] at h; simp only [cond_true, Option.some.injEq] at h; exact ⟨_, h.symm⟩
      obtain ⟨e, rfl⟩ := hT
      refine ⟨closed_leaf _, fun ρ o hF hl hd => ?_⟩
      simp only [Tree.den, Option.some.injEq] at hd; subst hd
      exact ⟨F, stf, e, ρ, rfl, hF, List.prefix_rfl, by omega, h⟩
  | .op p k t, F, n, T', h => by
    simp only [waysX, Option.map_eq_some_iff] at h
    obtain ⟨t', ht, rfl⟩ := h
    obtain ⟨h1, h2⟩ := ways_ok t ht
    refine ⟨closed_op h1, fun ρ o hF hl hd => ?_⟩
    simp only [Tree.den, Option.bind_eq_some_iff] at hd
    obtain ⟨es, hes, hd⟩ := hd
    cases hk : Nat.beq es.length k with
    | false => simp [hk] at hd
    | true =>
      simp only [hk, cond_true] at hd
      have hk := Nat.eq_of_beq_eq_true hk
      have hpre : ρ <+: ρ ++ es := List.prefix_append _ _
      obtain ⟨F', stf, e, ρ', q1, q2, q3, q4⟩ := h2 (ρ ++ es) o ⟨fun p' k' b' hm => by
          rcases List.mem_cons.1 hm with e0 | hm
          · simp only [Prod.mk.injEq] at e0; obtain ⟨rfl, rfl, rfl⟩ := e0
            exact ⟨es, pr_mono hpre hes, hk, fun j d hj => by rw [List.getElem?_append_right (by omega), hl]; simpa using hj⟩
          · exact bd_mono hpre (hF.1 p' k' b' hm), fun x b hm => den_mono hpre x (hF.2 x b hm)⟩ (by simp [hl, hk]) hd
      exact ⟨F', stf, e, ρ', q1, q2, hpre.trans q3, q4⟩
  | .ite x a b, F, n, T', h => by
    simp only [waysX, Option.bind_eq_some_iff, Option.map_eq_some_iff] at h
    obtain ⟨a', ha, b', hb, rfl⟩ := h
    obtain ⟨a1, a2⟩ := ways_ok a ha
    obtain ⟨b1, b2⟩ := ways_ok b hb
    refine ⟨closed_ite a1 b1, fun ρ o hF hl hd => ?_⟩
    simp only [Tree.den] at hd
    split at hd
    · rename_i hx
      exact a2 ρ o ⟨hF.1, fun y c hm => by
        rcases List.mem_cons.1 hm with e0 | hm
        · simp only [Prod.mk.injEq] at e0; obtain ⟨rfl, rfl⟩ := e0; exact hx
        · exact hF.2 y c hm⟩ hl hd
    · rename_i hx
      exact b2 ρ o ⟨hF.1, fun y c hm => by
        rcases List.mem_cons.1 hm with e0 | hm
        · simp only [Prod.mk.injEq] at e0; obtain ⟨rfl, rfl⟩ := e0; exact hx
        · exact hF.2 y c hm⟩ hl hd
    · cases hd
  | .out _ _, F, n, T', h => by simp only [waysX, Option.some.injEq] at h; subst h; exact ⟨closed_fail, fun ρ o _ _ hd => by simp [Tree.den] at hd⟩
  | .fail, F, n, T', h => by simp only [waysX, Option.some.injEq] at h; subst h; exact ⟨closed_fail, fun ρ o _ _ hd => by simp [Tree.den] at hd⟩
  | .join _ _ _, F, n, T', h => by simp only [waysX, Option.some.injEq] at h; subst h; exact ⟨closed_fail, fun ρ o _ _ hd => by simp [Tree.den] at hd⟩
  | .loop _ _ _, F, n, T', h => by simp only [waysX, Option.some.injEq] at h; subst h; exact ⟨closed_fail, fun ρ o _ _ hd => by simp [Tree.den] at hd⟩
theorem drawX_ok (hm : P.follows .mixedOrders = true) (hNG : NG P) (hsg : ∀ k g, sg[k]? = some g → SigOK P g (orc k)) : DrawOK P orc kk nt (drawX P sg nt) := by
  intro id ops st T h
  have fl : ∀ {T : Tree SS}, some Tree.fail = some T → Closed P orc kk T ∧ ∀ (M0 : Mem) (w0 : World) (S : Nat → Prop) (ds : List Deferred) (nh : Nat) cx a w o, SR P M0 w0 S ds cx nt st a w → T.den P orc kk cx.ρ = some o →
    (Code.region id ops true).wp P (fun e a' w' => e = .normal ∧ ∃ st' cx', o = .leaf st' cx'.ρ ∧ Kps nh cx cx' ∧ SR P M0 w0 S ds cx' nt st' a' w') a w := fun h => by
    simp only [Option.some.injEq] at h; subst h
    exact ⟨closed_fail, fun _ _ _ _ _ cx a w o _ hd => by simp [Tree.den] at hd⟩
  unfold drawX at h
  cases hsel : Region.noSelect ops with
  | false => simp only [hsel, cond_false] at h; exact fl h
  | true =>
    simp only [hsel, cond_true, Option.bind_eq_some_iff] at h
    obtain ⟨T0, _, h⟩ := h
    split at h
    · rename_i T' hT'
      simp only [Option.some.injEq] at h; subst h
      obtain ⟨hc, hw⟩ := ways_ok (kk := kk) (orc := orc) T0 hT'
      refine ⟨hc, fun M0 w0 S ds nh cx a w o hs hd => ?_⟩
      obtain ⟨F, stf, e, ρ', rfl, hF, hpre, hlen, hleaf⟩ := hw cx.ρ o ⟨fun _ _ _ h => (by cases h), fun _ _ h => (by cases h)⟩ hs.n hd
      unfold leafX at hleaf
      simp only at hleaf
      cases hc : okX P sg nt st.H.length ops ⟨F.B, F.A, (normSS F.A nt stf).T⟩ (killAll st.H (touchedIn P sg nt ops (List.range ops.size) st)) ⟨listSlots (normSS F.A nt stf).T nt, (normSS F.A nt stf).H, 0⟩ ⟨⟨(normSS F.A nt st).T, st.H, stf.n⟩, (normSS F.A nt st).T⟩ with
      | false => rw [hc] at hleaf; cases hleaf
      | true =>
        rw [hc] at hleaf
        simp only [cond_true, Option.some.injEq, Tree.leaf.injEq] at hleaf
        let cs : Cx := ⟨ρ', cx.σ, cx.M⟩
        have hle : cx.le cs := ⟨hpre, List.prefix_rfl, .rfl⟩
        have hs1 : SR P M0 w0 S ds cs nt ⟨(normSS F.A nt st).T, st.H, stf.n⟩ a { w with drawn := w.drawn + 1 } := ⟨(hs.wr.env hpre).drawn _, normSS_TR (P := P) (cx := cs) hF (hs.tr.mono hle), hs.df, hlen⟩
        have fin : ∀ (x' : SS) (cx' : Cx) (a' : Act) (w' : World), SR P M0 w0 S ds cx' nt x' a' w' → cs.le cx' → cx'.ρ = cs.ρ → x'.n = stf.n → (∃ β ι, fitSS P x'.n st.H.length ⟨listSlots (normSS F.A nt stf).T nt, (normSS F.A nt stf).H, 0⟩ β ι x' = true) →
            ∃ st' cx2, (Out.leaf e ρ' : Out SS) = .leaf st' cx2.ρ ∧ Kps nh cx cx2 ∧ SR P M0 w0 S ds cx2 nt st' a' w' := fun x' cx' a' w' q1 qle qρ q2 ⟨β, ι, q3⟩ => by
          have hβ0 : β = [] := by
            simp only [fitSS, Bool.and_eq_true] at q3
            exact List.length_eq_zero_iff.1 (Nat.eq_of_beq_eq_true q3.1.1.2)
          subst hβ0
          obtain ⟨k1, k2, k3⟩ := fitSS_ok q3 q1 List.prefix_rfl q1.n rfl
          refine ⟨e, ⟨cx'.ρ ++ [], pickPl cx'.σ ι, cx'.M⟩, by simp [qρ, cs], ⟨fun b o v hv => qle.M _ _ _ hv, fun i p _ hp => k3.2 i p ?_ (pl_mono qle.σ hp)⟩, ?_⟩
          · rw [← hs.wr.len]; exact get_lt hp
          · rw [← hleaf]
            have e0 : (⟨listSlots (normSS F.A nt stf).T nt, (normSS F.A nt stf).H, 0⟩ : Pat).ss x'.n = ⟨ofList (listSlots (normSS F.A nt stf).T nt), (normSS F.A nt stf).H, stf.n⟩ := by simp [Pat.ss, q2]
            rw [e0] at k2; exact k2
        unfold okX at hc
        rw [Bool.or_eq_true] at hc
        rcases hc with hc | hc
        · refine wp_region_held (S := fun _ => True) hm ?_
          exact det_all hNG hsg (F := ⟨F.B, F.A, (normSS F.A nt stf).T⟩) (cs := cs) hF hs1 hc fun T cx' a' w' q1 q2 q3 q4 => ⟨rfl, fin _ cx' a' w' q1 q2 q3 rfl q4⟩
        · simp only [Bool.and_eq_true] at hc
          have hK := killAll_wr (touchedIn P sg nt ops (List.range ops.size) st) hs1.wr
          refine wp_region_held (S := Agree cs (killAll st.H (touchedIn P sg nt ops (List.range ops.size) st)) { w with drawn := w.drawn + 1 }) hm ?_
          exact any_ok (nh := st.H.length) (p := ⟨listSlots (normSS F.A nt stf).T nt, (normSS F.A nt stf).H, 0⟩) hNG hsg hsel (F := ⟨F.B, F.A, (normSS F.A nt stf).T⟩) (cs := cs) (ws := { w with drawn := w.drawn + 1 }) hF hK (fun c a w hq => by cases hq.1) _ _ _ cs a _ hc.2 ⟨hs1, .rfl, rfl, hs1.tr, hK.agree, aliveAll_ok hc.1⟩ fun x' cx' a' w' q1 q2 q3 => ⟨rfl, fin _ cx' a' w' q1.sr q1.le q1.ρ q2 q3⟩
    · exact fl h
end
end Go.Proofs.YtfphabkdgdgnbaaGreatDoor.SE
set_option linter.unusedVariables false
set_option linter.unusedSimpArgs false
set_option linter.unusedSectionVars false
namespace Go.Proofs.YtfphabkdgdgnbaaGreatDoor.SE
open Go Go.RowKit Go.Proofs.YtfphabkdgdgnbaaGreatDoor.AE
variable [Tb]

/-! without a bound on rounds -/
section
variable {α : Type}
open Classical in
/-- What a row of answers comes to. -/
noncomputable def lim (f : Nat → Option α) : Option α := if h : ∃ n r, f n = some r then some h.choose_spec.choose else none
def Up (f : Nat → Option α) : Prop := ∀ n r, f n = some r → f (n + 1) = some r
theorem Up.le {f : Nat → Option α} (h : Up f) {n m : Nat} (hnm : n ≤ m) {r : α} (hr : f n = some r) : f m = some r := by
  induction m with
  | zero => obtain rfl : n = 0 := by omega
            exact hr
  | succ m ih =>
    rcases Nat.lt_or_ge n (m + 1) with h1 | h1
    · exact h m r (ih (by omega))
    · obtain rfl : n = m + 1 := by omega
      exact hr
theorem lim_iff {f : Nat → Option α} (h : Up f) {r : α} : lim f = some r ↔ ∃ n, f n = some r := by
  unfold lim
  by_cases hx : ∃ n r, f n = some r
  · rw [dif_pos hx]
    have hs := hx.choose_spec.choose_spec
    constructor
    · intro e; rw [← Option.some.inj e]; exact ⟨_, hs⟩
    · rintro ⟨n, hn⟩
      have h1 := h.le (Nat.le_max_left hx.choose n) hs
      have h2 := h.le (Nat.le_max_right hx.choose n) hn
      rw [h1] at h2; exact h2
  · rw [dif_neg hx]
    constructor
    · intro e; cases e
    · rintro ⟨n, hn⟩; exact absurd ⟨n, r, hn⟩ hx
end
abbrev Orc := Nat → List D → Option (List D)
def Orc.le (a b : Orc) : Prop := ∀ g ρ r, a g ρ = some r → b g ρ = some r
def fle {α β : Type} (f g : α → Option β) : Prop := ∀ x r, f x = some r → g x = some r
section
variable {α : Type} {P : Program}
theorem iter_up (f : List D → Option (Out α)) (l : Nat) : ∀ (m : Nat) (ds : List D) (r : Out α), iterD f l m ds = some r → iterD f l (m + 1) ds = some r
  | 0, ds, r, h => by cases h
  | m + 1, ds, r, h => by
    unfold iterD at h ⊢
    split at h
    · rename_i l' ds' he
      cases hb : Nat.beq l' l with
      | true => simp only [hb, cond_true] at h ⊢; exact iter_up f l m ds' r h
      | false => simp only [hb, cond_false] at h ⊢; exact h
    · exact h
theorem iter_le {f g : List D → Option (Out α)} (hfg : fle f g) (l : Nat) : ∀ (m : Nat) (ds : List D) (r : Out α), iterD f l m ds = some r → iterD g l m ds = some r
  | 0, ds, r, h => by cases h
  | m + 1, ds, r, h => by
    simp only [iterD] at h ⊢
    cases hf : f ds with
    | none => rw [hf] at h; cases h
    | some o =>
      rw [hf] at h; rw [hfg ds o hf]
      cases o with
      | leaf a ρ => exact h
      | out l' ds' =>
        simp only at h ⊢
        cases hb : Nat.beq l' l with
        | true => simp only [hb, cond_true] at h ⊢; exact iter_le hfg l m ds' r h
        | false => simp only [hb, cond_false] at h ⊢; exact h
noncomputable def iterE (f : List D → Option (Out α)) (l : Nat) (ds : List D) : Option (Out α) := lim fun m => iterD f l m ds
theorem iterE_iff {f : List D → Option (Out α)} {l : Nat} {ds : List D} {r : Out α} : iterE f l ds = some r ↔ ∃ m, iterD f l m ds = some r := lim_iff fun m r h => iter_up f l m ds r h
theorem iterE_step (f : List D → Option (Out α)) (l : Nat) (ds : List D) : iterE f l ds = match f ds with
    | some (.out l' ds') => bif Nat.beq l' l then iterE f l ds' else some (.out l' ds')
    | r => r := by
  apply Option.ext
  intro r
  rw [iterE_iff]
  cases hf : f ds with
  | none =>
    constructor
    · rintro ⟨m, h⟩
      cases m with
      | zero => cases h
      | succ m => simp only [iterD, hf] at h; cases h
    · intro h; cases h
  | some o =>
    cases o with
    | leaf a ρ =>
      constructor
      · rintro ⟨m, h⟩
        cases m with
        | zero => cases h
        | succ m => simp only [iterD, hf] at h; exact h
      · intro h; exact ⟨1, by simp only [iterD, hf]; exact h⟩
    | out l' ds' =>
      cases hb : Nat.beq l' l with
      | true =>
        simp only [hb, cond_true]
        rw [iterE_iff]
        constructor
        · rintro ⟨m, h⟩
          cases m with
          | zero => cases h
          | succ m => simp only [iterD, hf, hb, cond_true] at h; exact ⟨m, h⟩
        · rintro ⟨m, h⟩
          exact ⟨m + 1, by simp only [iterD, hf, hb, cond_true]; exact h⟩
      | false =>
        simp only [hb, cond_false]
        constructor
        · rintro ⟨m, h⟩
          cases m with
          | zero => cases h
          | succ m => simp only [iterD, hf, hb, cond_false] at h; exact h
        · intro h; exact ⟨1, by simp only [iterD, hf, hb, cond_false]; exact h⟩
noncomputable def Tree.denE (P : Program) (orc : Orc) : Tree α → List D → Option (Out α)
  | .leaf a, ρ => some (.leaf a ρ)
  | .out l es, ρ => (denRow ρ es).map (.out l)
  | .op p n t, ρ => (p.den P orc ρ).bind fun ds => bif Nat.beq ds.length n then Tree.denE P orc t (ρ ++ ds) else none
  | .ite x a b, ρ => match x.den ρ with
    | some (.v (.bool true)) => Tree.denE P orc a ρ
    | some (.v (.bool false)) => Tree.denE P orc b ρ
    | _ => none
  | .fail, _ => none
  | .join l t r, ρ => match Tree.denE P orc t ρ with
    | some (.out l' ds) => bif Nat.beq l' l then Tree.denE P orc r (ρ ++ ds) else some (.out l' ds)
    | o => o
  | .loop l es body, ρ => (denRow ρ es).bind fun ds => iterE (fun ds => Tree.denE P orc body (ρ ++ ds)) l ds
theorem pr_le {o o' : Orc} (h : Orc.le o o') {p : Pr} {ρ : List D} {ds : List D} (e : p.den P o ρ = some ds) : p.den P o' ρ = some ds := by
  cases p with
  | call g args =>
    simp only [Pr.den, Option.bind_eq_some_iff] at e ⊢
    obtain ⟨vs, hvs, e⟩ := e; exact ⟨vs, hvs, h _ _ _ e⟩
  | _ => exact e
/-- Fewer rounds tell no more. -/
theorem den_leE {o o' : Orc} (h : Orc.le o o') {k : Nat} : ∀ (T : Tree α) {ρ : List D} {r : Out α}, T.den P o k ρ = some r → T.denE P o' ρ = some r
  | .leaf a, ρ, r, e => e
  | .out l es, ρ, r, e => e
  | .op p n t, ρ, r, e => by
    simp only [Tree.den, Tree.denE, Option.bind_eq_some_iff] at e ⊢
    obtain ⟨ds, hds, e⟩ := e
    refine ⟨ds, pr_le h hds, ?_⟩
    cases hb : Nat.beq ds.length n with
    | true => simp only [hb, cond_true] at e ⊢; exact den_leE h t e
    | false => simp [hb] at e
  | .ite x a b, ρ, r, e => by
    simp only [Tree.den, Tree.denE] at e ⊢
    split at e
    · rename_i hx; rw [hx]; exact den_leE h a e
    · rename_i hx; rw [hx]; exact den_leE h b e
    · cases e
  | .fail, ρ, r, e => by cases e
  | .join l t s, ρ, r, e => by
    simp only [Tree.den, Tree.denE] at e ⊢
    cases ht : t.den P o k ρ with
    | none => rw [ht] at e; cases e
    | some q =>
      rw [ht] at e; rw [den_leE h t ht]
      cases q with
      | leaf a ρ' => exact e
      | out l' ds =>
        simp only at e ⊢
        cases hb : Nat.beq l' l with
        | true => simp only [hb, cond_true] at e ⊢; exact den_leE h s e
        | false => simp only [hb, cond_false] at e ⊢; exact e
  | .loop l es body, ρ, r, e => by
    simp only [Tree.den, Tree.denE, Option.bind_eq_some_iff] at e ⊢
    obtain ⟨ds, hds, e⟩ := e
    exact ⟨ds, hds, iterE_iff.2 ⟨k, iter_le (fun ds r hr => den_leE h body hr) l k ds r e⟩⟩
theorem den_up {o o' : Orc} (h : Orc.le o o') {k : Nat} : ∀ (T : Tree α) {ρ : List D} {r : Out α}, T.den P o k ρ = some r → T.den P o' (k + 1) ρ = some r
  | .leaf a, ρ, r, e => e
  | .out l es, ρ, r, e => e
  | .op p n t, ρ, r, e => by
    simp only [Tree.den, Option.bind_eq_some_iff] at e ⊢
    obtain ⟨ds, hds, e⟩ := e
    refine ⟨ds, pr_le h hds, ?_⟩
    cases hb : Nat.beq ds.length n with
    | true => simp only [hb, cond_true] at e ⊢; exact den_up h t e
    | false => simp [hb] at e
  | .ite x a b, ρ, r, e => by
    simp only [Tree.den] at e ⊢
    split at e
    · exact den_up h a e
    · exact den_up h b e
    · cases e
  | .fail, ρ, r, e => by cases e
  | .join l t s, ρ, r, e => by
    simp only [Tree.den] at e ⊢
    cases ht : t.den P o k ρ with
    | none => rw [ht] at e; cases e
    | some q =>
      rw [ht] at e; rw [den_up h t ht]
      cases q with
      | leaf a ρ' => exact e
      | out l' ds =>
        simp only at e ⊢
        cases hb : Nat.beq l' l with
        | true => simp only [hb, cond_true] at e ⊢; exact den_up h s e
        | false => simp only [hb, cond_false] at e ⊢; exact e
  | .loop l es body, ρ, r, e => by
    simp only [Tree.den, Option.bind_eq_some_iff] at e ⊢
    obtain ⟨ds, hds, e⟩ := e
    exact ⟨ds, hds, iter_up _ l k ds r (iter_le (fun ds r hr => den_up h body hr) l k ds r e)⟩
variable {ents : List Ent}
theorem Mo_succ (n g : Nat) (ρ : List D) : Mo P ents (n + 1) g ρ = match ents[g]? with
    | some (.tree T) => outOf (T.den P (Mo P ents n) n ρ)
    | some (.ext m) => m ρ
    | none => none := rfl
theorem Mo_up : ∀ n, Orc.le (Mo P ents n) (Mo P ents (n + 1))
  | 0, g, ρ, r, h => by cases h
  | n + 1, g, ρ, r, h => by
    have ih := Mo_up n
    rw [Mo_succ] at h ⊢
    split at h
    · rename_i T hT
      cases hd : T.den P (Mo P ents n) n ρ with
      | none => rw [hd] at h; cases h
      | some o => rw [hd] at h; rw [den_up ih T hd]; exact h
    · exact h
    · cases h
/-- What all functions compute. -/
noncomputable def Me (P : Program) (ents : List Ent) : Orc := fun g ρ => lim fun n => Mo P ents n g ρ
theorem Me_iff {g : Nat} {ρ r : List D} : Me P ents g ρ = some r ↔ ∃ n, Mo P ents n g ρ = some r := lim_iff fun n r h => Mo_up n g ρ r h
theorem Mo_leE (n : Nat) : Orc.le (Mo P ents n) (Me P ents) := fun g ρ r h => Me_iff.2 ⟨n, h⟩
theorem Mo_le {n m : Nat} (h : n ≤ m) : Orc.le (Mo P ents n) (Mo P ents m) := fun g ρ r hr => Up.le (f := fun n => Mo P ents n g ρ) (fun n r h => Mo_up n g ρ r h) h hr
theorem den_le {n m : Nat} (h : n ≤ m) {T : Tree α} {ρ : List D} {r : Out α} (e : T.den P (Mo P ents n) n ρ = some r) : T.den P (Mo P ents m) m ρ = some r :=
  Up.le (f := fun n => T.den P (Mo P ents n) n ρ) (fun n r h => den_up (Mo_up n) T h) h e
/-- And what is told is told at some round. -/
theorem denE_at : ∀ (T : Tree α) {ρ : List D} {r : Out α}, T.denE P (Me P ents) ρ = some r → ∃ n, T.den P (Mo P ents n) n ρ = some r
  | .leaf a, ρ, r, e => ⟨0, e⟩
  | .out l es, ρ, r, e => ⟨0, e⟩
  | .op p n t, ρ, r, e => by
    simp only [Tree.denE, Option.bind_eq_some_iff] at e
    obtain ⟨ds, hds, e⟩ := e
    cases hb : Nat.beq ds.length n with
    | false => simp [hb] at e
    | true =>
      simp only [hb, cond_true] at e
      obtain ⟨n1, h1⟩ := denE_at t e
      have : ∃ n0, p.den P (Mo P ents n0) ρ = some ds := by
        cases p with
        | call g args =>
          simp only [Pr.den, Option.bind_eq_some_iff] at hds
          obtain ⟨vs, hvs, hg⟩ := hds
          obtain ⟨n0, h0⟩ := Me_iff.1 hg
          exact ⟨n0, by simp only [Pr.den, hvs, Option.bind_some]; exact h0⟩
        | _ => exact ⟨0, hds⟩
      obtain ⟨n0, h0⟩ := this
      refine ⟨max n0 n1, ?_⟩
      simp only [Tree.den, Option.bind_eq_some_iff]
      exact ⟨ds, pr_le (Mo_le (Nat.le_max_left ..)) h0, by simp only [hb, cond_true]; exact den_le (Nat.le_max_right ..) h1⟩
  | .ite x a b, ρ, r, e => by
    simp only [Tree.denE] at e
    split at e
    · rename_i hx; obtain ⟨n, h⟩ := denE_at a e; exact ⟨n, by simp only [Tree.den, hx]; exact h⟩
    · rename_i hx; obtain ⟨n, h⟩ := denE_at b e; exact ⟨n, by simp only [Tree.den, hx]; exact h⟩
    · cases e
  | .fail, ρ, r, e => by cases e
  | .join l t s, ρ, r, e => by
    simp only [Tree.denE] at e
    cases ht : t.denE P (Me P ents) ρ with
    | none => rw [ht] at e; cases e
    | some q =>
      rw [ht] at e
      obtain ⟨n0, h0⟩ := denE_at t ht
      cases q with
      | leaf a ρ' => exact ⟨n0, by simp only [Tree.den, h0]; exact e⟩
      | out l' ds =>
        simp only at e
        cases hb : Nat.beq l' l with
        | true =>
          simp only [hb, cond_true] at e
          obtain ⟨n1, h1⟩ := denE_at s e
          exact ⟨max n0 n1, by simp only [Tree.den, den_le (Nat.le_max_left n0 n1) h0, hb, cond_true]; exact den_le (Nat.le_max_right ..) h1⟩
        | false =>
          simp only [hb, cond_false] at e
          exact ⟨n0, by simp only [Tree.den, h0, hb, cond_false]; exact e⟩
  | .loop l es body, ρ, r, e => by
    simp only [Tree.denE, Option.bind_eq_some_iff] at e
    obtain ⟨ds, hds, e⟩ := e
    obtain ⟨m, hm⟩ := iterE_iff.1 e
    have key : ∀ (m : Nat) (ds : List D) (r : Out α), iterD (fun ds => body.denE P (Me P ents) (ρ ++ ds)) l m ds = some r → ∃ n, iterD (fun ds => body.den P (Mo P ents n) n (ρ ++ ds)) l n ds = some r := by
      intro m
      induction m with
      | zero => intro ds r h; cases h
      | succ m ih =>
        intro ds r h
        simp only [iterD] at h
        have up : ∀ {n n' : Nat}, n ≤ n' → ∀ {ds r}, iterD (fun ds => body.den P (Mo P ents n) n (ρ ++ ds)) l n ds = some r → iterD (fun ds => body.den P (Mo P ents n') n' (ρ ++ ds)) l n' ds = some r := fun {n n'} hn {ds r} h =>
          Up.le (f := fun m => iterD (fun ds => body.den P (Mo P ents n') n' (ρ ++ ds)) l m ds) (fun m r h => iter_up _ l m ds r h) hn (iter_le (fun ds r hr => den_le hn hr) l n ds r h)
        cases hb : body.denE P (Me P ents) (ρ ++ ds) with
        | none => rw [hb] at h; cases h
        | some q =>
          rw [hb] at h
          obtain ⟨n0, h0⟩ := denE_at body hb
          cases q with
          | leaf a ρ' =>
            refine ⟨n0 + 1, ?_⟩
            simp only [iterD, den_le (Nat.le_succ n0) h0]; exact h
          | out l' ds' =>
            simp only at h
            cases hl : Nat.beq l' l with
            | true =>
              simp only [hl, cond_true] at h
              obtain ⟨n1, h1⟩ := ih ds' r h
              refine ⟨max n0 n1 + 1, ?_⟩
              simp only [iterD, den_le (Nat.le_succ_of_le (Nat.le_max_left n0 n1)) h0, hl, cond_true]
              have := iter_le (fun ds r hr => den_le (Nat.le_succ _) hr) l _ _ _ (up (Nat.le_max_right n0 n1) h1)
              exact this
            | false =>
              simp only [hl, cond_false] at h
              refine ⟨n0 + 1, ?_⟩
              simp only [iterD, den_le (Nat.le_succ n0) h0, hl, cond_false]; exact h
    obtain ⟨n, hn⟩ := key m ds r hm
    exact ⟨n, by simp only [Tree.den, hds, Option.bind_some]; exact hn⟩
/-- The equation of a function. -/
theorem Me_tree {k : Nat} {T : Tree Unit} (h : ents[k]? = some (.tree T)) (ρ : List D) : Me P ents k ρ = outOf (T.denE P (Me P ents) ρ) := by
  apply Option.ext
  intro r
  rw [Me_iff]
  constructor
  · rintro ⟨n, hn⟩
    cases n with
    | zero => cases hn
    | succ n =>
      simp only [Mo, h] at hn
      cases hd : T.den P (Mo P ents n) n ρ with
      | none => rw [hd] at hn; cases hn
      | some o => rw [hd] at hn; rw [den_leE (Mo_leE n) T hd]; exact hn
  · intro hr
    cases hd : T.denE P (Me P ents) ρ with
    | none => rw [hd] at hr; cases hr
    | some o =>
      rw [hd] at hr
      obtain ⟨n, hn⟩ := denE_at T hd
      exact ⟨n + 1, by simp only [Mo, h, hn]; exact hr⟩
theorem Me_ext {k : Nat} {m : List D → Option (List D)} (h : ents[k]? = some (.ext m)) (ρ : List D) : Me P ents k ρ = m ρ := by
  apply Option.ext
  intro r
  rw [Me_iff]
  constructor
  · rintro ⟨n, hn⟩
    cases n with
    | zero => cases hn
    | succ n => simpa [Mo, h] using hn
  · intro hr; exact ⟨1, by simpa [Mo, h] using hr⟩
end
/-- All functions do what is computed. -/
theorem sigs_ok {P : Program} {sg : List Sig} {ents : List Ent} (hm : P.follows .mixedOrders = true) (hNG : NG P) (h : ∀ (k : Nat) (g : Sig), sg[k]? = some g → ∃ e, ents[k]? = some e ∧ EntOK P sg (drawX P sg) g e) : ∀ k g, sg[k]? = some g → SigOK P g (Me P ents k) := by
  intro k g hg ρ σ M w vs outs h1 h2 h3 h4
  obtain ⟨n, hn⟩ := Me_iff.1 h4
  exact all_ok hNG (fun orc kk nt hsg => drawX_ok hm hNG hsg) h n k g hg ρ σ M w vs outs h1 h2 h3 hn
end Go.Proofs.YtfphabkdgdgnbaaGreatDoor.SE
