import Derived.Test.YtfphabkdgdgnbaaGreatDoorAE15
import Derived.Recover
set_option linter.unusedVariables false
set_option linter.unusedSimpArgs false
namespace Go.Proofs.YtfphabkdgdgnbaaGreatDoor.AE
open Go Go.RowKit

/-- A function whose first statement, behind its results' variables, defers a closure; it ends without a panic. -/
def aDefOf (ops : Array Oper) : Option (Oper × Oper × Tmp) :=
  match ops.toList with
  | [o0, o1] => match o1.dst, o1.guard, o1.op with
    | none, none, .defer c => match c.callee, c.args.toList with
      | .value (.tmp t), [] => some (o0, o1, t)
      | _, _ => none
    | _, _, _ => none
  | _ => none
def isRec (o : Oper) : Bool :=
  match o.guard, o.op with
  | none, .call c => match c.callee, c.args.toList with
    | .builtin .recover, [] => true
    | _, _ => false
  | _, _ => false
/-- The closure, with nothing to recover. -/
def aClose (P : Program) (G : Gl) (call : CallF) (ih : RunF) (g : FuncId) (args : List AV) (H : AH) : Option AH :=
  match P.funcs[g]? with
  | none => none
  | some fn => match fn.body with
    | some (.seq (.region _ ops false) rest) => match ops.toList with
      | [o0, o1] => bif isRec o0 && Nat.ble args.length fn.ntmps && fn.results.isEmpty then
          (aArgs fn.ntmps args 0 .nil).bind fun T => (aPut fn.ntmps o0.dst (.v .nilIface) T).bind fun T1 => (aOps P G call fn.ntmps ops [1] ⟨T1, H⟩).bind fun st =>
            match ih fn.ntmps rest st with
            | some (.ret, st4) => some st4.H
            | some (.normal, st4) => some st4.H
            | _ => none
        else none
      | _ => none
    | _ => none
def aCallD (P : Program) (G : Gl) (call : CallF) (ih : RunF) : CallF := fun f args H =>
  match P.funcs[f]? with
  | none => none
  | some fn => match fn.body with
    | some (.seq r0 (.seq (.region _ ops false) rest)) => match aDefOf ops with
      | none => none
      | some (o0, o1, t) => bif Nat.ble args.length fn.ntmps then
          (aArgs fn.ntmps args 0 .nil).bind fun T => match ih fn.ntmps r0 ⟨T, H⟩ with
            | some (.normal, st1) => (aOps P G call fn.ntmps ops [0] st1).bind fun st2 => match st2.T.get t with
              | some (.fn (.func g) first cap) => match ih fn.ntmps rest st2 with
                | some (.ret, st3) => (aClose P G call ih g (first ++ cap) st3.H).bind fun H4 => (aRes P G ⟨st3.T, H4⟩ fn.results.toList).bind fun l => match l with
                  | [a] => some (aTrim H.length (a, H4))
                  | l => some (aTrim H.length (.tup l, H4))
                | _ => none
              | _ => none
            | _ => none
        else none
    | _ => none

section
variable {P : Program} {B : Nat} {w0 : World} {G : Gl} {ds : List Deferred}

theorem ops_ok' (hNG : NG P) (hG : GOK B w0 G) {call : CallF} (hc : CallOK P B w0 call) {n : Nat} {ops : Array Oper} {Q : Exit → Act → World → Prop} (more : List Nat) : ∀ (l : List Nat) (st st' : AS) (σ : Sg) (a : Act) (w : World),
    aOps P G call n ops l st = some st' → SR ds B w0 σ n st a w → (∀ σ' a' w', σ <+: σ' → SR ds B w0 σ' n st' a' w' → wpOps P ops Q more a' w') → wpOps P ops Q (l ++ more) a w
  | [], st, st', σ, a, w, h, hs, hQ => by
    simp only [aOps, Option.some.injEq] at h; subst h
    exact hQ σ a w List.prefix_rfl hs
  | i :: rest, st, st', σ, a, w, h, hs, hQ => by
    simp only [aOps] at h
    simp only [wpOps, List.cons_append]
    cases ho : ops[i]? with
    | none => rw [ho] at h; cases h
    | some o =>
      rw [ho] at h
      simp only at h ⊢
      have step : ∀ {σ1 : Sg} {w1 : World} {b : AV} {v : Value} {H1 : AH}, σ <+: σ1 → WR B w0 σ1 H1 w1 → b.conc σ1 = some v → ((aPut n o.dst b st.T).bind fun T' => aOps P G call n ops rest ⟨T', H1⟩) = some st' → wpOps P ops Q (rest ++ more) (a.put o.dst v) w1 := by
        intro σ1 w1 b v H1 hp hw1 hb hr
        simp only [Option.bind_eq_some_iff] at hr
        obtain ⟨T', hT', hr⟩ := hr
        refine ops_ok' hNG hG hc more rest ⟨T', H1⟩ st' σ1 _ _ hr ⟨hw1, put_ok (hs.tr.mono hp) hb hT', by rw [put_defers]; exact hs.df⟩ fun σ' a' w' hp' hs' => hQ σ' a' w' (hp.trans hp') hs'
      split at h
      · cases h
      · rename_i hw
        rw [want_ok hs.tr hw]
        simp only [Bool.false_eq_true, if_false]
        exact step List.prefix_rfl hs.wr (b := .v undef) (by rfl) h
      · rename_i hw
        rw [want_ok hs.tr hw]
        simp only [if_true]
        refine .inl ?_
        unfold Oper.wp
        split at h
        · cases h
        · rename_i b H' hx
          obtain ⟨σ1, w1, hp, hw1, v, hv, hrun⟩ := exec_ok hNG hG hs.wr (ev_ok hs.tr) hx
          rw [hrun]; exact step hp hw1 hv h
        · rename_i H' hx
          obtain ⟨σ1, w1, hp, hw1, hrun⟩ := exec_ok hNG hG hs.wr (ev_ok hs.tr) hx
          simp only [NextR] at hrun
          rw [hrun]; exact step hp hw1 (b := .v undef) (by rfl) h
        · rename_i f args H' hx
          obtain ⟨σ1, w1, hp, hw1, vs, hvs, hrun⟩ := exec_ok hNG hG hs.wr (ev_ok hs.tr) hx
          rw [hrun]
          split at h
          · cases h
          · rename_i b H'' hcall
            refine (hc f args H' _ hcall σ1 w1 vs hw1 hvs).mono ?_
            rintro e w2 ⟨σ2, v, hp2, hw2, hv, rfl⟩
            exact step (hp.trans hp2) hw2 hv h

theorem defOf_ok {ops : Array Oper} {o0 o1 : Oper} {t : Tmp} (h : aDefOf ops = some (o0, o1, t)) : ops = #[o0, o1] ∧ o1.dst = none ∧ o1.guard = none ∧ ∃ c : Call, o1.op = .defer c ∧ c.callee = .value (.tmp t) ∧ c.args = #[] := by
  unfold aDefOf at h
  split at h
  · rename_i p q hl
    split at h
    · rename_i c h1 h2 h3
      split at h
      · rename_i t' h4 h5
        simp only [Option.some.injEq, Prod.mk.injEq] at h
        obtain ⟨rfl, rfl, rfl⟩ := h
        exact ⟨Array.ext' (by simpa using hl), h1, h2, c, h3, h4, Array.ext' (by simpa using h5)⟩
      · cases h
    · cases h
  · cases h
theorem isRec_ok {o : Oper} (h : isRec o = true) : o.guard = none ∧ ∀ (ρ : Operand → Value) (w : World), (execOp ρ o).run P w = .ok .recover w := by
  unfold isRec at h
  split at h
  · rename_i c h1 h2
    split at h
    · rename_i h3 h4
      refine ⟨h1, fun ρ w => ?_⟩
      have h5 : c.args = #[] := Array.ext' (by simpa using h4)
      unfold execOp
      simp [h2, resolve, h3, h5, invoke, builtin]
    · cases h
  · cases h

theorem args0_ok {σ : Sg} {n : Nat} {args : List AV} {vs : List Value} (hvs : concL σ args = some vs) (hle : args.length ≤ n) {T : PT} (hT : aArgs n args 0 .nil = some T) :
    TR σ n T (vs.toArray ++ Array.replicate (n - vs.toArray.size) undef) := by
  have hlen := concL_length hvs
  refine args_ok (a := { tmps := vs.toArray ++ Array.replicate (n - vs.toArray.size) undef, defers := [] }) hvs ⟨by simp; omega, fun t a ha => by simp [PT.get] at ha⟩ hT fun j v hj => ?_
  have hjl : j < vs.length := by
    rcases Nat.lt_or_ge j vs.length with h' | h'
    · exact h'
    · rw [List.getElem?_eq_none h'] at hj; cases hj
  rw [Nat.zero_add, Array.getElem?_append_left (by simpa using hjl)]; simpa using hj

theorem close_ok (hNG : NG P) (hG : GOK B w0 G) {call : CallF} (hc : CallOK P B w0 call) {ih : RunF} (hih : RunOK P B w0 ih) {g : FuncId} {args : List AV} {H H' : AH} (h : aClose P G call ih g args H = some H') {σ : Sg} {w : World} {vs : List Value} (hw : WR B w0 σ H w) (hvs : concL σ args = some vs) :
    CallsD P g vs.toArray .returning w fun e u' w' => ∃ σ' v, σ <+: σ' ∧ WR B w0 σ' H' w' ∧ u' = .returning ∧ e = .returned v := by
  unfold aClose at h
  split at h
  · cases h
  · rename_i fn hfn
    split at h
    · rename_i id ops rest hb
      split at h
      · rename_i o0 o1 hl
        have hops : ops = #[o0, o1] := Array.ext' (by simpa using hl)
        cases hcnd : (isRec o0 && Nat.ble args.length fn.ntmps && fn.results.isEmpty) with
        | false => simp [hcnd] at h
        | true =>
          simp only [hcnd, cond_true, Option.bind_eq_some_iff] at h
          simp only [Bool.and_eq_true] at hcnd
          obtain ⟨⟨hr0, hle⟩, hres⟩ := hcnd
          obtain ⟨T, hT, T1, hT1, st, hst, h⟩ := h
          obtain ⟨hg0, hx0⟩ := isRec_ok (P := P) hr0
          have hle := Nat.le_of_ble_eq_true hle
          refine callsD_of_wpS hfn hb fun c₀ cs hmode => ?_
          have hs0 := args0_ok hvs hle hT
          have hs1 : SR [] B w0 σ fn.ntmps ⟨T1, H⟩ ({ tmps := vs.toArray ++ Array.replicate (fn.ntmps - vs.toArray.size) undef, defers := [] } : Act) w → True := fun _ => trivial
          refine wpS_seq (wpS_region ?_)
          have hrange : List.range ops.size = [0, 1] := by rw [hops]; rfl
          have e0 : ops[0]? = some o0 := by rw [hops]; rfl
          have e1 : ops[1]? = some o1 := by rw [hops]; rfl
          have hw0 : Region.wanted o0 (yielded ops (vs.toArray ++ Array.replicate (fn.ntmps - vs.toArray.size) undef)) = true := by simp [Region.wanted, hg0]
          have hrec : recoverD (c₀ :: cs) = none := by simp [recoverD, hmode]
          rw [hrange]
          simp only [wpOpsS, e0, hw0, if_true, hx0, hrec, e1]
          have hput : TR σ fn.ntmps T1 (Act.put { tmps := vs.toArray ++ Array.replicate (fn.ntmps - vs.toArray.size) undef, defers := [] } o0.dst .nilIface).tmps := put_ok (a := { tmps := vs.toArray ++ Array.replicate (fn.ntmps - vs.toArray.size) undef, defers := [] }) hs0 (b := .v .nilIface) (by rfl) hT1
          generalize hA : Act.put { tmps := vs.toArray ++ Array.replicate (fn.ntmps - vs.toArray.size) undef, defers := [] } o0.dst .nilIface = A at hput
          have hAd : A.defers = [] := by rw [← hA, put_defers]
          have hsA : SR [] B w0 σ fn.ntmps ⟨T1, H⟩ A w := ⟨hw, hput, hAd⟩
          -- the rest
          have fin : ∀ (σ1 : Sg) (a1 : Act) (w1 : World), σ <+: σ1 → SR [] B w0 σ1 fn.ntmps st a1 w1 →
              Exit.thenS (rest.wpS P (bodyPostS P fn c₀ cs fun e u' w' => ∃ σ' v, σ <+: σ' ∧ WR B w0 σ' H' w' ∧ u' = .returning ∧ e = .returned v)) (bodyPostS P fn c₀ cs fun e u' w' => ∃ σ' v, σ <+: σ' ∧ WR B w0 σ' H' w' ∧ u' = .returning ∧ e = .returned v) .normal a1 (c₀ :: cs) w1 := by
            intro σ1 a1 w1 hp1 hs1
            show rest.wpS P _ a1 (c₀ :: cs) w1
            have done : ∀ (x : AX) (st4 : AS), ih fn.ntmps rest st = some (x, st4) → (x = .ret ∨ x = .normal) → st4.H = H' →
                rest.wpS P (bodyPostS P fn c₀ cs fun e u' w' => ∃ σ' v, σ <+: σ' ∧ WR B w0 σ' H' w' ∧ u' = .returning ∧ e = .returned v) a1 (c₀ :: cs) w1 := by
              intro x st4 hx hxx hH
              refine wpS_of_wp (wp_mono (hih fn.ntmps rest st x st4 hx σ1 a1 w1 hs1) ?_)
              rintro e a2 w2 ⟨hX, σ2, hp2, hs2⟩
              have post : a2.defers = [] ∧ ∃ u', (c₀ :: cs : List Frame) = { c₀ with mode := u' } :: cs ∧ ∃ v, (results fn a2.tmps).run P w2 = .ok v w2 ∧ ∃ σ' v', σ <+: σ' ∧ WR B w0 σ' H' w2 ∧ u' = .returning ∧ Ending.returned v = .returned v' := by
                refine ⟨hs2.df, .returning, by rw [← hmode], ?_⟩
                obtain ⟨us, _, hrun⟩ := results_ok (as := []) (fn := fn) hG hs2 (by
                  have : fn.results.toList = [] := by simpa using hres
                  rw [this]; rfl)
                exact ⟨_, hrun, σ2, _, hp1.trans hp2, hH ▸ hs2.wr, rfl, rfl⟩
              rcases hxx with rfl | rfl <;> cases e <;> first | exact hX.elim | exact post
            split at h
            · rename_i st4 hx; exact done _ st4 hx (.inl rfl) (by simpa using h)
            · rename_i st4 hx; exact done _ st4 hx (.inr rfl) (by simpa using h)
            · cases h
          -- operation 1
          simp only [aOps, e1] at hst
          have step : ∀ {σ1 : Sg} {w1 : World} {b : AV} {v : Value} {H1 : AH}, σ <+: σ1 → WR B w0 σ1 H1 w1 → b.conc σ1 = some v → ((aPut fn.ntmps o1.dst b T1).bind fun T' => some ⟨T', H1⟩) = some st → SR [] B w0 σ1 fn.ntmps st (A.put o1.dst v) w1 := by
            intro σ1 w1 b v H1 hp hw1 hb hr
            simp only [Option.bind_eq_some_iff, Option.some.injEq] at hr
            obtain ⟨T', hT', rfl⟩ := hr
            exact ⟨hw1, put_ok (hput.mono hp) hb hT', by rw [put_defers]; exact hAd⟩
          split at hst
          · cases hst
          · rename_i hwt
            have := want_ok (tmps := A.tmps) hput hwt
            simp only [this, Bool.false_eq_true, if_false]
            exact fin σ _ w List.prefix_rfl (step List.prefix_rfl hw (b := .v undef) (by rfl) hst)
          · rename_i hwt
            have := want_ok (tmps := A.tmps) hput hwt
            simp only [this, if_true]
            split at hst
            · cases hst
            · rename_i b H1 hx
              obtain ⟨σ1, w1, hp, hw1, v, hv, hrun⟩ := exec_ok hNG hG hw (ev_ok (a := A) hput) hx
              simp only [hrun]
              exact fin σ1 _ w1 hp (step hp hw1 hv hst)
            · rename_i H1 hx
              obtain ⟨σ1, w1, hp, hw1, hrun⟩ := exec_ok hNG hG hw (ev_ok (a := A) hput) hx
              simp only [NextR] at hrun
              simp only [hrun]
              exact fin σ1 _ w1 hp (step hp hw1 (b := .v undef) (by rfl) hst)
            · rename_i f1 args1 H1 hx
              obtain ⟨σ1, w1, hp, hw1, vs1, hvs1, hrun⟩ := exec_ok hNG hG hw (ev_ok (a := A) hput) hx
              simp only [hrun]
              split at hst
              · cases hst
              · rename_i b H2 hcall
                refine (hc f1 args1 H1 _ hcall σ1 w1 vs1 hw1 hvs1).mono ?_
                rintro e w2 ⟨σ2, v, hp2, hw2, hv, rfl⟩
                exact fin σ2 _ w2 (hp.trans hp2) (step (hp.trans hp2) hw2 hv hst)
      · cases h
    · cases h

theorem callD_ok (hNG : NG P) (hG : GOK B w0 G) {call : CallF} (hc : CallOK P B w0 call) {ih : RunF} (hih : RunOK P B w0 ih) : CallOK P B w0 (aCallD P G call ih) := by
  intro f args H r h σ w vs hw hvs
  unfold aCallD at h
  split at h
  · cases h
  · rename_i fn hfn
    split at h
    · rename_i r0 id ops rest hb
      split at h
      · cases h
      · rename_i o0 o1 t hdef
        obtain ⟨hops, hd1, hg1, c, hop1, hcal, hargs1⟩ := defOf_ok hdef
        cases hble : Nat.ble args.length fn.ntmps with
        | false => simp [hble] at h
        | true =>
          simp only [hble, cond_true, Option.bind_eq_some_iff] at h
          obtain ⟨T, hT, h⟩ := h
          split at h
          · rename_i st1 hst1
            simp only [Option.bind_eq_some_iff] at h
            obtain ⟨st2, hst2, h⟩ := h
            split at h
            · rename_i g first cap hfnv
              split at h
              · rename_i st3 hst3
                simp only [Option.bind_eq_some_iff] at h
                obtain ⟨H4, hcl, l, hl, hres⟩ := h
                refine calls_of_wp_defers hfn hb ?_
                have hs0 : SR [] B w0 σ fn.ntmps ⟨T, H⟩ ({ tmps := vs.toArray ++ Array.replicate (fn.ntmps - vs.toArray.size) undef, defers := [] } : Act) w := ⟨hw, args0_ok hvs (Nat.le_of_ble_eq_true hble) hT, rfl⟩
                refine wp_seq (wp_mono (hih fn.ntmps r0 _ .normal st1 hst1 σ _ w hs0) ?_)
                rintro x a1 w1 ⟨hx, σ1, hp1, hs1⟩
                cases x <;> first | exact hx.elim | skip
                refine wp_seq (wp_region ?_)
                have hrange : List.range ops.size = [0] ++ [1] := by rw [hops]; rfl
                rw [hrange]
                refine ops_ok' hNG hG hc [1] [0] st1 st2 σ1 a1 w1 hst2 hs1 fun σ2 a2 w2 hp2 hs2 => ?_
                have e1 : ops[1]? = some o1 := by rw [hops]; rfl
                have hw1 : Region.wanted o1 (yielded ops a2.tmps) = true := by simp [Region.wanted, hg1]
                obtain ⟨fv, hfv, hfvt⟩ := hs2.tr.2 t _ hfnv
                simp only [AV.conc, Option.bind_eq_some_iff, Option.map_eq_some_iff] at hfv
                obtain ⟨vf, hvf, vc, hvc, rfl⟩ := hfv
                have hev : a2.eval (.tmp t) = .func (.func g) vf.toArray vc.toArray := by
                  simp only [Act.eval, Array.getD_eq_getD_getElem?, hfvt, Option.getD_some]
                have hrun : (execOp a2.eval o1).run P w2 = .ok (.defer { target := .fn (.func g) vc.toArray, args := vf.toArray }) w2 := by
                  unfold execOp
                  simp [hop1, resolve, hcal, hev, hargs1, Deferred.ofValue]
                simp only [wpOps, e1, hw1, if_true]
                refine .inl ?_
                unfold Oper.wp
                rw [hrun]
                simp only [Oper.upon, hd1, Act.put]
                generalize hA : ({ a2 with defers := { target := .fn (.func g) vc.toArray, args := vf.toArray } :: a2.defers } : Act) = A
                have hsA : SR [{ target := .fn (.func g) vc.toArray, args := vf.toArray }] B w0 σ2 fn.ntmps st2 A w2 := by
                  subst hA; exact ⟨hs2.wr, hs2.tr, by simp [hs2.df]⟩
                show rest.wp P _ A w2
                refine wp_mono (hih fn.ntmps rest st2 .ret st3 hst3 σ2 A w2 hsA) ?_
                rintro x a3 w3 ⟨hx, σ3, hp3, hs3⟩
                cases x <;> first | exact hx.elim | skip
                show Leaves P fn a3.tmps _ a3.defers .returning w3
                rw [hs3.df]
                have hall : concL σ3 (first ++ cap) = some (vf ++ vc) := concL_append (concL_mono hp3 first hvf) (concL_mono hp3 cap hvc)
                have hcc := close_ok hNG hG hc hih hcl hs3.wr hall
                obtain ⟨fg, hfg⟩ : ∃ fg, P.funcs[g]? = some fg := by
                  unfold aClose at hcl
                  split at hcl
                  · cases hcl
                  · rename_i fg hfg; exact ⟨fg, hfg⟩
                refine leaves_cons (by simp) (f := g) (args := (vf ++ vc).toArray) ?_ (hcc.mono ?_)
                · simp only [invoke]
                  obtain ⟨cg, hcg⟩ : ∃ cg, fg.body = some cg := by
                    unfold aClose at hcl
                    rw [hfg] at hcl
                    simp only at hcl
                    split at hcl
                    · rename_i h9; exact ⟨_, h9⟩
                    · cases hcl
                  have hnm := hNG g fg hfg
                  simp only [callFunc, Sem.run_bind, run_program, Result.andThen_ok, hfg, hnm, Bool.false_eq_true, if_false, hcg, Option.isNone_some, Sem.run_pure]
                  simp
                · rintro e u' w4 ⟨σ4, v, hp4, hw4, rfl, rfl⟩
                  simp only [settle]
                  have hs4 : SR [{ target := .fn (.func g) vc.toArray, args := vf.toArray }] B w0 σ4 fn.ntmps ⟨st3.T, H4⟩ a3 w4 := ⟨hw4, hs3.tr.mono hp4, hs3.df⟩
                  obtain ⟨us, hus, hrun4⟩ := results_ok hG hs4 hl
                  refine ⟨_, hrun4, ?_⟩
                  have hval : ∃ av : AV, r = aTrim H.length (av, H4) ∧ av.conc σ4 = some (oneOf us) := by
                    split at hres
                    · rename_i a1
                      simp only [Option.some.injEq] at hres
                      simp only [concL, Option.bind_eq_some_iff, Option.map_eq_some_iff, Option.some.injEq] at hus
                      obtain ⟨y, hy, z, rfl, rfl⟩ := hus
                      exact ⟨_, hres.symm, hy⟩
                    · rename_i hne
                      simp only [Option.some.injEq] at hres
                      refine ⟨_, hres.symm, ?_⟩
                      simp only [AV.conc, hus, Option.map_some]
                      have hl2 := concL_length hus
                      match us, hl2 with
                      | [], _ => rfl
                      | [v], hl2 =>
                        match l, hl2 with
                        | [a1], _ => exact absurd rfl (hne a1)
                      | v :: u :: us, _ => rfl
                  obtain ⟨av, rfl, hav⟩ := hval
                  obtain ⟨σ5, h1, h2, h3⟩ := trim_ok (r := (av, H4)) hw (((hp1.trans hp2).trans hp3).trans hp4) hw4 hav
                  exact ⟨σ5, _, h1, h2, h3, rfl⟩
              · cases h
            · cases h
          · cases h
    · cases h

/-- The functions in 'l' are called by the first evaluator, which knows no other; what it says counts. -/
def orcD (P : Program) (G : Gl) (k : Nat) (l : List Nat) : CallF := fun f args H =>
  bif l.contains f then aCallD P G (aCall P G (fun _ _ _ => none) (run P G (fun _ _ _ => none) (aDraw P G) k)) (run P G (fun _ _ _ => none) (aDraw P G) k) f args H else none
theorem none_ok : CallOK P B w0 fun _ _ _ => none := by intro f args H r h; cases h
theorem orcD_ok (hm : P.follows .mixedOrders = true) (hNG : NG P) (hG : GOK B w0 G) (k : Nat) (l : List Nat) : CallOK P B w0 (orcD P G k l) := by
  intro f args H r h
  unfold orcD at h
  generalize hl : l.contains f = b at h
  cases b with
  | false => cases h
  | true =>
    exact callD_ok hNG hG (call_all hm hNG hG none_ok k) (run_ok hNG hG none_ok (fun call hcall => draw_ok hm hNG hG hcall) k) f args H r h
/-- The evaluator with these. -/
def callD (P : Program) (G : Gl) (k : Nat) (l : List Nat) : CallF := aCall P G (orcD P G k l) (run P G (orcD P G k l) (aDraw P G) k)
theorem callD_all (hm : P.follows .mixedOrders = true) (hNG : NG P) (hG : GOK B w0 G) (k : Nat) (l : List Nat) : CallOK P B w0 (callD P G k l) := call_all hm hNG hG (orcD_ok hm hNG hG k l) k
end
end Go.Proofs.YtfphabkdgdgnbaaGreatDoor.AE
