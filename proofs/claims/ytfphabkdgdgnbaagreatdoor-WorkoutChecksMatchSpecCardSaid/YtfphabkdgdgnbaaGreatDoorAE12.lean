import Derived.Test.YtfphabkdgdgnbaaGreatDoorAE11
set_option linter.unusedVariables false
set_option linter.unusedSimpArgs false
namespace Go.Proofs.YtfphabkdgdgnbaaGreatDoor.AE
open Go Go.RowKit

section
variable {P : Program} {B : Nat} {w0 : World} {G : Gl}

theorem call_ok (hNG : NG P) (hG : GOK B w0 G) {orc : CallF} (ho : CallOK P B w0 orc) {ih : RunF} (hih : RunOK P B w0 ih) : CallOK P B w0 (aCall P G orc ih) := by
  intro f args H r h σ w vs hw hvs
  unfold aCall at h
  split at h
  · rename_i r' hr
    simp only [Option.some.injEq] at h; subst h
    exact ho f args H r' hr σ w vs hw hvs
  · split at h
    · cases h
    · rename_i fn hfn
      split at h
      · cases h
      · rename_i c hc
        cases hb : Nat.ble args.length fn.ntmps with
        | false => simp only [hb, cond_false] at h; cases h
        | true =>
          simp only [hb, cond_true] at h
          have hle := Nat.le_of_ble_eq_true hb
          have hlen := concL_length hvs
          split at h
          · cases h
          · rename_i T hT
            refine calls_of_wp hfn hc ?_
            have hs0 : TR σ fn.ntmps T (vs.toArray ++ Array.replicate (fn.ntmps - vs.toArray.size) undef) := by
              refine args_ok (a := { tmps := vs.toArray ++ Array.replicate (fn.ntmps - vs.toArray.size) undef, defers := [] }) hvs ⟨by simp; omega, fun t a ha => by simp [PT.get] at ha⟩ hT fun j v hj => ?_
              have hjl : j < vs.length := by
                rcases Nat.lt_or_ge j vs.length with h' | h'
                · exact h'
                · rw [List.getElem?_eq_none h'] at hj; cases hj
              rw [Nat.zero_add, Array.getElem?_append_left (by simpa using hjl)]; simpa using hj
            have fin : ∀ (st : AS) (e : AX), ih fn.ntmps c ⟨T, H⟩ = some (e, st) → (e = .normal ∨ e = .ret) → ((aRes P G st fn.results.toList).bind fun l => match l with
                | [a] => some (aTrim H.length (a, st.H))
                | l => some (aTrim H.length (.tup l, st.H))) = some r →
                Code.wp P c (bodyPost P fn fun e w' => ∃ σ' v, σ <+: σ' ∧ WR B w0 σ' r.2 w' ∧ r.1.conc σ' = some v ∧ e = .returned v) { tmps := vs.toArray ++ Array.replicate (fn.ntmps - vs.toArray.size) undef, defers := [] } w := by
              intro st e hst he hres
              refine wp_mono (hih fn.ntmps c ⟨T, H⟩ e st hst σ _ w ⟨hw, hs0, rfl⟩) ?_
              rintro x a' w' ⟨hx, σ', hp, hs'⟩
              simp only [Option.bind_eq_some_iff] at hres
              obtain ⟨l, hl, hres⟩ := hres
              obtain ⟨us, hus, hrun⟩ := results_ok hG hs' hl
              have post : a'.defers = [] ∧ ∃ v, (results fn a'.tmps).run P w' = .ok v w' ∧ ∃ σ' v', σ <+: σ' ∧ WR B w0 σ' r.2 w' ∧ r.1.conc σ' = some v' ∧ Ending.returned v = .returned v' := by
                refine ⟨hs'.df, _, hrun, ?_⟩
                have hval : ∃ av : AV, r = aTrim H.length (av, st.H) ∧ av.conc σ' = some (oneOf us) := by
                  split at hres
                  · rename_i a1
                    simp only [Option.some.injEq] at hres
                    simp only [concL, Option.bind_eq_some_iff, Option.map_eq_some_iff, Option.some.injEq] at hus
                    obtain ⟨y, hy, z, rfl, rfl⟩ := hus
                    exact ⟨_, hres.symm, hy⟩
                  · rename_i hne
                    simp only [Option.some.injEq] at hres
                    refine ⟨_, hres.symm, ?_⟩
                    simp only [AV.conc, hus, Option.map_some]
                    have hl2 := concL_length hus
                    match us, hl2 with
                    | [], _ => rfl
                    | [v], hl2 =>
                      match l, hl2 with
                      | [a1], _ => exact absurd rfl (hne a1)
                    | v :: u :: us, _ => rfl
                obtain ⟨av, rfl, hav⟩ := hval
                obtain ⟨σ2, h1, h2, h3⟩ := trim_ok (r := (av, st.H)) hw hp hs'.wr hav
                exact ⟨σ2, _, h1, h2, h3, rfl⟩
              rcases he with rfl | rfl
              · cases x <;> first | exact hx.elim | exact post
              · cases x <;> first | exact hx.elim | exact post
            split at h
            · rename_i st hst; exact fin st .normal hst (.inl rfl) h
            · rename_i st hst; exact fin st .ret hst (.inr rfl) h
            · cases h

/-- The run. -/
def run (P : Program) (G : Gl) (orc : CallF) (draw : CallF → Nat → Array Oper → AS → Option (List AS)) : Nat → RunF :=
  Nat.rec (fun _ _ _ => none) fun k ih => aStep P G (aCall P G orc ih) (draw (aCall P G orc ih)) k ih
theorem run_ok (hNG : NG P) (hG : GOK B w0 G) {orc : CallF} (ho : CallOK P B w0 orc) {draw : CallF → Nat → Array Oper → AS → Option (List AS)} (hd : ∀ call, CallOK P B w0 call → DrawOK P B w0 (draw call)) : ∀ k, RunOK P B w0 (run P G orc draw k)
  | 0 => by intro n c st e st' h; cases h
  | k + 1 => step_ok hNG hG (call_ok hNG hG ho (run_ok hNG hG ho hd k)) (hd _ (call_ok hNG hG ho (run_ok hNG hG ho hd k))) k (run_ok hNG hG ho hd k)

/-- A call of the program, whatever the world: what the run says. -/
theorem call_run (hNG : NG P) (hG : GOK B w0 G) {orc : CallF} (ho : CallOK P B w0 orc) {draw : CallF → Nat → Array Oper → AS → Option (List AS)} (hd : ∀ call, CallOK P B w0 call → DrawOK P B w0 (draw call)) (k : Nat) :
    CallOK P B w0 (aCall P G orc (run P G orc draw k)) := call_ok hNG hG ho (run_ok hNG hG ho hd k)
end
end Go.Proofs.YtfphabkdgdgnbaaGreatDoor.AE
