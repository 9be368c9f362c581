import Derived.Test.YtfphabkdgdgnbaaGreatDoorAE12
import Derived.OrdersHeld
set_option linter.unusedVariables false
set_option linter.unusedSimpArgs false
namespace Go.Proofs.YtfphabkdgdgnbaaGreatDoor.AE
open Go Go.RowKit

def isVal (P : Program) : Op → Bool
  | .convert _ d _ => match pureRun P (underlying d) with
    | some (.slice _) => false
    | _ => true
  | .move _ | .assign _ | .pick .. | .build .. | .load .. | .nilCheck _ | .binOp .. | .unOp .. | .makeInterface .. | .makeFunc .. | .slice .. | .fieldAddr .. | .field .. | .indexAddr .. | .index .. | .lookup .. | .extract .. => true
  | .call { callee := .builtin .len, .. } | .call { callee := .builtin .cap, .. } | .call { callee := .builtin .min, .. } | .call { callee := .builtin .max, .. } => true
  | _ => false

section
variable {P : Program} {B : Nat} {w0 : World} {σ : Sg} {H : AH} {w : World} {G : Gl} {ρ : Operand → Option AV} {ρ' : Operand → Value}

theorem builtin_val (h : WR B w0 σ H w) {b : Builtin} (hb : b = .len ∨ b = .cap ∨ b = .min ∨ b = .max) {types : Array TypeId} {t : TypeId} {consts : Array Bool} {args : List AV} {vs : List Value} (hargs : concL σ args = some vs) {r : AV × AH} (hr : aBuiltin P b types t consts args H = some r) :
    ∃ v, r.1.conc σ = some v ∧ (builtin b types t consts vs.toArray).run P w = .ok (.value v) w := by
  unfold aBuiltin at hr
  simp only at hr
  split at hr
  · rcases hb with h | h | h | h <;> cases h
  · rename_i id off size n cap
    split at hr
    · rename_i t0 ht
      split at hr
      · rename_i e hu
        simp only [Option.some.injEq] at hr; subst hr
        simp only [concL, Option.bind_eq_some_iff, Option.map_eq_some_iff, Option.some.injEq] at hargs
        obtain ⟨y, hy, l, rfl, rfl⟩ := hargs
        obtain ⟨p, c, hp, hc, hle, rfl⟩ := conc_slc hy
        exact ⟨goInt n, by simp [AV.conc], by simp [builtin, Builtin.len_, ht, pureRun_run hu w]⟩
      · cases hr
    · cases hr
  · rename_i id off size n c0
    split at hr
    · rename_i t0 ht
      split at hr
      · rename_i e hu
        simp only [Option.some.injEq] at hr; subst hr
        simp only [concL, Option.bind_eq_some_iff, Option.map_eq_some_iff, Option.some.injEq] at hargs
        obtain ⟨y, hy, l, rfl, rfl⟩ := hargs
        obtain ⟨p, c, hp, hc, hle, rfl⟩ := conc_slc hy
        simp at hc; subst hc
        exact ⟨goInt c, by simp [AV.conc], by simp [builtin, Builtin.cap_, ht, pureRun_run hu w]⟩
      · cases hr
    · cases hr
  · rename_i id
    split at hr
    · rename_i t0 es clock ht ho
      split at hr
      · rename_i k e hu
        simp only [Option.some.injEq] at hr; subst hr
        simp only [concL, Option.bind_eq_some_iff, Option.map_eq_some_iff, Option.some.injEq] at hargs
        obtain ⟨y, hy, l, rfl, rfl⟩ := hargs
        simp only [AV.conc, Option.map_eq_some_iff] at hy
        obtain ⟨p, hp, rfl⟩ := hy
        obtain ⟨hB, ms, hms, hE⟩ := h.obj id _ p ho hp
        have hsz : ms.size = es.length := by
          have : ∀ {es : List (Value × AV × Nat)} {ms : List MapEntry}, EntsR σ es ms → ms.length = es.length := by
            intro es
            induction es with
            | nil => intro ms hE; cases ms with | nil => rfl | cons x xs => exact hE.elim
            | cons a es ih => intro ms hE; cases ms with | nil => exact hE.elim | cons x xs => simp [ih hE.2.2.2]
          simpa using this hE
        have hget : (getObj p.1).run P w = .ok (.map ms clock) w := by simp [getObj, Sem.run, hms]
        exact ⟨goInt es.length, by simp [AV.conc], by simp [builtin, Builtin.len_, ht, pureRun_run hu w, hget, hsz]⟩
      · cases hr
    · cases hr
  · simp only [Option.bind_eq_some_iff] at hr
    obtain ⟨vs', hvs, hr⟩ := hr
    have e := toVL_conc σ args hvs hargs
    subst e
    split at hr
    · rename_i v hv
      simp only [Option.some.injEq] at hr; subst hr
      exact ⟨v, by simp [AV.conc], pureRun_run hv w⟩
    · cases hr

theorem val_ok (hG : GOK B w0 G) (h : WR B w0 σ H w) (hρ : EvR σ ρ ρ') {o : Oper} (hv : isVal P o.op = true) {a : AV} {H' : AH} (hr : aExec P G ρ o H = some (.val a, H')) :
    ∃ v, a.conc σ = some v ∧ (execOp ρ' o).run P w = .ok (.value v) w := by
  have ofV : ∀ {s : Sem Value} {r : Option AV}, execOp ρ' o = (do pure (.value (← s))) → (∀ a, r = some a → OKp P σ w s a) → r.map (fun a => (AN.val a, H)) = some (.val a, H') → ∃ v, a.conc σ = some v ∧ (execOp ρ' o).run P w = .ok (.value v) w := by
    intro s r hs hok he
    cases r with
    | none => simp at he
    | some b =>
      simp only [Option.map_some, Option.some.injEq, Prod.mk.injEq, AN.val.injEq] at he
      obtain ⟨rfl, rfl⟩ := he
      obtain ⟨v, h1, h2⟩ := hok b rfl
      exact ⟨v, h1, by rw [hs]; simp [h2]⟩
  have mv : ∀ {x : Operand}, execOp ρ' o = pure (.value (ρ' x)) → (ρ x).map (fun a => (AN.val a, H)) = some (.val a, H') → ∃ v, a.conc σ = some v ∧ (execOp ρ' o).run P w = .ok (.value v) w := by
    intro x hs he
    simp only [Option.map_eq_some_iff, Prod.mk.injEq, AN.val.injEq] at he
    obtain ⟨b, hb, rfl, rfl⟩ := he
    exact ⟨_, hρ x b hb, by rw [hs]; rfl⟩
  unfold aExec at hr
  simp only at hr
  split at hr
  · rename_i x hop; exact mv (by unfold execOp; simp only [hop]) hr
  · rename_i x hop; exact mv (by unfold execOp; simp only [hop]) hr
  · rename_i c a b hop
    have hc : ∀ t : Bool, ρ c = some (.v (.bool t)) → ρ' c = .bool t := fun t ht => by have := hρ c _ ht; simpa [AV.conc] using this.symm
    split at hr
    · rename_i ht
      exact mv (x := a) (by unfold execOp; simp only [hop, hc true ht]; rfl) hr
    · rename_i ht
      exact mv (x := b) (by unfold execOp; simp only [hop, hc false ht]; rfl) hr
    · cases hr
  · rename_i hop; rw [hop] at hv; simp [isVal] at hv
  · rename_i hop; rw [hop] at hv; simp [isVal] at hv
  · rename_i t parts hop
    simp only [Option.bind_eq_some_iff] at hr
    obtain ⟨ps, hps, hr⟩ := hr
    refine ofV (s := Instr.build t (parts.map fun p => (p.1, ρ' p.2))) (by unfold execOp; simp only [hop]) (fun a ha => build_ok h ?_ ha) hr
    have := evP_ok hρ hps
    simpa using this
  · rename_i hop; rw [hop] at hv; simp [isVal] at hv
  · rename_i t x hop
    simp only [Option.bind_eq_some_iff] at hr
    obtain ⟨a0, h0, hr⟩ := hr
    exact ofV (by unfold execOp; simp only [hop]) (fun a ha => load_ok hG h (hρ x a0 h0) ha) hr
  · rename_i hop; rw [hop] at hv; simp [isVal] at hv
  · rename_i x hop
    simp only [Option.bind_eq_some_iff] at hr
    obtain ⟨b, hb, hr⟩ := hr
    cases hn : aNil b with
    | false => simp [hn] at hr
    | true =>
      simp only [hn, cond_true, Option.some.injEq, Prod.mk.injEq, AN.val.injEq] at hr
      obtain ⟨rfl, rfl⟩ := hr
      exact ⟨_, hρ x b hb, nil_ok hop (hρ x b hb) rfl hn⟩
  · rename_i op t x y yt hop
    simp only [Option.bind_eq_some_iff] at hr
    obtain ⟨a0, h0, a1, h1, hr⟩ := hr
    exact ofV (by unfold execOp; simp only [hop]) (fun a ha => bin_ok h (hρ x a0 h0) (hρ y a1 h1) ha) hr
  · rename_i op t x hop
    simp only [Option.bind_eq_some_iff] at hr
    obtain ⟨a0, h0, hr⟩ := hr
    exact ofV (by unfold execOp; simp only [hop]) (fun a ha => pure1_ok h (hρ x a0 h0) ha) hr
  · rename_i s d x hop
    simp only [Option.bind_eq_some_iff] at hr
    obtain ⟨a0, h0, hr⟩ := hr
    have hnb : aToBytes P s d a0 H = none := by
      rw [hop] at hv
      simp only [isVal] at hv
      unfold aToBytes
      split
      · split
        · rename_i e h1 h2; rw [h2] at hv; cases hv
        · rfl
      · rfl
    rw [hnb] at hr
    exact ofV (by unfold execOp; simp only [hop]) (fun a ha => convert_ok h (hρ x a0 h0) ha) hr
  · rename_i t x hop
    simp only [Option.bind_eq_some_iff] at hr
    obtain ⟨a0, h0, hr⟩ := hr
    exact ofV (by unfold execOp; simp only [hop]) (fun a ha => iface_ok h (hρ x a0 h0) ha) hr
  · rename_i f first captured hop
    simp only [Option.bind_eq_some_iff] at hr
    obtain ⟨a, ha, b, hb, hr⟩ := hr
    have hA := evL_ok hρ ha
    have hB := evL_ok hρ hb
    refine ofV (s := Instr.makeFunc f (first.map ρ') (captured.map ρ')) (by unfold execOp; simp only [hop]) (fun r hr' => ?_) hr
    simp only [Option.some.injEq] at hr'; subst hr'
    refine OK1.pure h (v := .func f (first.map ρ') (captured.map ρ')) ?_ rfl
    simp only [AV.conc, hA, hB, Option.bind_some, Option.map_some]
    congr 2 <;> (apply Array.ext'; simp)
  · rename_i hop; rw [hop] at hv; simp [isVal] at hv
  · rename_i hop; rw [hop] at hv; simp [isVal] at hv
  · rename_i t x lo hi mx hop
    simp only [Option.bind_eq_some_iff] at hr
    obtain ⟨a0, h0, l, hl, hh, hhh, m, hm, hr⟩ := hr
    exact ofV (by unfold execOp; simp only [hop]) (fun a ha => slice_ok h (hρ x a0 h0) (evO_ok hρ hl) (evO_ok hρ hhh) (evO_ok hρ hm) ha) hr
  · rename_i s x f hop
    simp only [Option.bind_eq_some_iff] at hr
    obtain ⟨a0, h0, hr⟩ := hr
    exact ofV (by unfold execOp; simp only [hop]) (fun a ha => fieldAddr_ok h (hρ x a0 h0) ha) hr
  · rename_i t x f hop
    simp only [Option.bind_eq_some_iff] at hr
    obtain ⟨a0, h0, hr⟩ := hr
    exact ofV (by unfold execOp; simp only [hop]) (fun a ha => field_ok h (hρ x a0 h0) ha) hr
  · rename_i t x y hop
    simp only [Option.bind_eq_some_iff] at hr
    obtain ⟨a0, h0, a1, h1, hr⟩ := hr
    exact ofV (by unfold execOp; simp only [hop]) (fun a ha => indexAddr_ok h (hρ x a0 h0) (hρ y a1 h1) ha) hr
  · rename_i t x y hop
    simp only [Option.bind_eq_some_iff] at hr
    obtain ⟨a0, h0, a1, h1, hr⟩ := hr
    exact ofV (by unfold execOp; simp only [hop]) (fun a ha => index_ok h (hρ x a0 h0) (hρ y a1 h1) ha) hr
  · rename_i t x y ok hop
    simp only [Option.bind_eq_some_iff] at hr
    obtain ⟨a0, h0, a1, h1, hr⟩ := hr
    exact ofV (by unfold execOp; simp only [hop]) (fun a ha => lookup_ok h (hρ x a0 h0) (hρ y a1 h1) ha) hr
  · rename_i hop; rw [hop] at hv; simp [isVal] at hv
  · rename_i hop; rw [hop] at hv; simp [isVal] at hv
  · rename_i hop; rw [hop] at hv; simp [isVal] at hv
  · rename_i hop; rw [hop] at hv; simp [isVal] at hv
  · rename_i x i hop
    simp only [Option.bind_eq_some_iff] at hr
    obtain ⟨a0, h0, hr⟩ := hr
    exact ofV (by unfold execOp; simp only [hop]) (fun a ha => extract_ok h (hρ x a0 h0) ha) hr
  · rename_i c hop
    have hb : ∃ b, c.callee = .builtin b ∧ (b = .len ∨ b = .cap ∨ b = .min ∨ b = .max) := by
      rw [hop] at hv
      obtain ⟨cal, as, ts⟩ := c
      cases cal with
      | builtin b => cases b <;> simp [isVal] at hv <;> simp
      | value f => simp [isVal] at hv
      | invoke r m => simp [isVal] at hv
    obtain ⟨b, hb, hb4⟩ := hb
    simp only [aCallOp, hb, Option.bind_eq_some_iff, Option.map_eq_some_iff, Prod.mk.injEq, AN.val.injEq] at hr
    obtain ⟨args, hargs, r, hr, rfl, rfl⟩ := hr
    obtain ⟨v, h1, h2⟩ := builtin_val (P := P) h hb4 (evL_ok hρ hargs) hr
    refine ⟨v, h1, ?_⟩
    have hmap : c.args.map ρ' = (c.args.toList.map ρ').toArray := by apply Array.ext'; simp
    unfold execOp
    simp only [hop, resolve, hb, Sem.run_bind, Sem.run_pure, Result.andThen_ok, invoke, hmap]
    exact h2
  · cases hr
end
end Go.Proofs.YtfphabkdgdgnbaaGreatDoor.AE
