import Derived.Test.YtfphabkdgdgnbaaGreatDoorAE8
set_option linter.unusedVariables false
set_option linter.unusedSimpArgs false
namespace Go.Proofs.YtfphabkdgdgnbaaGreatDoor.AE
open Go Go.RowKit

inductive AN where
  | val (a : AV)
  | skip
  | enter (f : FuncId) (args : List AV)

def evL (ρ : Operand → Option AV) : List Operand → Option (List AV)
  | [] => some []
  | x :: l => (ρ x).bind fun a => (evL ρ l).map fun r => a :: r
def evP (ρ : Operand → Option AV) : List (Nat × Operand) → Option (List (Nat × AV))
  | [] => some []
  | (i, x) :: l => (ρ x).bind fun a => (evP ρ l).map fun r => (i, a) :: r
def evO (ρ : Operand → Option AV) : Option Operand → Option (Option AV)
  | none => some none
  | some x => (ρ x).map some

def aBuiltin (P : Program) (b : Builtin) (types : Array TypeId) (t : TypeId) (consts : Array Bool) (args : List AV) (H : AH) : Option (AV × AH) :=
  let dflt : Option (AV × AH) := (AV.toV?.toVL? args).bind fun vs => match pureRun P (builtin b types t consts vs.toArray) with
    | some (.value v) => some (.v v, H)
    | _ => none
  match b, args with
  | .append, [a, x] => aAppend P types a x H
  | .len, [.slc _ _ _ n _] => match types[0]? with
    | some t0 => match pureRun P (underlying t0) with
      | some (.slice _) => some (.v (goInt n), H)
      | _ => none
    | none => none
  | .cap, [.slc _ _ _ _ (some c)] => match types[0]? with
    | some t0 => match pureRun P (underlying t0) with
      | some (.slice _) => some (.v (goInt c), H)
      | _ => none
    | none => none
  | .len, [.mp id] => match types[0]?, H[id]? with
    | some t0, some (.map es _) => match pureRun P (underlying t0) with
      | some (.map _ _) => some (.v (goInt es.length), H)
      | _ => none
    | _, _ => none
  | _, _ => dflt

def aCallOp (P : Program) (ρ : Operand → Option AV) (c : Call) (t : TypeId) (H : AH) : Option (AN × AH) :=
  (evL ρ c.args.toList).bind fun args => match c.callee with
    | .builtin b => (aBuiltin P b c.argTypes t (c.args.map fun | .const _ => true | _ => false) args H).map fun r => (.val r.1, r.2)
    | .value f => (ρ f).bind fun fv =>
      let go (g : FuncId) (all : List AV) : Option (AN × AH) := match P.funcs[g]? with
        | some fn => match fn.body with
          | some _ => some (.enter g all, H)
          | none => (AV.toV?.toVL? all).bind fun vs => match pureRun P (callFunc g vs.toArray) with
            | some (.value v) => some (.val (.v v), H)
            | _ => none
        | none => none
      match fv with
      | .v (.func (.func g) first captured) => go g (first.toList.map .v ++ args ++ captured.toList.map .v)
      | .fn (.func g) first captured => go g (first ++ args ++ captured)
      | _ => none
    | _ => none

def aExec (P : Program) (G : Gl) (ρ : Operand → Option AV) (o : Oper) (H : AH) : Option (AN × AH) :=
  let val (r : Option AV) : Option (AN × AH) := r.map fun a => (.val a, H)
  let valH (r : Option (AV × AH)) : Option (AN × AH) := r.map fun a => (.val a.1, a.2)
  let uni (r : Option AH) : Option (AN × AH) := r.map fun h => (.skip, h)
  match o.op with
  | .move x | .assign x => val (ρ x)
  | .pick c a b => match ρ c with
    | some (.v (.bool true)) => val (ρ a)
    | some (.v (.bool false)) => val (ρ b)
    | _ => none
  | .alloc e => valH (aAlloc P e H)
  | .box e x => (ρ x).bind fun a => valH (some (aBox e a H))
  | .build t parts => (evP ρ parts.toList).bind fun ps => val (aBuild P t ps)
  | .buildSlice t len parts => (evP ρ parts.toList).bind fun ps => valH (aBuildSlice P t len ps H)
  | .load t x => (ρ x).bind fun a => val (aLoad P G t a H)
  | .store t x y => (ρ x).bind fun a => (ρ y).bind fun b => uni (aStore P t a b H)
  | .nilCheck x => (ρ x).bind fun a => bif aNil a then some (.val a, H) else none
  | .binOp op t x y _ => (ρ x).bind fun a => (ρ y).bind fun b => val (aBin P op t x y a b)
  | .unOp op _ x => (ρ x).bind fun a => val (aPure1 P (Op.unary op) a)
  | .convert s d x => (ρ x).bind fun a => match aToBytes P s d a H with
    | some r => valH (some r)
    | none => val (aConvert P s d a H)
  | .makeInterface t x => (ρ x).bind fun a => val (aIface P t a)
  | .makeFunc f first captured => (evL ρ first.toList).bind fun a => (evL ρ captured.toList).bind fun b => val (some (.fn f a b))
  | .makeMap _ none => valH (some (aMakeMap H))
  | .makeSlice t x y => (ρ x).bind fun a => (ρ y).bind fun b => valH (aMakeSlice P t a b H)
  | .slice t x lo hi mx => (ρ x).bind fun a => (evO ρ lo).bind fun l => (evO ρ hi).bind fun h => (evO ρ mx).bind fun m => val (aSlice P t a l h m H)
  | .fieldAddr s x f => (ρ x).bind fun a => val (aFieldAddr P s a f)
  | .field t x f => (ρ x).bind fun a => val (aField P t a f)
  | .indexAddr t x ix => (ρ x).bind fun a => (ρ ix).bind fun b => val (aIndexAddr P t a b)
  | .index t x ix => (ρ x).bind fun a => (ρ ix).bind fun b => val (aIndex P t a b)
  | .lookup t x ix ok => (ρ x).bind fun a => (ρ ix).bind fun b => val (aLookup P t a b ok H)
  | .mapUpdate t m k x | .insert t m k x => (ρ m).bind fun a => (ρ k).bind fun b => (ρ x).bind fun c => uni (aMapUpdate P t a b c H)
  | .range t x => (ρ x).bind fun a => valH (aRange P t a H)
  | .next it is => (ρ it).bind fun a => valH (aNext a is H)
  | .extract x i => (ρ x).bind fun a => val (aExtract a i)
  | .call c => aCallOp P ρ c o.type H
  | _ => none

def EvR (σ : Sg) (ρ : Operand → Option AV) (ρ' : Operand → Value) : Prop := ∀ (x : Operand) (a : AV), ρ x = some a → a.conc σ = some (ρ' x)
/-- What an operation comes to. -/
def NextR (P : Program) (σ : Sg) (s : Sem Next) (w : World) (n : AN) (w' : World) : Prop :=
  match n with
  | .val a => ∃ v, a.conc σ = some v ∧ s.run P w = .ok (.value v) w'
  | .skip => s.run P w = .ok .skip w'
  | .enter f args => ∃ vs, concL σ args = some vs ∧ s.run P w = .ok (.enter f vs.toArray) w'

section
variable {P : Program} {B : Nat} {w0 : World} {σ : Sg} {H : AH} {w : World} {G : Gl} {ρ : Operand → Option AV} {ρ' : Operand → Value}

theorem evL_ok (hρ : EvR σ ρ ρ') : ∀ {l : List Operand} {as : List AV}, evL ρ l = some as → concL σ as = some (l.map ρ')
  | [], as, h => by simp only [evL, Option.some.injEq] at h; subst h; rfl
  | x :: l, as, h => by
    simp only [evL, Option.bind_eq_some_iff, Option.map_eq_some_iff] at h
    obtain ⟨a, ha, r, hr, rfl⟩ := h
    simp [concL, hρ x a ha, evL_ok hρ hr]
theorem evP_ok (hρ : EvR σ ρ ρ') : ∀ {l : List (Nat × Operand)} {as : List (Nat × AV)}, evP ρ l = some as → PartsR σ as (l.map fun (i, x) => (i, ρ' x))
  | [], as, h => by simp only [evP, Option.some.injEq] at h; subst h; exact ⟨rfl, fun i p hp => by simp at hp⟩
  | (i, x) :: l, as, h => by
    simp only [evP, Option.bind_eq_some_iff, Option.map_eq_some_iff] at h
    obtain ⟨a, ha, r, hr, rfl⟩ := h
    obtain ⟨h1, h2⟩ := evP_ok hρ hr
    refine ⟨by simpa using h1, fun j p hp => ?_⟩
    cases j with
    | zero => simp at hp; subst hp; exact ⟨_, hρ x a ha, by simp⟩
    | succ j => simp at hp; obtain ⟨v, hv, e⟩ := h2 j p hp; exact ⟨v, hv, by simpa using e⟩
theorem evO_ok (hρ : EvR σ ρ ρ') {o : Option Operand} {a : Option AV} (h : evO ρ o = some a) : OptR σ a (o.map ρ') := by
  cases o with
  | none => simp only [evO, Option.some.injEq] at h; subst h; trivial
  | some x => simp only [evO, Option.map_eq_some_iff] at h; obtain ⟨b, hb, rfl⟩ := h; exact hρ x b hb

theorem builtin_ok (h : WR B w0 σ H w) {b : Builtin} {types : Array TypeId} {t : TypeId} {consts : Array Bool} {args : List AV} {vs : List Value} (hargs : concL σ args = some vs) {r : AV × AH} (hr : aBuiltin P b types t consts args H = some r) :
    ∃ σ' w' v, σ <+: σ' ∧ WR B w0 σ' r.2 w' ∧ r.1.conc σ' = some v ∧ (builtin b types t consts vs.toArray).run P w = .ok (.value v) w' := by
  unfold aBuiltin at hr
  simp only at hr
  split at hr
  · rename_i a x
    simp only [concL, Option.bind_eq_some_iff, Option.map_eq_some_iff, Option.some.injEq] at hargs
    obtain ⟨y, hy, l, ⟨z, hz, m, hm, rfl⟩, rfl⟩ := hargs
    subst hm
    obtain ⟨σ', w', v, a1, a2, a3, a4⟩ := append_ok h t hy hz hr
    exact ⟨σ', w', v, a1, a2, a3, by simp [builtin, a4]⟩
  · rename_i id off size n cap
    split at hr
    · rename_i t0 ht
      split at hr
      · rename_i e hu
        simp only [Option.some.injEq] at hr; subst hr
        simp only [concL, Option.bind_eq_some_iff, Option.map_eq_some_iff, Option.some.injEq] at hargs
        obtain ⟨y, hy, l, rfl, rfl⟩ := hargs
        obtain ⟨p, c, hp, hc, hle, rfl⟩ := conc_slc hy
        exact ⟨σ, w, goInt n, List.prefix_rfl, h, by simp [AV.conc], by simp [builtin, Builtin.len_, ht, pureRun_run hu w]⟩
      · cases hr
    · cases hr
  · rename_i id off size n c0
    split at hr
    · rename_i t0 ht
      split at hr
      · rename_i e hu
        simp only [Option.some.injEq] at hr; subst hr
        simp only [concL, Option.bind_eq_some_iff, Option.map_eq_some_iff, Option.some.injEq] at hargs
        obtain ⟨y, hy, l, rfl, rfl⟩ := hargs
        obtain ⟨p, c, hp, hc, hle, rfl⟩ := conc_slc hy
        simp at hc; subst hc
        exact ⟨σ, w, goInt c, List.prefix_rfl, h, by simp [AV.conc], by simp [builtin, Builtin.cap_, ht, pureRun_run hu w]⟩
      · cases hr
    · cases hr
  · rename_i id
    split at hr
    · rename_i t0 es clock ht ho
      split at hr
      · rename_i k e hu
        simp only [Option.some.injEq] at hr; subst hr
        simp only [concL, Option.bind_eq_some_iff, Option.map_eq_some_iff, Option.some.injEq] at hargs
        obtain ⟨y, hy, l, rfl, rfl⟩ := hargs
        simp only [AV.conc, Option.map_eq_some_iff] at hy
        obtain ⟨p, hp, rfl⟩ := hy
        obtain ⟨hB, ms, hms, hE⟩ := h.obj id _ p ho hp
        have hsz : ms.size = es.length := by
          have : ∀ {es : List (Value × AV × Nat)} {ms : List MapEntry}, EntsR σ es ms → ms.length = es.length := by
            intro es
            induction es with
            | nil => intro ms hE; cases ms with | nil => rfl | cons x xs => exact hE.elim
            | cons a es ih => intro ms hE; cases ms with | nil => exact hE.elim | cons x xs => simp [ih hE.2.2.2]
          simpa using this hE
        have hget : (getObj p.1).run P w = .ok (.map ms clock) w := by simp [getObj, Sem.run, hms]
        exact ⟨σ, w, goInt es.length, List.prefix_rfl, h, by simp [AV.conc], by simp [builtin, Builtin.len_, ht, pureRun_run hu w, hget, hsz]⟩
      · cases hr
    · cases hr
  · simp only [Option.bind_eq_some_iff] at hr
    obtain ⟨vs', hvs, hr⟩ := hr
    have e := toVL_conc σ args hvs hargs
    subst e
    split at hr
    · rename_i v hv
      simp only [Option.some.injEq] at hr; subst hr
      exact ⟨σ, w, v, List.prefix_rfl, h, by simp [AV.conc], pureRun_run hv w⟩
    · cases hr

/-- The functions of the program have bodies or not; none is the one that counts goroutines. -/
def NG (P : Program) : Prop := ∀ (g : Nat) (fn : Func), P.funcs[g]? = some fn → (fn.name == "runtime.NumGoroutine") = false

theorem callOp_ok (hNG : NG P) (h : WR B w0 σ H w) (hρ : EvR σ ρ ρ') {o : Oper} {c : Call} (hop : o.op = .call c) {n : AN} {H' : AH} (hr : aCallOp P ρ c o.type H = some (n, H')) :
    ∃ σ' w', σ <+: σ' ∧ WR B w0 σ' H' w' ∧ NextR P σ' (execOp ρ' o) w n w' := by
  have hex : execOp ρ' o = (do let d ← resolve ρ' c o.type; invoke d.target d.args) := by unfold execOp; simp only [hop]
  rw [hex]
  simp only [aCallOp, Option.bind_eq_some_iff] at hr
  obtain ⟨args, hargs, hr⟩ := hr
  have hA := evL_ok hρ hargs
  have hmap : c.args.map ρ' = (c.args.toList.map ρ').toArray := by apply Array.ext'; simp
  split at hr
  · rename_i b hb
    simp only [Option.map_eq_some_iff] at hr
    obtain ⟨r, hr, he⟩ := hr
    simp only [Prod.mk.injEq] at he
    obtain ⟨rfl, rfl⟩ := he
    obtain ⟨σ', w', v, a1, a2, a3, a4⟩ := builtin_ok h hA hr
    refine ⟨σ', w', a1, a2, v, a3, ?_⟩
    simp only [resolve, hb, Sem.run_bind, Sem.run_pure, Result.andThen_ok, invoke, hmap]
    exact a4
  · rename_i f hf
    simp only [Option.bind_eq_some_iff] at hr
    obtain ⟨fv, hfv, hr⟩ := hr
    have hfc := hρ f fv hfv
    have key : ∀ (g : FuncId) (first captured : List Value) (all : List AV), ρ' f = .func (.func g) first.toArray captured.toArray → concL σ all = some (first ++ c.args.toList.map ρ' ++ captured) →
        (match P.funcs[g]? with
          | some fn => match fn.body with
            | some _ => some (AN.enter g all, H)
            | none => (AV.toV?.toVL? all).bind fun vs => match pureRun P (callFunc g vs.toArray) with
              | some (.value v) => some (.val (.v v), H)
              | _ => none
          | none => none) = some (n, H') →
        ∃ σ' w', σ <+: σ' ∧ WR B w0 σ' H' w' ∧ NextR P σ' (do let d ← resolve ρ' c o.type; invoke d.target d.args) w n w' := by
      intro g first captured all hfe hall hg
      have hres : (do let d ← resolve ρ' c o.type; invoke d.target d.args : Sem Next) = callFunc g (first ++ c.args.toList.map ρ' ++ captured).toArray := by
        simp only [resolve, hf, hfe, Deferred.ofValue, invoke, pure_bind, hmap]
        congr 1
        simp
      rw [hres]
      split at hg
      · rename_i fn hfn
        split at hg
        · rename_i body hbody
          simp only [Option.some.injEq, Prod.mk.injEq] at hg
          obtain ⟨rfl, rfl⟩ := hg
          refine ⟨σ, w, List.prefix_rfl, h, _, hall, ?_⟩
          have := hNG g fn hfn
          simp only [callFunc, Sem.run_bind, run_program, Result.andThen_ok, hfn, this, Bool.false_eq_true, if_false, hbody, Option.isNone_some]
          rfl
        · simp only [Option.bind_eq_some_iff] at hg
          obtain ⟨vs, hvs, hg⟩ := hg
          have e := toVL_conc σ all hvs hall
          split at hg
          · rename_i v hv
            simp only [Option.some.injEq, Prod.mk.injEq] at hg
            obtain ⟨rfl, rfl⟩ := hg
            refine ⟨σ, w, List.prefix_rfl, h, v, by simp [AV.conc], ?_⟩
            rw [e]; exact pureRun_run hv w
          · cases hg
      · cases hg
    split at hr
    · rename_i g first captured
      simp only [AV.conc, Option.some.injEq] at hfc
      exact key g first.toList captured.toList _ (by rw [← hfc]) (concL_append (concL_append (concL_v σ _) hA) (concL_v σ _)) hr
    · rename_i g first captured
      simp only [AV.conc, Option.bind_eq_some_iff, Option.map_eq_some_iff] at hfc
      obtain ⟨x, hx, y, hy, he⟩ := hfc
      exact key g x y _ he.symm (concL_append (concL_append hx hA) hy) hr
    · cases hr
  · cases hr

theorem NextR.of1 {s : Sem Value} {r : AV × AH} {s' : Sem Next} (hs : s' = (do pure (.value (← s)))) (h : OK1 P B w0 σ w s r) : ∃ σ' w', σ <+: σ' ∧ WR B w0 σ' r.2 w' ∧ NextR P σ' s' w (.val r.1) w' := by
  obtain ⟨σ', w', v, h1, h2, h3, h4⟩ := h
  exact ⟨σ', w', h1, h2, v, h3, by rw [hs]; simp [h4]⟩
theorem NextR.ofU {s : Sem Unit} {H' : AH} {s' : Sem Next} (hs : s' = (do s; pure .skip)) (h : OKU P B w0 σ w s H') : ∃ σ' w', σ <+: σ' ∧ WR B w0 σ' H' w' ∧ NextR P σ' s' w .skip w' := by
  obtain ⟨w', h1, h2⟩ := h
  exact ⟨σ, w', List.prefix_rfl, h1, by rw [hs]; simp [NextR, h2]⟩

theorem exec_ok (hNG : NG P) (hG : GOK B w0 G) (h : WR B w0 σ H w) (hρ : EvR σ ρ ρ') {o : Oper} {n : AN} {H' : AH} (hr : aExec P G ρ o H = some (n, H')) :
    ∃ σ' w', σ <+: σ' ∧ WR B w0 σ' H' w' ∧ NextR P σ' (execOp ρ' o) w n w' := by
  have of1 : ∀ {s : Sem Value} {r : AV × AH}, execOp ρ' o = (do pure (.value (← s))) → OK1 P B w0 σ w s r → (some r).map (fun a => (AN.val a.1, a.2)) = some (n, H') → ∃ σ' w', σ <+: σ' ∧ WR B w0 σ' H' w' ∧ NextR P σ' (execOp ρ' o) w n w' := by
    intro s r hs hok he
    simp only [Option.map_some, Option.some.injEq, Prod.mk.injEq] at he
    obtain ⟨rfl, rfl⟩ := he
    exact NextR.of1 hs hok
  have ofV : ∀ {s : Sem Value} {r : Option AV}, execOp ρ' o = (do pure (.value (← s))) → (∀ a, r = some a → OKp P σ w s a) → r.map (fun a => (AN.val a, H)) = some (n, H') → ∃ σ' w', σ <+: σ' ∧ WR B w0 σ' H' w' ∧ NextR P σ' (execOp ρ' o) w n w' := by
    intro s r hs hok he
    cases r with
    | none => simp at he
    | some a =>
      simp only [Option.map_some, Option.some.injEq, Prod.mk.injEq] at he
      obtain ⟨rfl, rfl⟩ := he
      exact NextR.of1 hs (OK1.of h (hok a rfl))
  have ofH : ∀ {s : Sem Value} {r : Option (AV × AH)}, execOp ρ' o = (do pure (.value (← s))) → (∀ a, r = some a → OK1 P B w0 σ w s a) → r.map (fun a => (AN.val a.1, a.2)) = some (n, H') → ∃ σ' w', σ <+: σ' ∧ WR B w0 σ' H' w' ∧ NextR P σ' (execOp ρ' o) w n w' := by
    intro s r hs hok he
    cases r with
    | none => simp at he
    | some a => exact of1 hs (hok a rfl) he
  have ofU : ∀ {s : Sem Unit} {r : Option AH}, execOp ρ' o = (do s; pure .skip) → (∀ a, r = some a → OKU P B w0 σ w s a) → r.map (fun h => (AN.skip, h)) = some (n, H') → ∃ σ' w', σ <+: σ' ∧ WR B w0 σ' H' w' ∧ NextR P σ' (execOp ρ' o) w n w' := by
    intro s r hs hok he
    cases r with
    | none => simp at he
    | some a =>
      simp only [Option.map_some, Option.some.injEq, Prod.mk.injEq] at he
      obtain ⟨rfl, rfl⟩ := he
      exact NextR.ofU hs (hok a rfl)
  have mv : ∀ {x : Operand}, execOp ρ' o = pure (.value (ρ' x)) → (ρ x).map (fun a => (AN.val a, H)) = some (n, H') → ∃ σ' w', σ <+: σ' ∧ WR B w0 σ' H' w' ∧ NextR P σ' (execOp ρ' o) w n w' := by
    intro x hs he
    simp only [Option.map_eq_some_iff, Prod.mk.injEq] at he
    obtain ⟨a, ha, rfl, rfl⟩ := he
    exact ⟨σ, w, List.prefix_rfl, h, _, hρ x a ha, by rw [hs]; rfl⟩
  unfold aExec at hr
  simp only at hr
  split at hr
  · rename_i x hop; exact mv (by unfold execOp; simp only [hop]) hr
  · rename_i x hop; exact mv (by unfold execOp; simp only [hop]) hr
  · rename_i c a b hop
    have hc : ∀ t : Bool, ρ c = some (.v (.bool t)) → ρ' c = .bool t := fun t ht => by have := hρ c _ ht; simpa [AV.conc] using this.symm
    split at hr
    · rename_i ht
      exact mv (x := a) (by unfold execOp; simp only [hop, hc true ht]; rfl) hr
    · rename_i ht
      exact mv (x := b) (by unfold execOp; simp only [hop, hc false ht]; rfl) hr
    · cases hr
  · rename_i e hop; exact ofH (by unfold execOp; simp only [hop]) (fun a ha => alloc_ok h ha) hr
  · rename_i e x hop
    simp only [Option.bind_eq_some_iff] at hr
    obtain ⟨a, ha, hr⟩ := hr
    exact of1 (by unfold execOp; simp only [hop]) (box_ok h (hρ x a ha)) hr
  · rename_i t parts hop
    simp only [Option.bind_eq_some_iff] at hr
    obtain ⟨ps, hps, hr⟩ := hr
    refine ofV (s := Instr.build t (parts.map fun p => (p.1, ρ' p.2))) (by unfold execOp; simp only [hop]) (fun a ha => build_ok h ?_ ha) hr
    have := evP_ok hρ hps
    simpa using this
  · rename_i t len parts hop
    simp only [Option.bind_eq_some_iff] at hr
    obtain ⟨ps, hps, hr⟩ := hr
    refine ofH (s := Instr.buildSlice t len (parts.map fun p => (p.1, ρ' p.2))) (by unfold execOp; simp only [hop]) (fun a ha => buildSlice_ok h ?_ ha) hr
    have := evP_ok hρ hps
    simpa using this
  · rename_i t x hop
    simp only [Option.bind_eq_some_iff] at hr
    obtain ⟨a0, h0, hr⟩ := hr
    exact ofV (by unfold execOp; simp only [hop]) (fun a ha => load_ok hG h (hρ x a0 h0) ha) hr
  · rename_i t x y hop
    simp only [Option.bind_eq_some_iff] at hr
    obtain ⟨a0, h0, a1, h1, hr⟩ := hr
    exact ofU (by unfold execOp; simp only [hop]) (fun a ha => store_ok h (hρ x a0 h0) (hρ y a1 h1) ha) hr
  · rename_i x hop
    simp only [Option.bind_eq_some_iff] at hr
    obtain ⟨a, ha, hr⟩ := hr
    cases hn : aNil a with
    | false => simp [hn] at hr
    | true =>
      simp only [hn, cond_true, Option.some.injEq, Prod.mk.injEq] at hr
      obtain ⟨rfl, rfl⟩ := hr
      exact ⟨σ, w, List.prefix_rfl, h, _, hρ x a ha, nil_ok hop (hρ x a ha) rfl hn⟩
  · rename_i op t x y yt hop
    simp only [Option.bind_eq_some_iff] at hr
    obtain ⟨a0, h0, a1, h1, hr⟩ := hr
    exact ofV (by unfold execOp; simp only [hop]) (fun a ha => bin_ok h (hρ x a0 h0) (hρ y a1 h1) ha) hr
  · rename_i op t x hop
    simp only [Option.bind_eq_some_iff] at hr
    obtain ⟨a0, h0, hr⟩ := hr
    exact ofV (by unfold execOp; simp only [hop]) (fun a ha => pure1_ok h (hρ x a0 h0) ha) hr
  · rename_i s d x hop
    simp only [Option.bind_eq_some_iff] at hr
    obtain ⟨a0, h0, hr⟩ := hr
    split at hr
    · rename_i r hb
      exact of1 (by unfold execOp; simp only [hop]) (toBytes_ok h (hρ x a0 h0) hb) hr
    · exact ofV (by unfold execOp; simp only [hop]) (fun a ha => convert_ok h (hρ x a0 h0) ha) hr
  · rename_i t x hop
    simp only [Option.bind_eq_some_iff] at hr
    obtain ⟨a0, h0, hr⟩ := hr
    exact ofV (by unfold execOp; simp only [hop]) (fun a ha => iface_ok h (hρ x a0 h0) ha) hr
  · rename_i f first captured hop
    simp only [Option.bind_eq_some_iff] at hr
    obtain ⟨a, ha, b, hb, hr⟩ := hr
    have hA := evL_ok hρ ha
    have hB := evL_ok hρ hb
    refine ofV (s := Instr.makeFunc f (first.map ρ') (captured.map ρ')) (by unfold execOp; simp only [hop]) (fun r hr' => ?_) hr
    simp only [Option.some.injEq] at hr'; subst hr'
    refine OK1.pure h (v := .func f (first.map ρ') (captured.map ρ')) ?_ rfl
    simp only [AV.conc, hA, hB, Option.bind_some, Option.map_some]
    congr 2 <;> (apply Array.ext'; simp)
  · rename_i t hop
    exact of1 (by unfold execOp; simp only [hop]; rfl) (makeMap_ok h t) hr
  · rename_i t x y hop
    simp only [Option.bind_eq_some_iff] at hr
    obtain ⟨a0, h0, a1, h1, hr⟩ := hr
    exact ofH (by unfold execOp; simp only [hop]) (fun a ha => makeSlice_ok h (hρ x a0 h0) (hρ y a1 h1) ha) hr
  · rename_i t x lo hi mx hop
    simp only [Option.bind_eq_some_iff] at hr
    obtain ⟨a0, h0, l, hl, hh, hhh, m, hm, hr⟩ := hr
    exact ofV (by unfold execOp; simp only [hop]) (fun a ha => slice_ok h (hρ x a0 h0) (evO_ok hρ hl) (evO_ok hρ hhh) (evO_ok hρ hm) ha) hr
  · rename_i s x f hop
    simp only [Option.bind_eq_some_iff] at hr
    obtain ⟨a0, h0, hr⟩ := hr
    exact ofV (by unfold execOp; simp only [hop]) (fun a ha => fieldAddr_ok h (hρ x a0 h0) ha) hr
  · rename_i t x f hop
    simp only [Option.bind_eq_some_iff] at hr
    obtain ⟨a0, h0, hr⟩ := hr
    exact ofV (by unfold execOp; simp only [hop]) (fun a ha => field_ok h (hρ x a0 h0) ha) hr
  · rename_i t x y hop
    simp only [Option.bind_eq_some_iff] at hr
    obtain ⟨a0, h0, a1, h1, hr⟩ := hr
    exact ofV (by unfold execOp; simp only [hop]) (fun a ha => indexAddr_ok h (hρ x a0 h0) (hρ y a1 h1) ha) hr
  · rename_i t x y hop
    simp only [Option.bind_eq_some_iff] at hr
    obtain ⟨a0, h0, a1, h1, hr⟩ := hr
    exact ofV (by unfold execOp; simp only [hop]) (fun a ha => index_ok h (hρ x a0 h0) (hρ y a1 h1) ha) hr
  · rename_i t x y ok hop
    simp only [Option.bind_eq_some_iff] at hr
    obtain ⟨a0, h0, a1, h1, hr⟩ := hr
    exact ofV (by unfold execOp; simp only [hop]) (fun a ha => lookup_ok h (hρ x a0 h0) (hρ y a1 h1) ha) hr
  · rename_i t m k x hop
    simp only [Option.bind_eq_some_iff] at hr
    obtain ⟨a0, h0, a1, h1, a2, h2, hr⟩ := hr
    exact ofU (by unfold execOp; simp only [hop]) (fun a ha => mapUpdate_ok h (hρ m a0 h0) (hρ k a1 h1) (hρ x a2 h2) ha) hr
  · rename_i t m k x hop
    simp only [Option.bind_eq_some_iff] at hr
    obtain ⟨a0, h0, a1, h1, a2, h2, hr⟩ := hr
    exact ofU (by unfold execOp; simp only [hop]) (fun a ha => mapUpdate_ok h (hρ m a0 h0) (hρ k a1 h1) (hρ x a2 h2) ha) hr
  · rename_i t x hop
    simp only [Option.bind_eq_some_iff] at hr
    obtain ⟨a0, h0, hr⟩ := hr
    exact ofH (by unfold execOp; simp only [hop]) (fun a ha => range_ok h (hρ x a0 h0) ha) hr
  · rename_i x is hop
    simp only [Option.bind_eq_some_iff] at hr
    obtain ⟨a0, h0, hr⟩ := hr
    exact ofH (s := Instr.next (ρ' x) is o.type) (by unfold execOp; simp only [hop]) (fun a ha => next_ok h _ (hρ x a0 h0) ha) hr
  · rename_i x i hop
    simp only [Option.bind_eq_some_iff] at hr
    obtain ⟨a0, h0, hr⟩ := hr
    exact ofV (by unfold execOp; simp only [hop]) (fun a ha => extract_ok h (hρ x a0 h0) ha) hr
  · rename_i c hop
    exact callOp_ok hNG h hρ hop hr
  · cases hr
end
end Go.Proofs.YtfphabkdgdgnbaaGreatDoor.AE
