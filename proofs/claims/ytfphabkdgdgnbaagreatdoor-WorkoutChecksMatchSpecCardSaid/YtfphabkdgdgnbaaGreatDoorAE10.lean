import Derived.Test.YtfphabkdgdgnbaaGreatDoorAE13
set_option linter.unusedVariables false
set_option linter.unusedSimpArgs false
namespace Go.Proofs.YtfphabkdgdgnbaaGreatDoor.AE
open Go Go.RowKit

def ev (T : PT) : Operand → Option AV
  | .tmp t => T.get t
  | .const v => some (.v v)
  | .global g => some (.v (.pointer (some ⟨g, 0, none⟩)))
  | .func f => some (.v (.func (.func f) #[] #[]))
def aPut (n : Nat) (dst : Option Tmp) (a : AV) (T : PT) : Option PT :=
  match dst with
  | none => some T
  | some d => bif Nat.blt d n && Nat.blt d 4000 then some (T.set 12 d a) else none
def aWant (T : PT) (ops : Array Oper) (o : Oper) : Option Bool :=
  match o.guard with
  | none => some true
  | some (j, want) => match (ops[j]?).bind (·.dst) with
    | some d => match T.get d with
      | some (.v (.bool b)) => some (b == want)
      | some (.v (.tuple _)) => some false
      | _ => none
    | none => none

abbrev CallF := FuncId → List AV → AH → Option (AV × AH)
def aOps (P : Program) (G : Gl) (call : CallF) (n : Nat) (ops : Array Oper) : List Nat → AS → Option AS
  | [], st => some st
  | i :: rest, st => match ops[i]? with
    | none => none
    | some o => match aWant st.T ops o with
      | none => none
      | some false => (aPut n o.dst (.v undef) st.T).bind fun T' => aOps P G call n ops rest ⟨T', st.H⟩
      | some true => match aExec P G (ev st.T) o st.H with
        | none => none
        | some (.val a, H') => (aPut n o.dst a st.T).bind fun T' => aOps P G call n ops rest ⟨T', H'⟩
        | some (.skip, H') => (aPut n o.dst (.v undef) st.T).bind fun T' => aOps P G call n ops rest ⟨T', H'⟩
        | some (.enter f args, H') => match call f args H' with
          | none => none
          | some (a, H'') => (aPut n o.dst a st.T).bind fun T' => aOps P G call n ops rest ⟨T', H''⟩

inductive AX where
  | normal
  | exit (id : Nat)
  | ret
abbrev RunF := Nat → Code → AS → Option (AX × AS)
def aSeq (x : Option (AX × AS)) (k : AS → Option (AX × AS)) : Option (AX × AS) :=
  match x with
  | some (.normal, st) => k st
  | r => r
def aLoop (f : AS → Option (AX × AS)) : Nat → AS → Option (AX × AS)
  | 0, _ => none
  | m + 1, st => aSeq (f st) (aLoop f m)
/-- What both hold. -/
def meetPT : PT → PT → PT
  | .node a l r, t => match t with
    | .node b l' r' => .node (bif eqOA' a b then a else none) (meetPT l l') (meetPT r r')
    | .nil => .nil
  | .nil, _ => .nil
  termination_by structural t => t
def meetH : AH → AH → AH
  | [], m => m.map fun _ => .dead
  | a :: l, m => match m with
    | [] => .dead :: meetH l []
    | b :: m => (bif eqObj a b then a else .dead) :: meetH l m
  termination_by structural l => l
def meetAS (a b : AS) : AS := ⟨meetPT a.T b.T, meetH a.H b.H⟩
def eqAX : AX → AX → Bool
  | .normal, .normal => true
  | .ret, .ret => true
  | .exit a, .exit b => Nat.beq a b
  | _, _ => false
def aMeets (f : AS → Option (AX × AS)) : List AS → Option (AX × AS)
  | [] => none
  | st :: l => match l with
    | [] => f st
    | _ => match f st, aMeets f l with
      | some (e, s), some (e', s') => bif eqAX e e' then some (e, meetAS s s') else none
      | _, _ => none
/-- A region that may end in more than one way. -/
def coinOf : Code → Option (Array Oper)
  | .region _ ops true => match ops[1]? with
    | some o => match o.op with
      | .store _ _ (.const (.bool true)) => some ops
      | _ => none
    | none => none
  | _ => none
def aStep (P : Program) (G : Gl) (call : CallF) (draw : Nat → Array Oper → AS → Option (List AS)) (k : Nat) (ih : RunF) : RunF := fun n c st =>
  match c with
  | .skip | .label _ => some (.normal, st)
  | .seq a b => match coinOf a with
    | none => aSeq (ih n a st) (ih n b)
    | some ops => match draw n ops st with
      | none => none
      | some l => aMeets (ih n b) l
  | .cond x a b => match ev st.T x with
    | some (.v (.bool true)) => ih n a st
    | some (.v (.bool false)) => ih n b st
    | _ => none
  | .block id c => match ih n c st with
    | some (.exit j, st') => bif Nat.beq j id then some (.normal, st') else some (.exit j, st')
    | r => r
  | .loop c => aLoop (ih n c) k st
  | .exit id => some (.exit id, st)
  | .ret => some (.ret, st)
  | .scope c => ih n c st
  | .region _ ops d => match d with
    | true => match draw n ops st with
      | some [st'] => some (.normal, st')
      | _ => none
    | false => (aOps P G call n ops (List.range ops.size) st).map fun st' => (.normal, st')
  | _ => none

def aArgs (n : Nat) : List AV → Nat → PT → Option PT
  | [], _, T => some T
  | a :: l, i, T => (aPut n (some i) a T).bind fun T' => aArgs n l (i + 1) T'
def aRes (P : Program) (G : Gl) (st : AS) : List ResultVar → Option (List AV)
  | [] => some []
  | .tmp t :: l => (st.T.get t).bind fun a => (aRes P G st l).map fun r => a :: r
  | .cell a t :: l => (st.T.get a).bind fun x => match x with
    | .ptr _ _ => (aLoad P G t x st.H).bind fun b => (aRes P G st l).map fun r => b :: r
    | _ => none

mutual
def AV.lt (n : Nat) : AV → Bool
  | .v _ => true
  | .ptr id _ => Nat.blt id n
  | .slc id _ _ _ _ => Nat.blt id n
  | .agg cs => ltL n cs
  | .tup cs => ltL n cs
  | .fn _ a b => ltL n a && ltL n b
  | .ifc _ x => AV.lt n x
  | .mp id => Nat.blt id n
def ltL (n : Nat) : List AV → Bool
  | [] => true
  | a :: l => AV.lt n a && ltL n l
end
def ltE (n : Nat) : List (Value × AV × Nat) → Bool
  | [] => true
  | (_, a, _) :: l => a.lt n && ltE n l
def AObj.lt (n : Nat) : AObj → Bool
  | .cells cs _ => ltL n cs
  | .ro cs _ => ltL n cs
  | .map es _ => ltE n es
  | _ => true
/-- What is new and out of reach is forgotten. -/
def aTrim (n : Nat) (r : AV × AH) : AV × AH :=
  bif Nat.blt n r.2.length && r.1.lt n && (r.2.take n).all (AObj.lt n) then (r.1, r.2.take n) else r

def aCall (P : Program) (G : Gl) (orc : CallF) (ih : RunF) : CallF := fun f args H =>
  match orc f args H with
  | some r => some r
  | none => match P.funcs[f]? with
    | none => none
    | some fn => match fn.body with
      | none => none
      | some c => bif Nat.ble args.length fn.ntmps then
          match aArgs fn.ntmps args 0 .nil with
          | none => none
          | some T => match ih fn.ntmps c ⟨T, H⟩ with
            | some (.normal, st) | some (.ret, st) => (aRes P G st fn.results.toList).bind fun l => match l with
              | [a] => some (aTrim H.length (a, st.H))
              | l => some (aTrim H.length (.tup l, st.H))
            | _ => none
        else none

section
variable {P : Program} {B : Nat} {w0 : World} {G : Gl} {ds : List Deferred}

def TR (σ : Sg) (n : Nat) (T : PT) (tmps : Array Value) : Prop :=
  tmps.size = n ∧ ∀ (t : Nat) (a : AV), T.get t = some a → ∃ v, a.conc σ = some v ∧ tmps[t]? = some v
structure SR (ds : List Deferred) (B : Nat) (w0 : World) (σ : Sg) (n : Nat) (st : AS) (a : Act) (w : World) : Prop where
  wr : WR B w0 σ st.H w
  tr : TR σ n st.T a.tmps
  df : a.defers = ds

theorem of_blt {a b : Nat} (h : Nat.blt a b = true) : a < b := Nat.le_of_ble_eq_true h
theorem TR.mono {σ σ' : Sg} (h : σ <+: σ') {n T tmps} (r : TR σ n T tmps) : TR σ' n T tmps :=
  ⟨r.1, fun t a ha => let ⟨v, h1, h2⟩ := r.2 t a ha; ⟨v, conc_mono h a h1, h2⟩⟩
theorem ev_ok {σ : Sg} {n : Nat} {T : PT} {a : Act} (r : TR σ n T a.tmps) : EvR σ (ev T) a.eval := by
  intro x b hb
  cases x with
  | tmp t =>
    obtain ⟨v, h1, h2⟩ := r.2 t b hb
    simp only [Act.eval, Array.getD_eq_getD_getElem?, h2, Option.getD_some]; exact h1
  | const v => simp only [ev, Option.some.injEq] at hb; subst hb; rfl
  | global g => simp only [ev, Option.some.injEq] at hb; subst hb; rfl
  | func f => simp only [ev, Option.some.injEq] at hb; subst hb; rfl
theorem put_ok {σ : Sg} {n : Nat} {T T' : PT} {a : Act} (r : TR σ n T a.tmps) {dst : Option Tmp} {b : AV} {v : Value} (hb : b.conc σ = some v) (h : aPut n dst b T = some T') : TR σ n T' (a.put dst v).tmps := by
  cases dst with
  | none => simp only [aPut, Option.some.injEq] at h; subst h; exact r
  | some d =>
    simp only [aPut] at h
    cases hd : (Nat.blt d n && Nat.blt d 4000) with
    | false => simp only [hd, cond_false] at h; cases h
    | true =>
      simp only [hd, cond_true, Option.some.injEq] at h; subst h
      simp only [Bool.and_eq_true] at hd
      have h1 : @LT.lt Nat _ d n := of_blt hd.1
      have h2 : @LT.lt Nat _ d 4000 := of_blt hd.2
      have h3 : @LT.lt Nat _ (d + 1) (2 ^ 12) := Nat.lt_of_lt_of_le (Nat.succ_lt_succ h2) (by decide)
      refine ⟨by simp [Act.put, r.1], fun t c hc => ?_⟩
      rw [PT.get_set 12 T d b t h3] at hc
      simp only [Act.put]
      by_cases e : t = d
      · subst e
        simp only [if_true, Option.some.injEq] at hc; subst hc
        exact ⟨v, hb, by have := r.1; simp [Array.getElem?_setIfInBounds, this, h1]⟩
      · rw [if_neg e] at hc
        obtain ⟨u, hu, ht⟩ := r.2 t c hc
        exact ⟨u, hu, by rw [Array.getElem?_setIfInBounds_ne (Ne.symm e)]; exact ht⟩
theorem want_ok {σ : Sg} {n : Nat} {T : PT} {tmps : Array Value} (r : TR σ n T tmps) {ops : Array Oper} {o : Oper} {b : Bool} (h : aWant T ops o = some b) : Region.wanted o (yielded ops tmps) = b := by
  unfold aWant at h
  unfold Region.wanted
  split at h
  · rename_i hg; simp only [Option.some.injEq] at h; subst h; simp [hg]
  · rename_i j want hg
    simp only [hg]
    split at h
    · rename_i d hd
      split at h
      · rename_i b' hb'
        simp only [Option.some.injEq] at h; subst h
        obtain ⟨v, h1, h2⟩ := r.2 d _ hb'
        simp only [AV.conc, Option.some.injEq] at h1; subst h1
        have : yielded ops tmps j = some b' := by unfold yielded; simp [hd, h2]
        rw [this]; cases b' <;> cases want <;> rfl
      · rename_i vs hb'
        simp only [Option.some.injEq] at h; subst h
        obtain ⟨v, h1, h2⟩ := r.2 d _ hb'
        simp only [AV.conc, Option.some.injEq] at h1; subst h1
        have : yielded ops tmps j = none := by unfold yielded; simp [hd, h2]
        rw [this]; rfl
      · cases h
    · cases h
theorem put_defers (a : Act) (d : Option Tmp) (v : Value) : (a.put d v).defers = a.defers := by cases d <;> rfl

/-- What is asked of a way to call. -/
def CallOK (P : Program) (B : Nat) (w0 : World) (call : CallF) : Prop :=
  ∀ (f : FuncId) (args : List AV) (H : AH) (r : AV × AH), call f args H = some r → ∀ (σ : Sg) (w : World) (vs : List Value), WR B w0 σ H w → concL σ args = some vs →
    Calls P f vs.toArray w fun e w' => ∃ σ' v, σ <+: σ' ∧ WR B w0 σ' r.2 w' ∧ r.1.conc σ' = some v ∧ e = .returned v

theorem ops_ok (hNG : NG P) (hG : GOK B w0 G) {call : CallF} (hc : CallOK P B w0 call) {n : Nat} {ops : Array Oper} {Q : Exit → Act → World → Prop} : ∀ (l : List Nat) (st st' : AS) (σ : Sg) (a : Act) (w : World),
    aOps P G call n ops l st = some st' → SR ds B w0 σ n st a w → (∀ σ' a' w', σ <+: σ' → SR ds B w0 σ' n st' a' w' → Q .normal a' w') → wpOps P ops Q l a w
  | [], st, st', σ, a, w, h, hs, hQ => by
    simp only [aOps, Option.some.injEq] at h; subst h
    exact hQ σ a w List.prefix_rfl hs
  | i :: rest, st, st', σ, a, w, h, hs, hQ => by
    simp only [aOps] at h
    simp only [wpOps]
    cases ho : ops[i]? with
    | none => rw [ho] at h; cases h
    | some o =>
      rw [ho] at h
      simp only at h ⊢
      have step : ∀ {σ1 : Sg} {w1 : World} {b : AV} {v : Value} {H1 : AH}, σ <+: σ1 → WR B w0 σ1 H1 w1 → b.conc σ1 = some v → ((aPut n o.dst b st.T).bind fun T' => aOps P G call n ops rest ⟨T', H1⟩) = some st' → wpOps P ops Q rest (a.put o.dst v) w1 := by
        intro σ1 w1 b v H1 hp hw1 hb hr
        simp only [Option.bind_eq_some_iff] at hr
        obtain ⟨T', hT', hr⟩ := hr
        refine ops_ok hNG hG hc rest ⟨T', H1⟩ st' σ1 _ _ hr ⟨hw1, put_ok (hs.tr.mono hp) hb hT', by rw [put_defers]; exact hs.df⟩ fun σ' a' w' hp' hs' => hQ σ' a' w' (hp.trans hp') hs'
      split at h
      · cases h
      · rename_i hw
        rw [want_ok hs.tr hw]
        simp only [Bool.false_eq_true, if_false]
        exact step List.prefix_rfl hs.wr (b := .v undef) (by rfl) h
      · rename_i hw
        rw [want_ok hs.tr hw]
        simp only [if_true]
        refine .inl ?_
        unfold Oper.wp
        split at h
        · cases h
        · rename_i b H' hx
          obtain ⟨σ1, w1, hp, hw1, v, hv, hrun⟩ := exec_ok hNG hG hs.wr (ev_ok hs.tr) hx
          rw [hrun]; exact step hp hw1 hv h
        · rename_i H' hx
          obtain ⟨σ1, w1, hp, hw1, hrun⟩ := exec_ok hNG hG hs.wr (ev_ok hs.tr) hx
          simp only [NextR] at hrun
          rw [hrun]; exact step hp hw1 (b := .v undef) (by rfl) h
        · rename_i f args H' hx
          obtain ⟨σ1, w1, hp, hw1, vs, hvs, hrun⟩ := exec_ok hNG hG hs.wr (ev_ok hs.tr) hx
          rw [hrun]
          split at h
          · cases h
          · rename_i b H'' hcall
            refine (hc f args H' _ hcall σ1 w1 vs hw1 hvs).mono ?_
            rintro e w2 ⟨σ2, v, hp2, hw2, hv, rfl⟩
            exact step (hp.trans hp2) hw2 hv h
end
end Go.Proofs.YtfphabkdgdgnbaaGreatDoor.AE
