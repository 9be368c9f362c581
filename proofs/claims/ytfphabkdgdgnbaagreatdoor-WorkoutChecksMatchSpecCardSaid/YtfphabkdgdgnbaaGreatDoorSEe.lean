import Derived.Test.YtfphabkdgdgnbaaGreatDoorSEd
set_option linter.unusedVariables false
set_option linter.unusedSimpArgs false
set_option linter.unusedSectionVars false
namespace Go.Proofs.YtfphabkdgdgnbaaGreatDoor.SE
open Go Go.RowKit Go.Proofs.YtfphabkdgdgnbaaGreatDoor.AE
variable [Tb]

/-! a region whose operations go in the order of the text -/
inductive Wnt where
  | yes | no
  | ask (d : Tmp) (x : Ex) (b : Bool)
  | bad
def want (T : PTS) (ops : Array Oper) (o : Oper) : Wnt :=
  match o.guard with
  | none => .yes
  | some (j, b) => match (ops[j]?).bind (·.dst) with
    | some d => match T.get d with
      | some (.c (.bool v)) => bif v == b then .yes else .no
      | some (.c (.tuple _)) => .no
      | some (.s x) => .ask d x b
      | _ => .bad
    | none => .bad
def pickAsk (T : PTS) (o : Oper) : Option (Tmp × Ex) :=
  match o.op with
  | .pick (.tmp t) _ _ => match T.get t with
    | some (.s x) => some (t, x)
    | _ => none
  | _ => none
def setB (nt : Nat) (d : Tmp) (b : Bool) (st : SS) : Option SS := (sPut nt (some d) (.c (.bool b)) st.T).map fun T' => ⟨T', st.H, st.n⟩
def runOp (P : Program) (sg : List Sig) (nt : Nat) (o : Oper) (rest : SS → Option (Tree SS)) (st : SS) : Option (Tree SS) :=
  match stp P sg o st with
  | none => some .fail
  | some s => match s.p with
    | none => (sPut nt o.dst (s.res st.H st.n).1 st.T).bind fun T' => rest ⟨T', (s.res st.H st.n).2, st.n⟩
    | some (p, k) => (sPut nt o.dst (s.res st.H st.n).1 st.T).bind fun T' => (rest ⟨T', (s.res st.H st.n).2, st.n + k⟩).map (.op p k)
def skipOp (nt : Nat) (o : Oper) (rest : SS → Option (Tree SS)) (st : SS) : Option (Tree SS) :=
  (sPut nt o.dst (.c undef) st.T).bind fun T' => rest ⟨T', st.H, st.n⟩
def askOp (nt : Nat) (d : Tmp) (x : Ex) (f : Bool → SS → Option (Tree SS)) (st : SS) : Option (Tree SS) :=
  (setB nt d true st).bind fun s1 => (setB nt d false st).bind fun s2 => (f true s1).bind fun A => (f false s2).map fun B => .ite x A B
def seOps (P : Program) (sg : List Sig) (nt : Nat) (ops : Array Oper) : List Nat → SS → Option (Tree SS)
  | [], st => some (.leaf st)
  | i :: rest, st => match ops[i]? with
    | none => none
    | some o => match want st.T ops o with
      | .yes => match pickAsk st.T o with
        | some (d, x) => askOp nt d x (fun _ => runOp P sg nt o (seOps P sg nt ops rest)) st
        | none => runOp P sg nt o (seOps P sg nt ops rest) st
      | .no => skipOp nt o (seOps P sg nt ops rest) st
      | .ask d x b => askOp nt d x (fun v => bif v == b then runOp P sg nt o (seOps P sg nt ops rest) else skipOp nt o (seOps P sg nt ops rest)) st
      | .bad => some .fail

/-! more variables -/
mutual
theorem val_mono {ρ ρ' : List D} (h : ρ <+: ρ') : ∀ (a : SV) {x : Value}, a.val ρ = some x → a.val ρ' = some x
  | .c y, x, e => e
  | .s y, x, e => by
    simp only [SV.val] at e ⊢
    split at e
    · rename_i u hu; rw [den_mono h y hu]; exact e
    · cases e
  | .agg cs, x, e => by
    simp only [SV.val, Option.map_eq_some_iff] at e ⊢
    obtain ⟨l, hl, rfl⟩ := e; exact ⟨l, valL_mono h cs hl, rfl⟩
  | .tup cs, x, e => by
    simp only [SV.val, Option.map_eq_some_iff] at e ⊢
    obtain ⟨l, hl, rfl⟩ := e; exact ⟨l, valL_mono h cs hl, rfl⟩
  | .fn f a b, x, e => by
    simp only [SV.val, Option.map_eq_some_iff, Option.bind_eq_some_iff] at e ⊢
    obtain ⟨l, hl, m, hm, rfl⟩ := e; exact ⟨l, valL_mono h a hl, m, valL_mono h b hm, rfl⟩
  | .ifc t y, x, e => by
    simp only [SV.val, Option.map_eq_some_iff] at e ⊢
    obtain ⟨l, hl, rfl⟩ := e; exact ⟨l, val_mono h y hl, rfl⟩
  | .d .., x, e => by simp [SV.val] at e
  | .own .., x, e => by simp [SV.val] at e
  | .slc .., x, e => by simp [SV.val] at e
  | .ptr .., x, e => by simp [SV.val] at e
  | .sp .., x, e => by simp [SV.val] at e
  | .unk, x, e => by simp [SV.val] at e
theorem valL_mono {ρ ρ' : List D} (h : ρ <+: ρ') : ∀ (as : List SV) {l : List Value}, valL ρ as = some l → valL ρ' as = some l
  | [], l, e => e
  | a :: as, l, e => by
    simp only [valL, Option.map_eq_some_iff, Option.bind_eq_some_iff] at e ⊢
    obtain ⟨x, hx, m, hm, rfl⟩ := e; exact ⟨x, val_mono h a hx, m, valL_mono h as hm, rfl⟩
end
theorem nat_mono {ρ ρ' : List D} (h : ρ <+: ρ') {a : SV} {n : Nat} (e : a.nat ρ = some n) : a.nat ρ' = some n := by
  simp only [SV.nat, Option.bind_eq_some_iff] at e ⊢
  obtain ⟨x, hx, hn⟩ := e; exact ⟨x, val_mono h a hx, hn⟩
theorem optNat_mono {ρ ρ' : List D} (h : ρ <+: ρ') {d n : Nat} : ∀ {a : Option SV}, optNat ρ d a = some n → optNat ρ' d a = some n
  | none, e => e
  | some a, e => nat_mono h e
theorem pr_mono {P : Program} {orc : Nat → List D → Option (List D)} {ρ ρ' : List D} (h : ρ <+: ρ') {p : Pr} {ds : List D} (e : p.den P orc ρ = some ds) : p.den P orc ρ' = some ds := by
  cases p with
  | pure f args =>
    simp only [Pr.den, Option.bind_eq_some_iff] at e ⊢
    obtain ⟨vs, hvs, e⟩ := e; exact ⟨vs, valL_mono h args hvs, e⟩
  | llen x =>
    simp only [Pr.den] at e ⊢
    split at e
    · rename_i rows hx; rw [den_mono h x hx]; exact e
    · cases e
  | row n x i =>
    simp only [Pr.den] at e ⊢
    split at e
    · rename_i rows j hx hi; rw [den_mono h x hx, nat_mono h hi]; exact e
    · cases e
  | sub x lo hi =>
    simp only [Pr.den] at e ⊢
    split at e
    · rename_i rows hx
      simp only [Option.bind_eq_some_iff] at e
      obtain ⟨l, hl, hh, hhh, e⟩ := e
      rw [den_mono h x hx]
      simp only [Option.bind_eq_some_iff]
      exact ⟨l, optNat_mono h hl, hh, optNat_mono h hhh, e⟩
    · cases e
  | cat x y =>
    simp only [Pr.den] at e ⊢
    split at e
    · rename_i a b hx hy; rw [den_mono h x hx, den_mono h y hy]; exact e
    · cases e
  | catS x y =>
    simp only [Pr.den] at e ⊢
    split at e
    · rename_i a b hx hy; rw [den_mono h x hx, val_mono h y hy]; exact e
    · cases e
  | call g args =>
    simp only [Pr.den, Option.bind_eq_some_iff] at e ⊢
    obtain ⟨vs, hvs, e⟩ := e; exact ⟨vs, denRow_mono h args hvs, e⟩
  | toStr x =>
    simp only [Pr.den] at e ⊢
    split at e
    · rename_i rows hx; rw [den_mono h x hx]; exact e
    · cases e
  | toBytes a =>
    simp only [Pr.den] at e ⊢
    split at e
    · rename_i s hx; rw [val_mono h a hx]; exact e
    · cases e
  | fail => cases e

/-- What is kept along the way. -/
def Kps (nh : Nat) (c c' : Cx) : Prop := c.M.le c'.M ∧ ∀ (i : Nat) (p : Pl), i < nh → c.σ[i]? = some p → c'.σ[i]? = some p
theorem Kps.rfl {nh : Nat} {c : Cx} : Kps nh c c := ⟨.rfl, fun _ _ _ h => h⟩
theorem Kps.trans {nh : Nat} {a b c : Cx} (h : Kps nh a b) (k : Kps nh b c) : Kps nh a c := ⟨h.1.trans k.1, fun i p hi hp => k.2 i p hi (h.2 i p hi hp)⟩
theorem Kps.of_le {nh : Nat} {a b : Cx} (h : a.le b) : Kps nh a b := ⟨h.M, fun i p _ hp => pl_mono h.σ hp⟩
section
variable {P : Program} {orc : Nat → List D → Option (List D)} {kk : Nat} {sg : List Sig} {M0 : Mem} {w0 : World} {S : Nat → Prop} {ds : List Deferred} {nt nh : Nat}
theorem setB_ok {cx : Cx} {st st' : SS} {a : Act} {w : World} {d : Tmp} {b : Bool} {x : Ex} (h : SR P M0 w0 S ds cx nt st a w) (hd : st.T.get d = some (.s x)) (hx : x.den cx.ρ = some (.v (.bool b))) (hs : setB nt d b st = some st') : SR P M0 w0 S ds cx nt st' a w ∧ a.tmps[d]? = some (.bool b) := by
  simp only [setB, Option.map_eq_some_iff] at hs
  obtain ⟨T', hT, rfl⟩ := hs
  obtain ⟨v, hv, ht⟩ := h.tr.2 d _ hd
  have hv1 : x.den cx.ρ = some (.v v) := hv.1
  rw [hx] at hv1
  simp only [Option.some.injEq, D.v.injEq] at hv1
  subst hv1
  refine ⟨⟨h.wr, ?_, h.df, h.n⟩, ht⟩
  have := put_ok (P := P) (cx := cx) h.tr (dst := some d) (b := .c (.bool b)) (v := .bool b) rfl hT
  have e : (a.put (some d) (.bool b)).tmps = a.tmps := by
    simp only [Act.put]
    apply Array.ext_getElem?
    intro i
    rw [Array.getElem?_setIfInBounds]
    by_cases hi : d = i
    · subst hi; simp only [if_true]; split
      · rw [ht]
      · rename_i hh; rw [Array.getElem?_eq_none (by omega)] at ht; cases ht
    · simp [hi]
  rw [e] at this; exact this
/-- What a region comes to. -/
def OpsOK (P : Program) (orc : Nat → List D → Option (List D)) (kk : Nat) (M0 : Mem) (w0 : World) (S : Nat → Prop) (ds : List Deferred) (nt nh : Nat) (st : SS) (T : Tree SS) (goal : ((Act → World → Prop) → Act → World → Prop)) : Prop :=
  ∀ cx a w o (K : Act → World → Prop), SR P M0 w0 S ds cx nt st a w → T.den P orc kk cx.ρ = some o → (∀ st' cx' a' w', o = .leaf st' cx'.ρ → Kps nh cx cx' → SR P M0 w0 S ds cx' nt st' a' w' → K a' w') → goal K a w
theorem runOp_ok (hNG : NG P) (hsg : ∀ k g, sg[k]? = some g → SigOK P g (orc k)) {o : Oper} {rest : SS → Option (Tree SS)} {goal : (Act → World → Prop) → Act → World → Prop} (hrest : ∀ st T, rest st = some T → Closed P orc kk T ∧ OpsOK P orc kk M0 w0 S ds nt nh st T goal)
    {st : SS} {T : Tree SS} (h : runOp P sg nt o rest st = some T) : Closed P orc kk T ∧ ∀ cx a w oo (K : Act → World → Prop) Q, SR P M0 w0 S ds cx nt st a w → T.den P orc kk cx.ρ = some oo → (∀ st' cx' a' w', oo = .leaf st' cx'.ρ → Kps nh cx cx' → SR P M0 w0 S ds cx' nt st' a' w' → K a' w') → o.wp P a w (goal K) Q := by
  unfold runOp at h
  split at h
  · simp only [Option.some.injEq] at h; subst h
    exact ⟨closed_fail, fun cx a w oo K Q _ hd _ => by simp [Tree.den] at hd⟩
  · rename_i s hs
    split at h
    · rename_i hp
      simp only [Option.bind_eq_some_iff] at h
      obtain ⟨T', hT, h⟩ := h
      obtain ⟨hc, hok⟩ := hrest _ _ h
      refine ⟨hc, fun cx a w oo K Q hs' hd hK => stp_ok (base := st.n) hNG hsg hs'.wr hs'.tr hs (by rw [hp]; trivial) fun cx' v w' hle hρ hW hR _ => ?_⟩
      refine hok cx' _ w' oo K ⟨hW, put_ok (hs'.tr.mono hle) hR hT, by rw [put_defers]; exact hs'.df, by rw [hρ]; exact hs'.n⟩ (by rw [hρ]; exact hd) fun st2 cx2 a2 w2 h1 h2 h3 => hK st2 cx2 a2 w2 h1 ((Kps.of_le hle).trans h2) h3
    · rename_i p k hp
      simp only [Option.bind_eq_some_iff, Option.map_eq_some_iff] at h
      obtain ⟨T', hT, t, ht, rfl⟩ := h
      obtain ⟨hc, hok⟩ := hrest _ _ ht
      refine ⟨closed_op hc, fun cx a w oo K Q hs' hd hK => ?_⟩
      simp only [Tree.den, Option.bind_eq_some_iff] at hd
      obtain ⟨es, hes, hd⟩ := hd
      cases hl : Nat.beq es.length k with
      | false => simp [hl] at hd
      | true =>
        simp only [hl, cond_true] at hd
        have hl := Nat.eq_of_beq_eq_true hl
        have hpre : cx.ρ <+: cx.ρ ++ es := List.prefix_append _ _
        have hle0 : cx.le ⟨cx.ρ ++ es, cx.σ, cx.M⟩ := ⟨hpre, List.prefix_rfl, .rfl⟩
        -- the step, over the variables with those that are bound
        have hbd : Bd P orc (cx.ρ ++ es) st.n s.p := by
          rw [hp]
          refine ⟨es, ?_, hl, fun j d hj => ?_⟩
          · exact pr_mono hpre hes
          · rw [← hs'.n, List.getElem?_append_right (by omega)]; simpa using hj
        refine stp_ok (cx := ⟨cx.ρ ++ es, cx.σ, cx.M⟩) (base := st.n) hNG hsg (hs'.wr.env hpre) (hs'.tr.mono hle0) hs hbd fun cx' v w' hle hρ hW hR _ => ?_
        refine hok cx' _ w' oo K ⟨hW, put_ok ((hs'.tr.mono hle0).mono hle) hR hT, by rw [put_defers]; exact hs'.df, by rw [hρ]; simp [hs'.n, hl]⟩ (by rw [hρ]; exact hd) fun st2 cx2 a2 w2 h1 h2 h3 => hK st2 cx2 a2 w2 h1 ((Kps.of_le (hle0.trans hle)).trans h2) h3
theorem skipOp_ok {o : Oper} {rest : SS → Option (Tree SS)} {goal : (Act → World → Prop) → Act → World → Prop} (hrest : ∀ st T, rest st = some T → Closed P orc kk T ∧ OpsOK P orc kk M0 w0 S ds nt nh st T goal)
    {st : SS} {T : Tree SS} (h : skipOp nt o rest st = some T) : Closed P orc kk T ∧ OpsOK P orc kk M0 w0 S ds nt nh st T fun K a w => goal K (a.put o.dst undef) w := by
  simp only [skipOp, Option.bind_eq_some_iff] at h
  obtain ⟨T', hT, h⟩ := h
  obtain ⟨hc, hok⟩ := hrest _ _ h
  exact ⟨hc, fun cx a w oo K hs hd hK => hok cx _ w oo K ⟨hs.wr, put_ok hs.tr (b := .c undef) (v := undef) rfl hT, by rw [put_defers]; exact hs.df, hs.n⟩ hd hK⟩
theorem askOp_ok {d : Tmp} {x : Ex} {f : Bool → SS → Option (Tree SS)} {st : SS} {T : Tree SS} {goal : (Act → World → Prop) → Act → World → Prop} (h : askOp nt d x f st = some T) (hd : st.T.get d = some (.s x))
    (hf : ∀ b st' T', f b st' = some T' → Closed P orc kk T' ∧ OpsOK P orc kk M0 w0 S ds nt nh st' T' fun K a w => a.tmps[d]? = some (.bool b) → goal K a w) : Closed P orc kk T ∧ OpsOK P orc kk M0 w0 S ds nt nh st T goal := by
  simp only [askOp, Option.bind_eq_some_iff, Option.map_eq_some_iff] at h
  obtain ⟨s1, h1, s2, h2, A, hA, B, hB, rfl⟩ := h
  obtain ⟨ca, oa⟩ := hf true s1 A hA
  obtain ⟨cb, ob⟩ := hf false s2 B hB
  refine ⟨closed_ite ca cb, fun cx a w oo K hs hdn hK => ?_⟩
  simp only [Tree.den] at hdn
  split at hdn
  · rename_i hx
    obtain ⟨k1, k2⟩ := setB_ok hs hd hx h1
    exact oa cx a w oo K k1 hdn hK k2
  · rename_i hx
    obtain ⟨k1, k2⟩ := setB_ok hs hd hx h2
    exact ob cx a w oo K k1 hdn hK k2
  · cases hdn
theorem want_yes {st : SS} {tmps : Array Value} {cx : Cx} (r : TR P cx nt st.T tmps) {ops : Array Oper} {o : Oper} : (want st.T ops o = .yes → Region.wanted o (yielded ops tmps) = true) ∧ (want st.T ops o = .no → Region.wanted o (yielded ops tmps) = false) ∧
    (∀ d x b, want st.T ops o = .ask d x b → st.T.get d = some (.s x) ∧ ∀ v, tmps[d]? = some (.bool v) → Region.wanted o (yielded ops tmps) = (v == b)) := by
  unfold want Region.wanted
  cases hg : o.guard with
  | none => exact ⟨fun _ => rfl, fun h => by simp at h, fun d x b h => by simp at h⟩
  | some jb =>
    obtain ⟨j, b⟩ := jb
    simp only
    cases hd : (ops[j]?).bind (·.dst) with
    | none => exact ⟨fun h => by simp at h, fun h => by simp at h, fun d x b h => by simp at h⟩
    | some d =>
      simp only
      have yl : ∀ v, tmps[d]? = some (.bool v) → yielded ops tmps j = some v := fun v hv => by unfold yielded; simp [hd, hv]
      have yt : ∀ vs, tmps[d]? = some (.tuple vs) → yielded ops tmps j = none := fun vs hv => by unfold yielded; simp [hd, hv]
      cases hx : st.T.get d with
      | none => exact ⟨fun h => by simp at h, fun h => by simp at h, fun d x b h => by simp at h⟩
      | some a =>
        obtain ⟨u, hu, hut⟩ := r.2 d a hx
        cases a with
        | c z =>
          simp only [SV.R] at hu
          subst hu
          cases u with
          | bool v =>
            rw [yl v hut]
            cases v <;> cases b <;> simp
          | tuple vs => rw [yt vs hut]; simp
          | _ => simp
        | s x =>
          refine ⟨fun h => by simp at h, fun h => by simp at h, fun d' x' b' h => ?_⟩
          simp only [Wnt.ask.injEq] at h
          obtain ⟨rfl, rfl, rfl⟩ := h
          refine ⟨hx, fun v hv => ?_⟩
          rw [yl v hv]
          cases v <;> cases b <;> rfl
        | _ => simp
theorem want_ask {T : PTS} {ops : Array Oper} {o : Oper} {d : Tmp} {x : Ex} {b : Bool} (h : want T ops o = .ask d x b) : T.get d = some (.s x) := by
  unfold want at h
  cases hg : o.guard with
  | none => rw [hg] at h; cases h
  | some jb =>
    obtain ⟨j, b'⟩ := jb
    rw [hg] at h
    simp only at h
    cases hd : (ops[j]?).bind (·.dst) with
    | none => rw [hd] at h; cases h
    | some d' =>
      rw [hd] at h
      simp only at h
      cases hx : T.get d' with
      | none => rw [hx] at h; cases h
      | some a =>
        rw [hx] at h
        cases a with
        | c z =>
          cases z with
          | bool v =>
            simp only at h
            cases hvb : (v == b') with
            | true => rw [hvb] at h; cases h
            | false => rw [hvb] at h; cases h
          | _ => simp at h
        | s y =>
          simp only [Wnt.ask.injEq] at h
          obtain ⟨rfl, rfl, rfl⟩ := h; exact hx
        | _ => simp at h
theorem seOps_ok (hNG : NG P) (hsg : ∀ k g, sg[k]? = some g → SigOK P g (orc k)) {ops : Array Oper} {Q : Exit → Act → World → Prop} : ∀ (l : List Nat) (st : SS) (T : Tree SS), seOps P sg nt ops l st = some T →
    Closed P orc kk T ∧ OpsOK P orc kk M0 w0 S ds nt nh st T fun K a w => wpOps P ops (Exit.then K Q) l a w
  | [], st, T, h => by
    simp only [seOps, Option.some.injEq] at h; subst h
    refine ⟨closed_leaf _, fun cx a w o K hs hd hK => ?_⟩
    simp only [Tree.den, Option.some.injEq] at hd; subst hd
    exact hK st cx a w rfl .rfl hs
  | i :: rest, st, T, h => by
    simp only [seOps] at h
    cases ho : ops[i]? with
    | none => rw [ho] at h; cases h
    | some o =>
      rw [ho] at h
      simp only at h
      have ih := fun st T (h : seOps P sg nt ops rest st = some T) => seOps_ok hNG hsg (ops := ops) (Q := Q) rest st T h
      have run := fun st T h => runOp_ok (P := P) (orc := orc) (kk := kk) (sg := sg) (M0 := M0) (w0 := w0) (S := S) (ds := ds) (nt := nt) (nh := nh) hNG hsg (o := o) (rest := seOps P sg nt ops rest) ih (st := st) (T := T) h
      have skip := fun st T h => skipOp_ok (P := P) (orc := orc) (kk := kk) (M0 := M0) (w0 := w0) (S := S) (ds := ds) (nt := nt) (nh := nh) (o := o) (rest := seOps P sg nt ops rest) ih (st := st) (T := T) h
      have unf : ∀ K a w, (Region.wanted o (yielded ops a.tmps) = true → o.wp P a w (wpOps P ops (Exit.then K Q) rest) (Exit.then K Q)) → (Region.wanted o (yielded ops a.tmps) = false → wpOps P ops (Exit.then K Q) rest (a.put o.dst undef) w) → wpOps P ops (Exit.then K Q) (i :: rest) a w := by
        intro K a w h1 h2
        simp only [wpOps, ho]
        cases hw : Region.wanted o (yielded ops a.tmps) with
        | true => simp only [if_true]; exact .inl (h1 hw)
        | false => simp only [Bool.false_eq_true, if_false]; exact h2 hw
      split at h
      · rename_i hw
        split at h
        · rename_i d x hp
          have hd : st.T.get d = some (.s x) := by
            unfold pickAsk at hp
            split at hp
            · split at hp
              · rename_i hh; simp only [Option.some.injEq, Prod.mk.injEq] at hp; obtain ⟨rfl, rfl⟩ := hp; exact hh
              · cases hp
            · cases hp
          -- the guard stands, whatever is set
          obtain ⟨k1, k2⟩ := askOp_ok (P := P) (orc := orc) (kk := kk) (M0 := M0) (w0 := w0) (S := S) (ds := ds) (nh := nh) (goal := fun K a w => Region.wanted o (yielded ops a.tmps) = true → wpOps P ops (Exit.then K Q) (i :: rest) a w) h hd fun b st' T' h' => by
            obtain ⟨c1, c2⟩ := run st' T' h'
            exact ⟨c1, fun cx a w oo K hs hdn hK _ hwant => unf K a w (fun _ => c2 cx a w oo K _ hs hdn hK) (fun hf => by rw [hwant] at hf; cases hf)⟩
          exact ⟨k1, fun cx a w oo K hs hdn hK => k2 cx a w oo K hs hdn hK ((want_yes hs.tr).1 hw)⟩
        · obtain ⟨c1, c2⟩ := run st T h
          exact ⟨c1, fun cx a w oo K hs hdn hK => unf K a w (fun _ => c2 cx a w oo K _ hs hdn hK) (fun hf => by rw [(want_yes hs.tr).1 hw] at hf; cases hf)⟩
      · rename_i hw
        obtain ⟨c1, c2⟩ := skip st T h
        exact ⟨c1, fun cx a w oo K hs hdn hK => unf K a w (fun ht => by rw [(want_yes hs.tr).2.1 hw] at ht; cases ht) (fun _ => c2 cx a w oo K hs hdn hK)⟩
      · rename_i d x b hw
        have hget : ∀ cx a w, SR P M0 w0 S ds cx nt st a w → ∀ v, a.tmps[d]? = some (.bool v) → Region.wanted o (yielded ops a.tmps) = (v == b) := fun cx a w hs v hv => ((want_yes hs.tr).2.2 d x b hw).2 v hv
        have hd := want_ask hw
        obtain ⟨k1, k2⟩ := askOp_ok (P := P) (orc := orc) (kk := kk) (M0 := M0) (w0 := w0) (S := S) (ds := ds) (nh := nh) (goal := fun K a w => (∀ v, a.tmps[d]? = some (.bool v) → Region.wanted o (yielded ops a.tmps) = (v == b)) → wpOps P ops (Exit.then K Q) (i :: rest) a w) h hd fun v st' T' h' => by
          cases hvb : (v == b) with
          | true =>
            simp only [hvb, cond_true] at h'
            obtain ⟨c1, c2⟩ := run st' T' h'
            exact ⟨c1, fun cx a w oo K hs hdn hK hv hwant => unf K a w (fun _ => c2 cx a w oo K _ hs hdn hK) (fun hf => by rw [hwant v hv, hvb] at hf; cases hf)⟩
          | false =>
            simp only [hvb, cond_false] at h'
            obtain ⟨c1, c2⟩ := skip st' T' h'
            exact ⟨c1, fun cx a w oo K hs hdn hK hv hwant => unf K a w (fun ht => by rw [hwant v hv, hvb] at ht; cases ht) (fun _ => c2 cx a w oo K hs hdn hK)⟩
        exact ⟨k1, fun cx a w oo K hs hdn hK => k2 cx a w oo K hs hdn hK (hget cx a w hs)⟩
      · simp only [Option.some.injEq] at h; subst h
        exact ⟨closed_fail, fun cx a w oo K _ hd _ => by simp [Tree.den] at hd⟩
end
end Go.Proofs.YtfphabkdgdgnbaaGreatDoor.SE
set_option linter.unusedVariables false
set_option linter.unusedSimpArgs false
set_option linter.unusedSectionVars false
namespace Go.Proofs.YtfphabkdgdgnbaaGreatDoor.SE
open Go Go.RowKit Go.Proofs.YtfphabkdgdgnbaaGreatDoor.AE
variable [Tb]

/-! patterns of states -/
structure Pat where
  sl : List (Nat × SV)
  H : SH
  nv : Nat
  deriving Inhabited
def ofList : List (Nat × SV) → PTS
  | [] => .nil
  | (t, a) :: l => bif Nat.blt t 4000 then (ofList l).set 12 t a else ofList l
theorem ofList_get : ∀ {l : List (Nat × SV)} {t : Nat} {a : SV}, (ofList l).get t = some a → (t, a) ∈ l
  | [], t, a, h => by simp [ofList, PTS.get] at h
  | (u, b) :: l, t, a, h => by
    simp only [ofList] at h
    cases hb : Nat.blt u 4000 with
    | false => simp only [hb, cond_false] at h; exact List.mem_cons_of_mem _ (ofList_get h)
    | true =>
      simp only [hb, cond_true] at h
      have h2 : @LT.lt Nat _ u 4000 := of_blt hb
      have h3 : @LT.lt Nat _ (u + 1) (2 ^ 12) := Nat.lt_of_lt_of_le (Nat.succ_lt_succ h2) (by decide)
      rw [PTS.get_set 12 _ u b t h3] at h
      by_cases e : t = u
      · subst e; simp only [if_true, Option.some.injEq] at h; subst h; exact List.mem_cons_self ..
      · rw [if_neg e] at h; exact List.mem_cons_of_mem _ (ofList_get h)
def Pat.ss (p : Pat) (n0 : Nat) : SS := ⟨ofList p.sl, p.H, n0 + p.nv⟩
def fOf (n0 : Nat) (β : List Ex) (i : Nat) : Option Ex := bif Nat.blt i n0 then some (.x i) else β[i - n0]?
def firstN (ι : List (Option Nat)) : Nat → Bool
  | 0 => true
  | i + 1 => isIdx ι i i && firstN ι i
theorem firstN_ok {ι : List (Option Nat)} : ∀ {n : Nat}, firstN ι n = true → ∀ i, i < n → ι[i]? = some (some i)
  | 0, _, i, hi => by omega
  | n + 1, h, i, hi => by
    simp only [firstN, Bool.and_eq_true] at h
    by_cases e : i = n
    · subst e; exact isIdx_ok h.1
    · exact firstN_ok h.2 i (by omega)
def fitSlots (P : Program) (f : Nat → Option Ex) (ι : List (Option Nat)) (st : SS) : List (Nat × SV) → Bool
  | [] => true
  | (t, x) :: l => (match st.T.get t with | some a => fitV P f ι st.H x a | none => false) && fitSlots P f ι st l
theorem fitSlots_ok {P : Program} {f : Nat → Option Ex} {ι : List (Option Nat)} {st : SS} : ∀ {l : List (Nat × SV)}, fitSlots P f ι st l = true → ∀ t x, (t, x) ∈ l → ∃ a, st.T.get t = some a ∧ fitV P f ι st.H x a = true
  | [], _, t, x, h => by cases h
  | (u, y) :: l, h, t, x, hm => by
    simp only [fitSlots, Bool.and_eq_true] at h
    rcases List.mem_cons.1 hm with e | hm
    · simp only [Prod.mk.injEq] at e
      obtain ⟨rfl, rfl⟩ := e
      have h1 := h.1
      split at h1
      · rename_i a ha; exact ⟨a, ha, h1⟩
      · cases h1
    · exact fitSlots_ok h.2 t x hm
/-- What is used by living objects. -/
def usedLive : SH → List (Option Nat) → List Nat
  | o :: l, some j :: m => bif o.live then j :: usedLive l m else usedLive l m
  | _ :: l, none :: m => usedLive l m
  | _, _ => []
theorem usedLive_mem : ∀ {H : SH} {ι : List (Option Nat)} {i k : Nat} {o : SObj}, H[i]? = some o → o.live = true → ι[i]? = some (some k) → k ∈ usedLive H ι
  | [], _, i, k, o, h, _, _ => by simp at h
  | _ :: _, [], i, k, o, _, _, h => by simp at h
  | x :: l, y :: m, 0, k, o, h, hl, hk => by
    simp at h hk; subst h hk
    simp [usedLive, hl]
  | x :: l, y :: m, i + 1, k, o, h, hl, hk => by
    have ih := usedLive_mem (H := l) (ι := m) (i := i) (k := k) (by simpa using h) hl (by simpa using hk)
    cases y with
    | none => simpa [usedLive] using ih
    | some j =>
      simp only [usedLive]
      cases x.live with
      | true => simp [ih]
      | false => simpa using ih
theorem nodupLive_ok : ∀ {H : SH} {ι : List (Option Nat)}, nodupN (usedLive H ι) = true → ∀ (i j k : Nat) (o o' : SObj), H[i]? = some o → H[j]? = some o' → o.live = true → o'.live = true → ι[i]? = some (some k) → ι[j]? = some (some k) → i = j
  | [], _, _, i, j, k, o, o', h, _, _, _, _, _ => by simp at h
  | _ :: _, [], _, i, j, k, o, o', _, _, _, _, h, _ => by simp at h
  | x :: l, y :: m, hn, i, j, k, o, o', h1, h2, l1, l2, k1, k2 => by
    have tl : nodupN (usedLive l m) = true := by
      cases y with
      | none => simpa [usedLive] using hn
      | some a =>
        simp only [usedLive] at hn
        cases hx : x.live with
        | true => simp only [hx, cond_true, nodupN, Bool.and_eq_true] at hn; exact hn.2
        | false => simpa [hx] using hn
    have hd : ∀ {q : Nat} {o2 : SObj}, y = some k → x.live = true → l[q]? = some o2 → o2.live = true → m[q]? = some (some k) → False := fun {q} {o2} hy hx h3 l3 k3 => by
      subst hy
      simp only [usedLive, hx, cond_true, nodupN, Bool.and_eq_true, Bool.not_eq_true'] at hn
      have hm := usedLive_mem h3 l3 k3
      have : (usedLive l m).any (Nat.beq k) = true := List.any_eq_true.2 ⟨k, hm, Nat.beq_refl k⟩
      rw [hn.1] at this; cases this
    cases i with
    | zero => cases j with
      | zero => rfl
      | succ j =>
        simp at h1 k1; subst h1
        exact (hd k1 l1 (by simpa using h2) l2 (by simpa using k2)).elim
    | succ i => cases j with
      | zero =>
        simp at h2 k2; subst h2
        exact (hd k2 l2 (by simpa using h1) l1 (by simpa using k1)).elim
      | succ j => rw [nodupLive_ok tl i j k o o' (by simpa using h1) (by simpa using h2) l1 l2 (by simpa using k1) (by simpa using k2)]
/-- Does a state fit a pattern, with these variables and objects? -/
def fitSS (P : Program) (n0 nh : Nat) (p : Pat) (β : List Ex) (ι : List (Option Nat)) (st : SS) : Bool :=
  fitSlots P (fOf n0 β) ι st p.sl && fitH P (fOf n0 β) ι st.H p.H ι && nodupN (usedLive p.H ι) && Nat.beq β.length p.nv && firstN ι nh && Nat.ble n0 st.n

section
variable {P : Program} {orc : Nat → List D → Option (List D)} {sg : List Sig} {M0 : Mem} {w0 : World} {S : Nat → Prop} {ds : List Deferred} {nt nh : Nat}
theorem WR.fit {c c' : Cx} {H Ht : SH} {w : World} {f : Nat → Option Ex} {ι : List (Option Nat)} (hW : WR P M0 w0 S c H w) (h : Fit f ι c c') (hM : c'.M = c.M) (hσ : c'.σ = pickPl c.σ ι) (hf : fitH P f ι H Ht ι = true) (hn : nodupN (usedLive Ht ι) = true) : WR P M0 w0 S c' Ht w := by
  obtain ⟨hlen, hg⟩ := fitH_get hf
  have hobj : ∀ (i : Nat) (o : SObj), Ht[i]? = some o → o.live = true → (ι[i]? = some none ∧ ∀ p : Pl, c'.σ[i]? = some p → p.blk = none) ∨ ∃ (j : Nat) (o' : SObj) (q : Pl), ι[i]? = some (some j) ∧ H[j]? = some o' ∧ o'.live = true ∧ c.σ[j]? = some q ∧ ∀ p : Pl, c'.σ[i]? = some p → p = q := by
    intro i o ho hl
    obtain ⟨k, h1, h2⟩ := hg i o ho
    cases k with
    | none => exact .inl ⟨h1, fun p hp => by have := h.nil i h1; rw [hp] at this; cases this; rfl⟩
    | some j =>
      have hH : ∃ o', H[j]? = some o' ∧ o'.live = true := by
        cases o with
        | dead => cases hl
        | box cs e =>
          simp only [fitO] at h2
          split at h2
          · rename_i ds e' hh; exact ⟨_, hh, rfl⟩
          · cases h2
        | grow e x =>
          simp only [fitO] at h2
          split at h2
          · rename_i e' y hh; exact ⟨_, hh, rfl⟩
          · cases h2
      obtain ⟨o', ho', hl'⟩ := hH
      obtain ⟨q, hq⟩ := sg_get hW ho'
      exact .inr ⟨j, o', q, h1, ho', hl', hq, fun p hp => by have := h.id i j q h1 hq; rw [hp] at this; cases this; rfl⟩
  refine ⟨hW.keep, by rw [hM]; exact hW.mem, by rw [hM]; exact hW.old, by rw [hσ, pickPl_len, hlen], fun i o p ho hp => ?_, fun i j o o' p q b ho ho' hp hq hl hl' hpb hqb => ?_, by rw [hM]; exact hW.gl⟩
  · cases hl : o.live with
    | false => cases o <;> first | trivial | simp [SObj.live] at hl
    | true =>
      obtain ⟨k, h1, h2⟩ := hg i o ho
      rcases hobj i o ho hl with ⟨a1, a2⟩ | ⟨j, o', q, a1, a2, a3, a4, a5⟩
      · refine fitO_ok hW h hM h1 h2 hp (fun b hb _ => ?_) fun j hj => ?_
        · rw [a2 p hp] at hb; cases hb
        · subst hj; rw [a1] at h1; cases h1
      · refine fitO_ok hW h hM h1 h2 hp (fun b hb _ => ?_) fun j' hj => ?_
        · have := a5 p hp; subst this
          exact ((hW.obj j o' p a2 a4).base a3 hb).1
        · subst hj; rw [a1] at h1; cases h1; exact ⟨q, a4⟩
  · rcases hobj i o ho hl with ⟨a1, a2⟩ | ⟨ji, oi, qi, a1, a2, a3, a4, a5⟩
    · rw [a2 p hp] at hpb; cases hpb
    · rcases hobj j o' ho' hl' with ⟨b1, b2⟩ | ⟨jj, oj, qj, b1, b2, b3, b4, b5⟩
      · rw [b2 q hq] at hqb; cases hqb
      · have e1 := a5 p hp
        have e2 := b5 q hq
        subst e1 e2
        have := hW.inj ji jj oi oj p q b a2 b2 a4 b4 a3 b3 hpb hqb
        subst this
        exact nodupLive_ok hn i j ji o o' ho ho' hl hl' a1 b1
theorem fitSS_ok {n0 : Nat} {p : Pat} {β : List Ex} {ι : List (Option Nat)} {st : SS} {cx : Cx} {a : Act} {w : World} {ρ0 es : List D} (h : fitSS P n0 nh p β ι st = true) (hs : SR P M0 w0 S ds cx nt st a w) (hρ : ρ0 <+: cx.ρ) (hn : ρ0.length = n0) (hd : denRow cx.ρ β = some es) :
    es.length = p.nv ∧ SR P M0 w0 S ds ⟨ρ0 ++ es, pickPl cx.σ ι, cx.M⟩ nt (p.ss n0) a w ∧ Kps nh cx ⟨ρ0 ++ es, pickPl cx.σ ι, cx.M⟩ := by
  simp only [fitSS, Bool.and_eq_true] at h
  obtain ⟨⟨⟨⟨⟨f1, f2⟩, f3⟩, f4⟩, f5⟩, f6⟩ := h
  have f4 := Nat.eq_of_beq_eq_true f4
  obtain ⟨hβl, hβ⟩ := denRow_get hd
  have hfit : Fit (fOf n0 β) ι cx ⟨ρ0 ++ es, pickPl cx.σ ι, cx.M⟩ := by
    refine ⟨fun i y d hy hyd => ?_, fun i j q hj hq => (pickPl_get cx.σ ι i).1 j q hj hq, fun i hi => (pickPl_get cx.σ ι i).2 hi, .rfl⟩
    simp only [fOf, blt_lt] at hy
    by_cases hi : i < n0
    · simp only [hi, decide_true, cond_true, Option.some.injEq] at hy; subst hy
      simp only [Ex.den] at hyd
      show (ρ0 ++ es)[i]? = _
      rw [List.getElem?_append_left (by omega)]
      obtain ⟨t, ht⟩ := hρ
      rw [← ht, List.getElem?_append_left (by omega)] at hyd; exact hyd
    · simp only [hi, decide_false, cond_false] at hy
      obtain ⟨d', h1, h2⟩ := hβ _ y hy
      rw [hyd] at h1; cases h1
      show (ρ0 ++ es)[i]? = _
      rw [List.getElem?_append_right (by omega), hn]; exact h2
  refine ⟨by omega, ⟨hs.wr.fit hfit rfl rfl f2 f3, ⟨hs.tr.1, fun t x hx => ?_⟩, hs.df, by simp [Pat.ss, hn, ← f4, hβl]⟩, .rfl, fun i q hi hq => (pickPl_get cx.σ ι i).1 i q (firstN_ok f5 i hi) hq⟩
  obtain ⟨y, h1, h2⟩ := fitSlots_ok f1 t x (ofList_get hx)
  obtain ⟨v, hv, ht⟩ := hs.tr.2 t y h1
  exact ⟨v, fitV_ok hs.wr hfit x y h2 hv, ht⟩
end

/-! a pattern is sought that some states fit (not trusted) -/
structure GG where
  nv : Nat
  memo : List (List Ex × Nat)
  ids : List (List (Option Nat))
def exScope (n0 : Nat) : Ex → Bool
  | .x i => Nat.blt i n0
  | .v _ => true
  | .lit [] => true
  | _ => false
mutual
def eqSV : SV → SV → Bool
  | .c u, .c v => eqV u v
  | .s x, .s y => eqEx x y
  | .d e x, .d e' y => Nat.beq e e' && eqEx x y
  | .sp a, .sp b => eqSL a b
  | .agg a, .agg b => eqSL a b
  | .tup a, .tup b => eqSL a b
  | .fn k a b, .fn k' a' b' => eqFn k k' && eqSL a a' && eqSL b b'
  | .ifc t x, .ifc t' y => Nat.beq t t' && eqSV x y
  | _, _ => false
def eqSL : List SV → List SV → Bool
  | [], [] => true
  | a :: l, b :: m => eqSV a b && eqSL l m
  | _, _ => false
end
mutual
def inScope (n0 : Nat) : SV → Bool
  | .c _ => true
  | .s x => exScope n0 x
  | .d _ x => exScope n0 x
  | .sp a => inScopeL n0 a
  | .agg a => inScopeL n0 a
  | .tup a => inScopeL n0 a
  | .fn _ a b => inScopeL n0 a && inScopeL n0 b
  | .ifc _ x => inScope n0 x
  | _ => false
def inScopeL (n0 : Nat) : List SV → Bool
  | [] => true
  | a :: l => inScope n0 a && inScopeL n0 l
end
def memoEx (n0 : Nat) (xs : List Ex) (g : GG) : Ex × GG :=
  match xs with
  | x :: l => bif exScope n0 x && l.all (eqEx x) then (x, g) else
    let rec look : List (List Ex × Nat) → Option Nat
      | [] => none
      | (ys, v) :: m => bif eqRow xs ys then some v else look m
    match look g.memo with
    | some v => (.x v, g)
    | none => (.x (n0 + g.nv), ⟨g.nv + 1, (xs, n0 + g.nv) :: g.memo, g.ids⟩)
  | [] => (.lit [], g)
def eqOL : List (Option Nat) → List (Option Nat) → Bool
  | [], [] => true
  | none :: l, none :: m => eqOL l m
  | some a :: l, some b :: m => Nat.beq a b && eqOL l m
  | _, _ => false
def memoId (js : List (Option Nat)) (g : GG) : Nat × GG :=
  let rec look : List (List (Option Nat)) → Nat → Option Nat
    | [], _ => none
    | ks :: m, i => bif eqOL js ks then some i else look m (i + 1)
  match look g.ids 0 with
  | some i => (i, g)
  | none => (g.ids.length, ⟨g.nv, g.memo, g.ids ++ [js]⟩)
def allSome {α β : Type} (f : α → Option β) : List α → Option (List β)
  | [] => some []
  | a :: l => (f a).bind fun b => (allSome f l).map fun m => b :: m
def scEx : SV → Option Ex
  | .s x => some x
  | .c v => bif v.oneCell' && !isNil v then some (.v v) else none
  | _ => none
def dtEx (p : SV × SH) : Option (Option TypeId × Ex) :=
  match p.1 with
  | .c v => bif isNil v then some (none, .lit []) else none
  | a => (asData p.2 a).map fun q => (some q.1, q.2)
def idEx : SV → Option (Option Nat)
  | .own i => some (some i)
  | .c v => bif isNil v then some none else none
  | _ => none
def ptEx : SV → Option (Nat × Nat)
  | .ptr i o => some (i, o)
  | _ => none
def agEx : SV → Option (List SV)
  | .agg cs => some cs
  | .c (.agg vs) => some (vs.toList.map .c)
  | _ => none
def tpEx : SV → Option (List SV)
  | .tup cs => some cs
  | .c (.tuple vs) => some (vs.toList.map .c)
  | _ => none
def spEx : SV → Option (List SV)
  | .sp cs => some cs
  | _ => none
def fnEx : SV → Option (Fn × List SV × List SV)
  | .fn k a b => some (k, a, b)
  | .c (.func k a b) => some (k, a.toList.map .c, b.toList.map .c)
  | _ => none
def slEx : SV → Option (Nat × Nat × Nat × Nat)
  | .slc i o s n => some (i, o, s, n)
  | _ => none
def firstSome {α : Type} : List (Option α) → Option α
  | [] => none
  | some a :: _ => some a
  | none :: l => firstSome l
def sameE : List (Option TypeId) → TypeId → Bool
  | [], _ => true
  | none :: l, e => sameE l e
  | some e' :: l, e => Nat.beq e' e && sameE l e
/-- Column by column. -/
def genC (f : List SV → GG → SV × GG) : Nat → List (List SV) → GG → List SV × GG
  | 0, _, g => ([], g)
  | n + 1, css, g =>
    let r := f (css.map fun cs => cs.headD .unk) g
    let r2 := genC f n (css.map List.tail) r.2
    (r.1 :: r2.1, r2.2)
/-- One value for those of several states. -/
def genV (P : Program) (n0 : Nat) (Hs : List SH) : Nat → List SV → GG → SV × GG
  | 0, _, g => (.unk, g)
  | k + 1, as, g => match as with
    | [] => (.unk, g)
    | a :: l =>
      bif inScope n0 a && l.all (eqSV a) then (a, g) else
      match allSome scEx as with
      | some xs => let r := memoEx n0 xs g; (.s r.1, r.2)
      | none =>
      match allSome idEx as with
      | some js => let r := memoId js g; (.own r.1, r.2)
      | none =>
      match allSome dtEx (as.zip Hs) with
      | some ps => match firstSome (ps.map (·.1)) with
        | some e => bif sameE (ps.map (·.1)) e then let r := memoEx n0 (ps.map (·.2)) g; (.d e r.1, r.2) else (.unk, g)
        | none => (.unk, g)
      | none =>
      match allSome ptEx as with
      | some ps => match ps with
        | (_, o) :: _ => bif ps.all fun q => Nat.beq q.2 o then let r := memoId (ps.map fun q => some q.1) g; (.ptr r.1 o, r.2) else (.unk, g)
        | [] => (.unk, g)
      | none =>
      match allSome slEx as with
      | some ps => match ps with
        | (_, o, s, n) :: _ => bif ps.all fun q => Nat.beq q.2.1 o && Nat.beq q.2.2.1 s && Nat.beq q.2.2.2 n then let r := memoId (ps.map fun q => some q.1) g; (.slc r.1 o s n, r.2) else (.unk, g)
        | [] => (.unk, g)
      | none =>
      match allSome agEx as with
      | some css => match css with
        | cs :: _ => bif css.all fun ds => Nat.beq ds.length cs.length then let r := genC (genV P n0 Hs k) cs.length css g; (.agg r.1, r.2) else (.unk, g)
        | [] => (.unk, g)
      | none =>
      match allSome tpEx as with
      | some css => match css with
        | cs :: _ => bif css.all fun ds => Nat.beq ds.length cs.length then let r := genC (genV P n0 Hs k) cs.length css g; (.tup r.1, r.2) else (.unk, g)
        | [] => (.unk, g)
      | none =>
      match allSome spEx as with
      | some css => match css with
        | cs :: _ => bif css.all fun ds => Nat.beq ds.length cs.length then let r := genC (genV P n0 Hs k) cs.length css g; (.sp r.1, r.2) else (.unk, g)
        | [] => (.unk, g)
      | none =>
      match allSome fnEx as with
      | some fs => match fs with
        | (fk, x, y) :: _ => bif fs.all fun q => eqFn q.1 fk && Nat.beq q.2.1.length x.length && Nat.beq q.2.2.length y.length then
            let r := genC (genV P n0 Hs k) x.length (fs.map (·.2.1)) g
            let r2 := genC (genV P n0 Hs k) y.length (fs.map (·.2.2)) r.2
            (.fn fk r.1 r2.1, r2.2) else (.unk, g)
        | [] => (.unk, g)
      | none => (.unk, g)
def genO (P : Program) (n0 : Nat) (Hs : List SH) (js : List (Option Nat)) (g : GG) : SObj × GG :=
  let os : List (Option SObj) := (js.zip Hs).map fun p => match p.1 with
    | none => none
    | some j => p.2[j]?
  match firstSome os with
  | some (.grow e _) =>
    let xs := allSome (fun p : Option Nat × Option SObj => match p.1, p.2 with
      | none, _ => some (Ex.lit [])
      | some _, some (.grow e' x) => bif Nat.beq e' e then some x else none
      | _, _ => none) (js.zip os)
    match xs with
    | some xs => let r := memoEx n0 xs g; (.grow e r.1, r.2)
    | none => (.dead, g)
  | some (.box cs e) =>
    let css := allSome (fun o : Option SObj => match o with
      | some (.box ds e') => bif Nat.beq e' e && Nat.beq ds.length cs.length then some ds else none
      | _ => none) os
    match css with
    | some css => let r := genC (genV P n0 Hs 8) cs.length css g; (.box r.1 e, r.2)
    | none => (.dead, g)
  | _ => (.dead, g)
def genHs (P : Program) (n0 : Nat) (Hs : List SH) : Nat → Nat → GG → SH × GG
  | 0, _, g => ([], g)
  | k + 1, i, g => match g.ids[i]? with
    | none => ([], g)
    | some js => let r := genO P n0 Hs js g; let r2 := genHs P n0 Hs k (i + 1) r.2; (r.1 :: r2.1, r2.2)
def genSlots (P : Program) (n0 : Nat) (Hs : List SH) (sts : List SS) : List Nat → GG → List (Nat × SV) × GG
  | [], g => ([], g)
  | t :: l, g => match allSome (fun s : SS => s.T.get t) sts with
    | none => genSlots P n0 Hs sts l g
    | some as => let r := genV P n0 Hs 8 as g
      let r2 := genSlots P n0 Hs sts l r.2
      match r.1 with
      | .unk => r2
      | a => ((t, a) :: r2.1, r2.2)
def preIds (k : Nat) : Nat → List (List (Option Nat))
  | 0 => []
  | n + 1 => preIds k n ++ [List.replicate k (some n)]
def gen (P : Program) (n0 nh : Nat) (slots : List Nat) (sts : List SS) : Pat :=
  let Hs := sts.map (·.H)
  let r := genSlots P n0 Hs sts slots ⟨0, [], preIds sts.length nh⟩
  let r2 := genHs P n0 Hs 60 0 r.2
  ⟨r.1, r2.1, r2.2.nv⟩
def gathSlots (st : SS) : List (Nat × SV) → GW → GW
  | [], g => g
  | (t, x) :: l, g => match st.T.get t with
    | some a => gathSlots st l (gathV st.H x a g)
    | none => gathSlots st l g
def preW : Nat → List (Nat × Option Nat)
  | 0 => []
  | n + 1 => (n, some n) :: preW n
/-- How a state fits a pattern. -/
def witness (n0 nh : Nat) (p : Pat) (st : SS) : List Ex × List (Option Nat) :=
  let g := gathH st.H p.H 0 (gathSlots st p.sl ⟨[], preW nh⟩)
  (g.exs n0 p.nv, g.ids 0 p.H.length)
end Go.Proofs.YtfphabkdgdgnbaaGreatDoor.SE
set_option linter.unusedVariables false
set_option linter.unusedSimpArgs false
set_option linter.unusedSectionVars false
namespace Go.Proofs.YtfphabkdgdgnbaaGreatDoor.SE
open Go Go.RowKit Go.Proofs.YtfphabkdgdgnbaaGreatDoor.AE
variable [Tb]

/-! which slots are read -/
def opMask : Operand → Nat
  | .tmp t => Nat.shiftLeft 1 t
  | _ => 0
def opsMask : List Operand → Nat
  | [] => 0
  | x :: l => Nat.lor (opMask x) (opsMask l)
def opersMask : List Oper → Nat
  | [] => 0
  | o :: l => Nat.lor (opsMask o.op.operands.toList) (opersMask l)
def readsOf : Code → Nat
  | .region _ ops _ => opersMask ops.toList
  | .seq a b => Nat.lor (readsOf a) (readsOf b)
  | .cond x a b => Nat.lor (opMask x) (Nat.lor (readsOf a) (readsOf b))
  | .block _ c | .loop c | .scope c => readsOf c
  | _ => 0
def bitsOf (m : Nat) : Nat → List Nat
  | 0 => []
  | t + 1 => bif Nat.beq (Nat.land (Nat.shiftRight m t) 1) 1 then t :: bitsOf m t else bitsOf m t

abbrev TX := Tree (AX × SS)
def norms : List (AX × SS) → List SS
  | [] => []
  | (.normal, st) :: l => st :: norms l
  | _ :: l => norms l
def mapNorm (f : SS → Option TX) (q : AX × SS) : Option TX :=
  match q.1 with
  | .normal => f q.2
  | _ => some (.leaf q)
def outNorm (P : Program) (l n0 nh : Nat) (p : Pat) (q : AX × SS) : Option TX :=
  match q.1 with
  | .normal => bif fitSS P n0 nh p (witness n0 nh p q.2).1 (witness n0 nh p q.2).2 q.2 then some (.out l (witness n0 nh p q.2).1) else none
  | _ => some (.leaf q)
def offBlock (id : Nat) (q : AX × SS) : Option TX :=
  match q.1 with
  | .exit j => bif Nat.beq j id then some (.leaf (.normal, q.2)) else some (.leaf q)
  | _ => some (.leaf q)
def joinT (P : Program) (l n0 nh : Nat) (p : Pat) (T : TX) (f : SS → Option TX) : Option TX :=
  bif T.avoids l then (T.bindM (outNorm P l n0 nh p)).bind fun T1 => (f (p.ss n0)).map fun R => .join l T1 R else none
def hasSlot (t : Nat) : List (Nat × SV) → Bool
  | [] => false
  | (u, _) :: l => bif Nat.beq u t then true else hasSlot t l
def knownIn (t : Nat) : List SS → Bool
  | [] => true
  | s :: l => match s.T.get t with
    | none => false
    | some .unk => false
    | some (.c (.tuple _)) => false
    | some _ => knownIn t l
/-- Nothing that is known in all is lost. -/
def keptAll (sl : List (Nat × SV)) (sts : List SS) : List Nat → Bool
  | [] => true
  | t :: l => (!knownIn t sts || hasSlot t sl) && keptAll sl sts l
def seqT (P : Program) (l n0 nh : Nat) (slots : List Nat) (T : TX) (f : SS → Option TX) : Option TX :=
  match norms T.leaves with
  | [] => T.bindM (mapNorm f)
  | [_] => T.bindM (mapNorm f)
  | sts => match bif keptAll (gen P n0 nh slots sts).sl sts slots then joinT P l n0 nh (gen P n0 nh slots sts) T f else none with
    | some r => some r
    | none => T.bindM (mapNorm f)
def findPat (P : Program) (n0 nh : Nat) (slots : List Nat) (st : SS) (body : SS → Option TX) : Nat → Pat → Option (Pat × TX)
  | 0, _ => none
  | m + 1, p => match body (p.ss n0) with
    | none => none
    | some T => bif (norms T.leaves).all (fun s => fitSS P n0 nh p (witness n0 nh p s).1 (witness n0 nh p s).2 s) then some (p, T) else findPat P n0 nh slots st body m (gen P n0 nh slots (st :: norms T.leaves))
def loopT (P : Program) (l n0 nh : Nat) (slots : List Nat) (st : SS) (body : SS → Option TX) : Option TX :=
  (findPat P n0 nh slots st body 5 (gen P n0 nh slots [st])).bind fun pT =>
    bif fitSS P n0 nh pT.1 (witness n0 nh pT.1 st).1 (witness n0 nh pT.1 st).2 st && pT.2.avoids l then
      (pT.2.bindM (outNorm P l n0 nh pT.1)).map fun B => .loop l (witness n0 nh pT.1 st).1 B
    else none
/-- What a piece of code comes to. -/
def se (P : Program) (sg : List Sig) (nt nh : Nat) (draw : Array Oper → SS → Option (Tree SS)) : Nat → Nat → Code → SS → Option TX
  | 0, _, _, _ => none
  | k + 1, live, c, st => match c with
    | .skip | .label _ => some (.leaf (.normal, st))
    | .seq a b => (se P sg nt nh draw k (Nat.lor (readsOf b) live) a st).bind fun T => seqT P k st.n nh (bitsOf (Nat.lor (readsOf b) live) nt) T (se P sg nt nh draw k live b)
    | .cond x a b => match ev st.T x with
      | some (.c (.bool true)) => se P sg nt nh draw k live a st
      | some (.c (.bool false)) => se P sg nt nh draw k live b st
      | some (.s y) => match x with
        | .tmp t => (setB nt t true st).bind fun s1 => (setB nt t false st).bind fun s2 => (se P sg nt nh draw k live a s1).bind fun A => (se P sg nt nh draw k live b s2).map fun B => .ite y A B
        | _ => some .fail
      | _ => some .fail
    | .block id c => (se P sg nt nh draw k live c st).bind fun T => T.bindM (offBlock id)
    | .loop c => loopT P k st.n nh (bitsOf (Nat.lor (readsOf c) live) nt) st (se P sg nt nh draw k (Nat.lor (readsOf c) live) c)
    | .exit id => some (.leaf (.exit id, st))
    | .ret => some (.leaf (.ret, st))
    | .scope c => se P sg nt nh draw k live c st
    | .region _ ops d => match d with
      | true => (draw ops st).bind fun T => T.bindM fun s => some (.leaf (.normal, s))
      | false => (seOps P sg nt ops (List.range ops.size) st).bind fun T => T.bindM fun s => some (.leaf (.normal, s))
    | _ => some .fail

section
variable {P : Program} {orc : Nat → List D → Option (List D)} {kk : Nat} {sg : List Sig} {M0 : Mem} {w0 : World} {S : Nat → Prop} {ds : List Deferred} {nt nh : Nat}
/-- Where a run ends. -/
def Fin (P : Program) (M0 : Mem) (w0 : World) (S : Nat → Prop) (ds : List Deferred) (nt nh : Nat) (cx : Cx) (o : Out (AX × SS)) (e : Exit) (a' : Act) (w' : World) : Prop :=
  ∃ x st' cx', o = .leaf (x, st') cx'.ρ ∧ XR e x ∧ Kps nh cx cx' ∧ SR P M0 w0 S ds cx' nt st' a' w'
def SeOK (P : Program) (orc : Nat → List D → Option (List D)) (kk : Nat) (M0 : Mem) (w0 : World) (S : Nat → Prop) (ds : List Deferred) (nt nh : Nat) (c : Code) (st : SS) (T : TX) : Prop :=
  Closed P orc kk T ∧ ∀ cx a w o, SR P M0 w0 S ds cx nt st a w → T.den P orc kk cx.ρ = some o → c.wp P (Fin P M0 w0 S ds nt nh cx o) a w
theorem Fin.keep {cx cx' : Cx} {o : Out (AX × SS)} {e : Exit} {a : Act} {w : World} (h : Kps nh cx cx') (k : Fin P M0 w0 S ds nt nh cx' o e a w) : Fin P M0 w0 S ds nt nh cx o e a w :=
  let ⟨x, st', cx2, h1, h2, h3, h4⟩ := k; ⟨x, st', cx2, h1, h2, h.trans h3, h4⟩
theorem XR_normal {x : AX} (h : XR .normal x) : x = .normal := by cases x <;> first | rfl | exact h.elim
theorem XR_of_normal {e : Exit} (h : XR e .normal) : e = .normal := by cases e <;> first | rfl | exact h.elim
/-- Code behind code, each leaf followed by its own. -/
theorem graft_ok {c1 c2 : Code} {st : SS} {T T' : TX} {f : SS → Option TX} (hT : SeOK P orc kk M0 w0 S ds nt nh c1 st T) (hf : ∀ s t, f s = some t → SeOK P orc kk M0 w0 S ds nt nh c2 s t) (h : T.bindM (mapNorm f) = some T') : SeOK P orc kk M0 w0 S ds nt nh (.seq c1 c2) st T' := by
  have hcl : ∀ q t, mapNorm f q = some t → Closed P orc kk t := fun q t hq => by
    unfold mapNorm at hq
    split at hq
    · exact (hf _ _ hq).1
    · simp only [Option.some.injEq] at hq; subst hq; exact closed_leaf _
  refine ⟨closed_bindM h hT.1 hcl, fun cx a w o hs hd => ?_⟩
  rw [den_bindM T h (fun q t ρ l es h1 h2 => absurd h2 (hcl q t h1 ρ l es)) cx.ρ] at hd
  cases hTd : T.den P orc kk cx.ρ with
  | none => rw [hTd] at hd; cases hd
  | some o1 =>
    rw [hTd] at hd
    cases o1 with
    | out l es => exact absurd hTd (hT.1 _ _ _)
    | leaf q ρ1 =>
      simp only [thenD] at hd
      refine wp_seq (wp_mono (hT.2 cx a w _ hs hTd) ?_)
      rintro e a' w' ⟨x, st', cx', h1, h2, h3, h4⟩
      simp only [Out.leaf.injEq] at h1
      obtain ⟨rfl, rfl⟩ := h1
      cases hq : mapNorm f (x, st') with
      | none => rw [hq] at hd; cases hd
      | some t =>
        rw [hq] at hd
        simp only at hd
        cases x with
        | normal =>
          have := XR_of_normal h2
          subst this
          exact wp_mono ((hf st' t hq).2 cx' a' w' o h4 hd) fun e a w hh => hh.keep h3
        | exit id =>
          simp only [mapNorm, Option.some.injEq] at hq; subst hq
          simp only [Tree.den, Option.some.injEq] at hd; subst hd
          cases e with
          | exit j => exact ⟨_, st', cx', rfl, h2, h3, h4⟩
          | _ => exact h2.elim
        | ret =>
          simp only [mapNorm, Option.some.injEq] at hq; subst hq
          simp only [Tree.den, Option.some.injEq] at hd; subst hd
          cases e with
          | ret => exact ⟨_, st', cx', rfl, h2, h3, h4⟩
          | _ => exact h2.elim
/-- A leaf that falls into a pattern. -/
theorem outNorm_den {l n0 : Nat} {p : Pat} {q : AX × SS} {t : TX} (h : outNorm P l n0 nh p q = some t) : (q.1 = .normal ∧ ∃ β ι, fitSS P n0 nh p β ι q.2 = true ∧ t = .out l β) ∨ (q.1 ≠ .normal ∧ t = .leaf q) := by
  unfold outNorm at h
  split at h
  · rename_i hq
    cases hf : fitSS P n0 nh p (witness n0 nh p q.2).1 (witness n0 nh p q.2).2 q.2 with
    | false => simp [hf] at h
    | true =>
      simp only [hf, cond_true, Option.some.injEq] at h
      exact .inl ⟨hq, _, _, hf, h.symm⟩
  · rename_i hq
    simp only [Option.some.injEq] at h
    exact .inr ⟨hq, h.symm⟩
theorem outNorm_avoid {l n0 : Nat} {p : Pat} {T : TX} (ha : T.avoids l = true) : ∀ q t ρ l' es, outNorm P l n0 nh p q = some t → t.den P orc kk ρ = some (.out l' es) → T.avoids l' = true := by
  intro q t ρ l' es h hd
  rcases outNorm_den h with ⟨_, β, ι, _, rfl⟩ | ⟨_, rfl⟩
  · simp only [Tree.den, Option.map_eq_some_iff] at hd
    obtain ⟨x, _, e⟩ := hd
    cases e; exact ha
  · simp [Tree.den] at hd
/-- Code behind code, the ways met in one. -/
theorem join_ok {c1 c2 : Code} {st : SS} {T T' : TX} {f : SS → Option TX} {l n0 : Nat} {p : Pat} (hn0 : n0 = st.n) (hT : SeOK P orc kk M0 w0 S ds nt nh c1 st T) (hf : ∀ s t, f s = some t → SeOK P orc kk M0 w0 S ds nt nh c2 s t) (h : joinT P l n0 nh p T f = some T') : SeOK P orc kk M0 w0 S ds nt nh (.seq c1 c2) st T' := by
  unfold joinT at h
  cases hav : T.avoids l with
  | false => simp [hav] at h
  | true =>
    simp only [hav, cond_true, Option.bind_eq_some_iff, Option.map_eq_some_iff] at h
    obtain ⟨T1, hT1, R, hR, rfl⟩ := h
    have hden := den_bindM (P := P) (orc := orc) (k := kk) T hT1 (outNorm_avoid hav)
    have hfR := hf _ _ hR
    have shape : ∀ ρ, T1.den P orc kk ρ = none ∨ (∃ x s ρ1, T.den P orc kk ρ = some (.leaf (x, s) ρ1) ∧ x ≠ .normal ∧ T1.den P orc kk ρ = some (.leaf (x, s) ρ1)) ∨ ∃ s ρ1 β ι es, T.den P orc kk ρ = some (.leaf (.normal, s) ρ1) ∧ fitSS P n0 nh p β ι s = true ∧ denRow ρ1 β = some es ∧ T1.den P orc kk ρ = some (.out l es) := by
      intro ρ
      rw [hden ρ]
      cases hTd : T.den P orc kk ρ with
      | none => exact .inl rfl
      | some o1 =>
        cases o1 with
        | out l' es => exact absurd hTd (hT.1 _ _ _)
        | leaf q ρ1 =>
          obtain ⟨x, s⟩ := q
          simp only [thenD]
          cases hq : outNorm P l n0 nh p (x, s) with
          | none => exact .inl rfl
          | some t =>
            rcases outNorm_den hq with ⟨h1, β, ι, h2, rfl⟩ | ⟨h1, rfl⟩
            · simp only at h1; subst h1
              simp only [Tree.den]
              cases hb : denRow ρ1 β with
              | none => exact .inl rfl
              | some es => exact .inr (.inr ⟨s, ρ1, β, ι, es, rfl, h2, hb, rfl⟩)
            · exact .inr (.inl ⟨x, s, ρ1, rfl, h1, rfl⟩)
    refine ⟨fun ρ l' es hd => ?_, fun cx a w o hs hd => ?_⟩
    · simp only [Tree.den] at hd
      rcases shape ρ with h1 | ⟨x, s, ρ1, _, _, h1⟩ | ⟨s, ρ1, β, ι, es', _, _, _, h1⟩
      · rw [h1] at hd; cases hd
      · rw [h1] at hd; cases hd
      · rw [h1] at hd
        simp only [Nat.beq_refl, cond_true] at hd
        exact hfR.1 _ _ _ hd
    · simp only [Tree.den] at hd
      rcases shape cx.ρ with h1 | ⟨x, s, ρ1, h0, hx, h1⟩ | ⟨s, ρ1, β, ι, es, h0, h2, h3, h1⟩
      · rw [h1] at hd; cases hd
      · rw [h1] at hd
        simp only [Option.some.injEq] at hd; subst hd
        refine wp_seq (wp_mono (hT.2 cx a w _ hs h0) ?_)
        rintro e a' w' ⟨x', st', cx', g1, g2, g3, g4⟩
        simp only [Out.leaf.injEq, Prod.mk.injEq] at g1
        obtain ⟨⟨rfl, rfl⟩, rfl⟩ := g1
        cases e with
        | normal => exact absurd (XR_normal g2) hx
        | exit j => exact ⟨x, s, cx', rfl, g2, g3, g4⟩
        | ret => exact ⟨x, s, cx', rfl, g2, g3, g4⟩
        | _ => cases x <;> exact g2.elim
      · rw [h1] at hd
        simp only [Nat.beq_refl, cond_true] at hd
        refine wp_seq (wp_mono (hT.2 cx a w _ hs h0) ?_)
        rintro e a' w' ⟨x', st', cx', g1, g2, g3, g4⟩
        simp only [Out.leaf.injEq, Prod.mk.injEq] at g1
        obtain ⟨⟨rfl, rfl⟩, rfl⟩ := g1
        have := XR_of_normal g2
        subst this
        have hpre := den_ext T h0
        obtain ⟨k1, k2, k3⟩ := fitSS_ok h2 g4 hpre (by rw [hs.n, hn0]) h3
        exact wp_mono (hfR.2 _ a' w' o k2 hd) fun e a w hh => hh.keep (g3.trans k3)
theorem findPat_ok {n0 : Nat} {slots : List Nat} {st : SS} {body : SS → Option TX} : ∀ {m : Nat} {p p' : Pat} {T : TX}, findPat P n0 nh slots st body m p = some (p', T) → body (p'.ss n0) = some T
  | 0, p, p', T, h => by cases h
  | m + 1, p, p', T, h => by
    simp only [findPat] at h
    split at h
    · cases h
    · rename_i T1 hb
      cases hc : (norms T1.leaves).all (fun s => fitSS P n0 nh p (witness n0 nh p s).1 (witness n0 nh p s).2 s) with
      | true =>
        simp only [hc, cond_true, Option.some.injEq, Prod.mk.injEq] at h
        obtain ⟨rfl, rfl⟩ := h; exact hb
      | false => simp only [hc, cond_false] at h; exact findPat_ok h
/-- A loop. -/
theorem loop_ok {c : Code} {st : SS} {T' : TX} {body : SS → Option TX} {l n0 : Nat} {slots : List Nat} (hn0 : n0 = st.n) (hb : ∀ s t, body s = some t → SeOK P orc kk M0 w0 S ds nt nh c s t) (h : loopT P l n0 nh slots st body = some T') : SeOK P orc kk M0 w0 S ds nt nh (.loop c) st T' := by
  simp only [loopT, Option.bind_eq_some_iff] at h
  obtain ⟨⟨p, T⟩, hp, h⟩ := h
  have hbody := findPat_ok hp
  simp only at h
  cases hc : (fitSS P n0 nh p (witness n0 nh p st).1 (witness n0 nh p st).2 st && T.avoids l) with
  | false => simp [hc] at h
  | true =>
    simp only [hc, cond_true, Option.map_eq_some_iff] at h
    obtain ⟨B, hB, rfl⟩ := h
    simp only [Bool.and_eq_true] at hc
    have hT := hb _ _ hbody
    have hden := den_bindM (P := P) (orc := orc) (k := kk) T hB (outNorm_avoid hc.2)
    have shape : ∀ ρ, B.den P orc kk ρ = none ∨ (∃ x s ρ1, T.den P orc kk ρ = some (.leaf (x, s) ρ1) ∧ x ≠ .normal ∧ B.den P orc kk ρ = some (.leaf (x, s) ρ1)) ∨ ∃ s ρ1 β ι es, T.den P orc kk ρ = some (.leaf (.normal, s) ρ1) ∧ fitSS P n0 nh p β ι s = true ∧ denRow ρ1 β = some es ∧ B.den P orc kk ρ = some (.out l es) := by
      intro ρ
      rw [hden ρ]
      cases hTd : T.den P orc kk ρ with
      | none => exact .inl rfl
      | some o1 =>
        cases o1 with
        | out l' es => exact absurd hTd (hT.1 _ _ _)
        | leaf q ρ1 =>
          obtain ⟨x, s⟩ := q
          simp only [thenD]
          cases hq : outNorm P l n0 nh p (x, s) with
          | none => exact .inl rfl
          | some t =>
            rcases outNorm_den hq with ⟨h1, β, ι, h2, rfl⟩ | ⟨h1, rfl⟩
            · simp only at h1; subst h1
              simp only [Tree.den]
              cases hb : denRow ρ1 β with
              | none => exact .inl rfl
              | some es => exact .inr (.inr ⟨s, ρ1, β, ι, es, rfl, h2, hb, rfl⟩)
            · exact .inr (.inl ⟨x, s, ρ1, rfl, h1, rfl⟩)
    refine ⟨fun ρ l' es hd => ?_, fun cx a w o hs hd => ?_⟩
    · simp only [Tree.den, Option.bind_eq_some_iff] at hd
      obtain ⟨es0, _, hd⟩ := hd
      have : ∀ (m : Nat) (es0 : List D), iterD (fun ds => B.den P orc kk (ρ ++ ds)) l m es0 ≠ some (.out l' es) := by
        intro m
        induction m with
        | zero => intro es0 h; cases h
        | succ m ih =>
          intro es0 h
          simp only [iterD] at h
          rcases shape (ρ ++ es0) with h1 | ⟨x, s, ρ1, _, _, h1⟩ | ⟨s, ρ1, β, ι, es', _, _, _, h1⟩
          · rw [h1] at h; cases h
          · rw [h1] at h; cases h
          · rw [h1] at h
            simp only [Nat.beq_refl, cond_true] at h
            exact ih _ h
      exact this _ _ hd
    · simp only [Tree.den, Option.bind_eq_some_iff] at hd
      obtain ⟨es0, hes0, hd⟩ := hd
      obtain ⟨k1, k2, k3⟩ := fitSS_ok hc.1 hs List.prefix_rfl (by rw [hs.n, hn0]) hes0
      have main : ∀ (m : Nat) (es : List D) (c1 : Cx) (a : Act) (w : World), c1.ρ = cx.ρ ++ es → Kps nh cx c1 → SR P M0 w0 S ds c1 nt (p.ss n0) a w → iterD (fun ds => B.den P orc kk (cx.ρ ++ ds)) l m es = some o → Code.rounds P c (Fin P M0 w0 S ds nt nh cx o) m a w := by
        intro m
        induction m with
        | zero => intro es c1 a w _ _ _ h; cases h
        | succ m ih =>
          intro es c1 a w hρ hk hs1 h
          simp only [iterD] at h
          rw [rounds_succ]
          rcases shape (cx.ρ ++ es) with h1 | ⟨x, s, ρ1, h0, hx, h1⟩ | ⟨s, ρ1, β, ι, es', h0, h2, h3, h1⟩
          · rw [h1] at h; cases h
          · rw [h1] at h
            simp only [Option.some.injEq] at h; subst h
            refine wp_mono (hT.2 c1 a w _ hs1 (by rw [hρ]; exact h0)) ?_
            rintro e a' w' ⟨x', st', cx', g1, g2, g3, g4⟩
            simp only [Out.leaf.injEq, Prod.mk.injEq] at g1
            obtain ⟨⟨rfl, rfl⟩, rfl⟩ := g1
            cases e with
            | normal => exact absurd (XR_normal g2) hx
            | exit j => exact ⟨x, s, cx', rfl, g2, hk.trans g3, g4⟩
            | ret => exact ⟨x, s, cx', rfl, g2, hk.trans g3, g4⟩
            | _ => cases x <;> exact g2.elim
          · rw [h1] at h
            simp only [Nat.beq_refl, cond_true] at h
            refine wp_mono (hT.2 c1 a w _ hs1 (by rw [hρ]; exact h0)) ?_
            rintro e a' w' ⟨x', st', cx', g1, g2, g3, g4⟩
            simp only [Out.leaf.injEq, Prod.mk.injEq] at g1
            obtain ⟨⟨rfl, rfl⟩, rfl⟩ := g1
            have := XR_of_normal g2
            subst this
            have hpre : cx.ρ <+: cx'.ρ := (List.prefix_append _ _).trans (den_ext T h0)
            obtain ⟨q1, q2, q3⟩ := fitSS_ok h2 g4 hpre (by rw [hs.n, hn0]) h3
            exact ih es' _ a' w' rfl ((hk.trans g3).trans q3) q2 h
      exact wp_loop_rounds kk (main kk es0 _ a w rfl k3 k2 hd)
end
end Go.Proofs.YtfphabkdgdgnbaaGreatDoor.SE
