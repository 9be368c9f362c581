import Derived.Test.YtfphabkdgdgnbaaGreatDoorSEb
set_option linter.unusedVariables false
set_option linter.unusedSimpArgs false
set_option linter.unusedSectionVars false
namespace Go.Proofs.YtfphabkdgdgnbaaGreatDoor.SE
open Go Go.RowKit Go.Proofs.YtfphabkdgdgnbaaGreatDoor.AE
variable [Tb]

section
variable {P : Program} {orc : Nat → List D → Option (List D)} {M0 : Mem} {w0 : World} {S : Nat → Prop} {cx : Cx} {H : SH} {w : World}

/-- What becomes of the world where something is done. -/
def Acts (P : Program) (M0 : Mem) (w0 : World) (S : Nat → Prop) (cx : Cx) (H : SH) (w : World) (touched : List Nat) (H' : SH) (a : Option SV) (v : Value) (w' : World) : Prop :=
  ∃ cx', cx.le cx' ∧ cx'.ρ = cx.ρ ∧ WR P M0 w0 S cx' H' w' ∧ (match a with | some x => x.R P cx' v | none => v = undef) ∧
    ∀ (i : Nat) (o : SObj) (p : Pl) (b : Nat), i ∉ touched → H[i]? = some o → o.live = true → cx.σ[i]? = some p → p.blk = some b → w'.heap[b]? = w.heap[b]?

/-- The world with one block more. -/
theorem Kp.alloc (h : Kp S w0 w) (o : Obj) : Kp S w0 (w.alloc o) :=
  ⟨h.os, h.tape, h.output, by have := h.size; simp; omega, fun k hk hs => by
    rw [← h.block k hk hs]; exact Below.heap_alloc w o k (Nat.lt_of_lt_of_le hk h.size)⟩
theorem heap_alloc_old {b : Nat} (o : Obj) (hb : b < w.heap.size) : (w.alloc o).heap[b]? = w.heap[b]? := Below.heap_alloc w o b hb
theorem heap_alloc_new (o : Obj) : (w.alloc o).heap[w.heap.size]? = some o := by
  show (w.heap.push o)[w.heap.size]? = _
  simp
theorem heap_alloc_out {b : Nat} (o : Obj) (hb : w.heap.size < b) : (w.alloc o).heap[b]? = none := by
  show (w.heap.push o)[b]? = _
  rw [Array.getElem?_push, if_neg (by omega), Array.getElem?_eq_none (by omega)]
theorem last_pl (h : WR P M0 w0 S cx H w) (p : Pl) : (cx.σ ++ [p])[H.length]? = some p := by rw [← h.len]; simp
theorem blk_lt (h : WR P M0 w0 S cx H w) {i : Nat} {o : SObj} {p : Pl} {b : Nat} (ho : H[i]? = some o) (hl : o.live = true) (hp : cx.σ[i]? = some p) (hb : p.blk = some b) : b < w.heap.size :=
  ((h.obj i o p ho hp).base hl hb).2
/-- A new box. -/
theorem newBox (h : WR P M0 w0 S cx H w) {cs : List SV} {l : List Value} (e : TypeId) (hl : RL P cx cs l) :
    Acts P M0 w0 S cx H w [] (H ++ [.box cs e]) (some (.ptr H.length 0)) (.pointer (some ⟨w.heap.size, 0, none⟩)) (w.alloc (.cells l.toArray e)) := by
  have := h.add (w' := w.alloc (.cells l.toArray e)) (M' := cx.M) (p := ⟨some w.heap.size, undef⟩) (o := .box cs e) (h.keep.alloc _) (by simp) (fun b hb => heap_alloc_old _ hb) (fun _ _ => rfl)
    (fun b x v hb hv => absurd (mem_lt h hv) (by omega)) (fun b hb => by cases hb; exact Nat.le_refl _) fun c' hρ hσ hM le => ⟨w.heap.size, l.toArray, rfl, .inr h.keep.size, heap_alloc_new _, by simpa using RL_mono le cs hl, fun o => by
      rw [hM]
      cases hx : cx.M w.heap.size o with
      | none => rfl
      | some v => exact absurd (mem_lt h hx) (by omega)⟩
  exact ⟨_, this.2, rfl, this.1, ⟨_, _, last_pl h _, rfl, rfl⟩, fun i o p b _ ho hl hp hb => heap_alloc_old _ (blk_lt h ho hl hp hb)⟩

abbrev AS' := Option (Pr × Nat) × List Nat × (Nat → Option SV × SH)
def sAlloc (P : Program) (elem : TypeId) (H : SH) : Option AS' :=
  (pureRun P (zeroValue elem)).map fun z => (none, [], fun _ => (some (.ptr H.length 0), H ++ [.box (z.cells.toList.map .c) elem]))
theorem alloc_ok (h : WR P M0 w0 S cx H w) {elem : TypeId} {st : AS'} {base : Nat} (hr : sAlloc P elem H = some st) :
    ∃ v w', (Instr.alloc elem true (.tuple #[])).run P w = .ok v w' ∧ Acts P M0 w0 S cx H w st.2.1 (st.2.2 base).2 (st.2.2 base).1 v w' := by
  simp only [sAlloc, Option.map_eq_some_iff] at hr
  obtain ⟨z, hz, rfl⟩ := hr
  have hz' := pureRun_run hz
  exact ⟨.pointer (some ⟨w.heap.size, 0, none⟩), w.alloc (.cells z.cells.toList.toArray elem), by simp [Instr.alloc, hz', newVar, newRow], newBox h elem (RL_c _)⟩
def sBox (elem : TypeId) (a : SV) (H : SH) : Option AS' :=
  a.cells.map fun cs => (none, [], fun _ => (some (.ptr H.length 0), H ++ [.box cs elem]))
theorem box_ok (h : WR P M0 w0 S cx H w) {elem : TypeId} {a : SV} {v : Value} {st : AS'} {base : Nat} (ha : a.R P cx v) (hr : sBox elem a H = some st) :
    ∃ u w', (Instr.box elem v).run P w = .ok u w' ∧ Acts P M0 w0 S cx H w st.2.1 (st.2.2 base).2 (st.2.2 base).1 u w' := by
  simp only [sBox, Option.map_eq_some_iff] at hr
  obtain ⟨cs, hcs, rfl⟩ := hr
  exact ⟨.pointer (some ⟨w.heap.size, 0, none⟩), w.alloc (.cells v.cells.toList.toArray elem), by simp [Instr.box, newVar, newRow], newBox h elem (cells_R ha hcs)⟩

/-- Cells of one value each. -/
theorem cells_one {a : SV} {v : Value} {cs : List SV} (h : RL P cx cs v.cells.toList) (ho : ∀ c ∈ cs, ∀ x, c = .c x → x.oneCell' = true) (hn : ∀ c ∈ cs, ∀ l, c ≠ .agg l ∧ c ≠ .tup l ∧ c ≠ .unk) : ∀ u ∈ v.cells.toList, u.oneCell' = true := by
  intro u hu
  obtain ⟨i, hi⟩ := List.mem_iff_getElem?.1 hu
  have hil : i < cs.length := by have := RL_len h; have := get_lt hi; omega
  obtain ⟨u', h1, h2⟩ := RL_get h (List.getElem?_eq_getElem hil)
  rw [hi] at h1; cases h1
  have hm : cs[i] ∈ cs := List.getElem_mem hil
  generalize cs[i] = c at h2 hm
  cases c with
  | c x => simp only [SV.R] at h2; subst h2; exact ho _ hm u rfl
  | s x => exact h2.2
  | d e x =>
    simp only [SV.R] at h2
    obtain ⟨d, _, hd⟩ := h2
    cases d with
    | v u => simp only [D.Rd] at hd; cases hd.1
    | l rows => simp only [D.Rd] at hd; obtain ⟨_, _, _, _, _, _, _, rfl, _⟩ := hd; rfl
  | own id => simp only [SV.R] at h2; exact h2.choose_spec.2.2
  | slc id off size len => simp only [SV.R] at h2; obtain ⟨p, b, cap, _, _, rfl, _⟩ := h2; rfl
  | ptr id off => simp only [SV.R] at h2; obtain ⟨p, b, _, _, rfl⟩ := h2; rfl
  | sp cs' => simp only [SV.R] at h2; obtain ⟨b, o, rfl, _⟩ := h2; rfl
  | agg l => exact absurd rfl (hn _ hm l).1
  | tup l => exact absurd rfl (hn _ hm l).2.1
  | fn f a b => simp only [SV.R] at h2; obtain ⟨l, m, _, _, rfl⟩ := h2; rfl
  | ifc t x => simp only [SV.R] at h2; obtain ⟨u, _, rfl⟩ := h2; rfl
  | unk => exact absurd rfl (hn _ hm []).2.2
def SV.one : SV → Bool
  | .c x => x.oneCell'
  | .agg _ | .tup _ | .unk => false
  | _ => true
def sStore (P : Program) (t : TypeId) (addr val : SV) (H : SH) : Option AS' :=
  (pureRun P (sizeOf t)).bind fun n => match addr with
    | .ptr id off => match H[id]? with
      | some (.box cs e) => val.cells.bind fun vs =>
        bif Nat.beq vs.length n && Nat.ble (off + vs.length) cs.length && vs.all SV.one then
          some (none, [id], fun _ => (none, H.set id (.box (cs.take off ++ vs ++ cs.drop (off + vs.length)) e))) else none
      | _ => none
    | _ => none
theorem store_ok (h : WR P M0 w0 S cx H w) {t : TypeId} {addr val : SV} {x y : Value} {st : AS'} {base : Nat} (hx : addr.R P cx x) (hy : val.R P cx y) (hr : sStore P t addr val H = some st) :
    ∃ w', (Instr.storeAt t x y).run P w = .ok () w' ∧ Acts P M0 w0 S cx H w st.2.1 (st.2.2 base).2 (st.2.2 base).1 undef w' := by
  simp only [sStore, Option.bind_eq_some_iff] at hr
  obtain ⟨n, hn, hr⟩ := hr
  split at hr
  · rename_i id off
    simp only [SV.R] at hx
    obtain ⟨p, b, hp, hpb, rfl⟩ := hx
    split at hr
    · rename_i cs e ho
      simp only [Option.bind_eq_some_iff] at hr
      obtain ⟨vs, hvs, hr⟩ := hr
      cases hc : (Nat.beq vs.length n && Nat.ble (off + vs.length) cs.length && vs.all SV.one) with
      | false => simp [hc] at hr
      | true =>
        simp only [hc, cond_true, Option.some.injEq] at hr; subst hr
        simp only [Bool.and_eq_true] at hc
        have hcl := cells_R hy hvs
        have hl := RL_len hcl
        have hle := Nat.le_of_ble_eq_true hc.1.2
        obtain ⟨b', c, h1, h2, h3, h4, h5⟩ := h.obj id _ p ho hp
        rw [hpb] at h1; cases h1
        have hcs := RL_len h4
        have hone : ∀ u ∈ y.cells.toList, u.oneCell' = true := by
          refine cells_one (a := val) hcl (fun a ha x e => ?_) (fun a ha l => ?_)
          · have := List.all_eq_true.1 hc.2 a ha; subst e; exact this
          · have := List.all_eq_true.1 hc.2 a ha
            refine ⟨fun e => ?_, fun e => ?_, fun e => ?_⟩ <;> (subst e; simp [SV.one] at this)
        have hrun := run_storeCells_at (P := P) b off e y.cells.toList 0 c w h3 (by simp at hcs hl ⊢; omega) hone
        have hN : ∃ N : Array Value, (storeCells ⟨b, off, none⟩ y.cells.toList).run P w = .ok () (w.setRow b N) ∧ RL P cx (cs.take off ++ vs ++ cs.drop (off + vs.length)) N.toList := by
          refine ⟨_, hrun, ?_⟩
          simp only [Nat.add_zero, Array.length_toList]
          have hl' : y.cells.size = vs.length := by simpa using hl
          rw [hl']
          exact RL_append (RL_append (RL_take h4 off) hcl) (RL_drop h4 _)
        obtain ⟨N, hN1, hN2⟩ := hN
        have hrow : (w.setRow b N).heap[b]? = some (.cells N e (0, 0)) := setRow_heap w b c N e (0, 0) h3
        have hoth : ∀ k, k ≠ b → (w.setRow b N).heap[k]? = w.heap[k]? := fun k hk => setRow_other _ _ _ _ (by omega)
        have hW := h.write (w' := w.setRow b N) (o' := .box (cs.take off ++ vs ++ cs.drop (off + vs.length)) e) ho rfl hp hpb rfl rfl rfl (by simp [World.setRow]) hoth (fun o v hv => by rw [h5] at hv; cases hv) ⟨b, N, hpb, h2, hrow, hN2, h5⟩
        refine ⟨w.setRow b N, ?_, cx, .rfl, rfl, hW, rfl, fun i o q b' hi hio hlo hq hqb => hoth _ ?_⟩
        · have hne : ¬ (y.cells.size ≠ n) := by
            have := Nat.eq_of_beq_eq_true hc.1.1
            simp at hl; omega
          simp only [Instr.storeAt, Instr.sureAddr, Sem.run_bind, Sem.run_pure, Result.andThen_ok, storeVar, pureRun_run hn w, hne, if_false, hN1]
        · intro e'
          subst e'
          exact hi (by simp [h.inj i id o _ q p b' hio ho hq hp hlo rfl hqb hpb])
    · cases hr
  · cases hr

/-- An object in whose block more was written: it is another one now. -/
theorem WR.regrow (h : WR P M0 w0 S cx H w) {id : Nat} {o o' : SObj} {p p' : Pl} {b : Nat} {w' : World} {M' : Mem} (ho : H[id]? = some o) (hl : o.live = true) (hp : cx.σ[id]? = some p) (hb : p.blk = some b) (hb' : p'.blk = some b)
    (hos : w'.os = w.os) (htape : w'.tape = w.tape) (hout : w'.output = w.output) (hsize : w'.heap.size = w.heap.size)
    (hother : ∀ k, k ≠ b → w'.heap[k]? = w.heap[k]?) (hle : cx.M.le M') (hM' : ∀ k, k ≠ b → M' k = cx.M k) (hM : ∀ x v, M' b x = some v → w'.cell? ⟨b, x, none⟩ = some v)
    (hO : ∀ c' : Cx, cx.le c' → c'.ρ = cx.ρ → c'.M = M' → ObjR P w0 S c' w' p' o') : WR P M0 w0 S ⟨cx.ρ, cx.σ ++ [p'], M'⟩ (H.set id .dead ++ [o']) w' ∧ cx.le ⟨cx.ρ, cx.σ ++ [p'], M'⟩ := by
  have le : cx.le ⟨cx.ρ, cx.σ ++ [p'], M'⟩ := ⟨List.prefix_rfl, List.prefix_append _ _, hle⟩
  have hbase := (h.obj id o p ho hp).base hl hb
  have hid := get_lt ho
  have hk := h.kill id
  have hlen : (H.set id .dead).length = H.length := by simp
  have old : ∀ {i : Nat} {x : SObj}, (H.set id .dead ++ [o'])[i]? = some x → (i = H.length ∧ x = o') ∨ (i < H.length ∧ (H.set id .dead)[i]? = some x) := fun {i} {x} hx => by
    rcases Nat.lt_or_ge i H.length with hi | hi
    · exact .inr ⟨hi, by rwa [List.getElem?_append_left (by rw [hlen]; exact hi)] at hx⟩
    · have : i = H.length := by have := get_lt hx; simp at this; omega
      subst this
      rw [List.getElem?_append_right (by rw [hlen]; exact Nat.le_refl _)] at hx
      simp at hx; exact .inl ⟨rfl, hx.symm⟩
  have olds : ∀ {i : Nat} {q}, i < H.length → (cx.σ ++ [p'])[i]? = some q → cx.σ[i]? = some q := fun hi hq => by rwa [List.getElem?_append_left (by rw [h.len]; exact hi)] at hq
  have lasts : ∀ {q}, (cx.σ ++ [p'])[H.length]? = some q → q = p' := fun hq => by
    rw [← h.len] at hq; simp at hq; exact hq.symm
  have notb : ∀ {i : Nat} {x : SObj} {q : Pl} {b' : Nat}, (H.set id .dead)[i]? = some x → x.live = true → cx.σ[i]? = some q → q.blk = some b' → b' ≠ b := fun {i} {x} {q} {b'} hx lx hq hqb e => by
    subst e
    by_cases hi : i = id
    · subst hi
      rw [List.getElem?_set] at hx
      simp [hid] at hx; subst hx; simp [SObj.live] at lx
    · rw [List.getElem?_set_ne (by omega)] at hx
      exact hi (h.inj i id x o q p b' hx ho hq hp lx hl hqb hb)
  refine ⟨⟨⟨hos.trans h.keep.os, htape.trans h.keep.tape, hout.trans h.keep.output, by rw [hsize]; exact h.keep.size, fun k hk' hs => ?_⟩, ?_, ?_, by simp [h.len], ?_, ?_, fun b x v hv => le.M b x v (h.gl b x v hv)⟩, le⟩
  · have hne : k ≠ b := fun e => by
      subst e
      rcases hbase.1 with hS | hge
      · exact hs hS
      · omega
    rw [hother k hne]; exact h.keep.block k hk' hs
  · intro b' x v hv
    have hv' : M' b' x = some v := hv
    by_cases e : b' = b
    · subst e; exact hM x v hv'
    · rw [hM' b' e] at hv'
      rw [World.cell?_of_block (w := w) (hother b' e)]; exact h.mem b' x v hv'
  · intro k x hk' hs
    have hne : k ≠ b := fun e => by
      subst e
      rcases hbase.1 with hS | hge
      · exact hs hS
      · omega
    show M' k x = _
    rw [hM' k hne]; exact h.old k x hk' hs
  · intro i x q hx hq
    rcases old hx with ⟨rfl, rfl⟩ | ⟨hi, hx⟩
    · have := lasts hq; subst this; exact hO _ le rfl rfl
    · have hq := olds hi hq
      cases hlx : x.live with
      | false => cases x <;> first | trivial | simp [SObj.live] at hlx
      | true => exact ((hk.obj i x q hx hq).mono le fun b' hb'' _ => hM' b' (notb hx hlx hq hb'')).world fun b' hb'' => hother b' (notb hx hlx hq hb'')
  · intro i j o1 o2 q r b' h1 h2 hq hr l1 l2 e1 e2
    rcases old h1 with ⟨rfl, rfl⟩ | ⟨hi, g1⟩ <;> rcases old h2 with ⟨rfl, rfl⟩ | ⟨hj, g2⟩
    · rfl
    · have := lasts hq; subst this
      rw [hb'] at e1; cases e1
      exact absurd rfl (notb g2 l2 (olds hj hr) e2)
    · have := lasts hr; subst this
      rw [hb'] at e2; cases e2
      exact absurd rfl (notb g1 l1 (olds hi hq) e1)
    · exact hk.inj i j o1 o2 q r b' g1 g2 (olds hi hq) (olds hj hr) l1 l2 e1 e2
end
end Go.Proofs.YtfphabkdgdgnbaaGreatDoor.SE
set_option linter.unusedVariables false
set_option linter.unusedSimpArgs false
set_option linter.unusedSectionVars false
namespace Go.Proofs.YtfphabkdgdgnbaaGreatDoor.SE
open Go Go.RowKit Go.Proofs.YtfphabkdgdgnbaaGreatDoor.AE
variable [Tb]

/-- Cells that hold rows. -/
structure RowsV (P : Program) (M : Mem) (rows : List (List D)) (lts : List LT) (vs : List Value) : Prop where
  len : vs.length = rows.length * lts.length
  row : ∀ (i : Nat) (r : List D), rows[i]? = some r → r.length = lts.length ∧ ∀ (j : Nat) (lt : LT), lts[j]? = some lt → ∃ d v, r[j]? = some d ∧ vs[i * lts.length + j]? = some v ∧ d.Rd P M lt v
section
variable {P : Program} {M : Mem}
theorem RdRow_of : ∀ (r : List D) {lts : List LT} {b o : Nat}, r.length = lts.length → (∀ (j : Nat) (lt : LT), lts[j]? = some lt → ∃ d v, r[j]? = some d ∧ M b (o + j) = some v ∧ d.Rd P M lt v) → RdRow P M r lts b o
  | [], [], _, _, _, _ => rfl
  | [], _ :: _, _, _, h, _ => by simp at h
  | d :: ds, [], _, _, h, _ => by simp at h
  | d :: ds, lt :: lts, b, o, h, k => by
    obtain ⟨d', v, h1, h2, h3⟩ := k 0 lt rfl
    simp at h1; subst h1
    exact ⟨lt, lts, v, rfl, h2, h3, RdRow_of ds (by simpa using h) fun j lt' hj => by
      obtain ⟨d', v', a1, a2, a3⟩ := k (j + 1) lt' (by simpa using hj)
      exact ⟨d', v', by simpa using a1, by rw [← a2]; congr 1; omega, a3⟩⟩
theorem RowsV.rd {rows : List (List D)} {lts : List LT} {vs : List Value} {M' : Mem} {b o : Nat} (h : RowsV P M rows lts vs) (hle : M.le M') (hM : ∀ j v, vs[j]? = some v → M' b (o + j) = some v) : RdRows P M' rows lts b o :=
  RdRows_of _ fun i r hr => by
    obtain ⟨h1, h2⟩ := h.row i r hr
    refine RdRow_of r h1 fun j lt hj => ?_
    obtain ⟨d, v, a1, a2, a3⟩ := h2 j lt hj
    exact ⟨d, v, a1, by rw [← hM _ v a2]; congr 1; omega, Rd_mono hle d a3⟩
theorem RowsV.append {rows rows' : List (List D)} {lts : List LT} {vs vs' : List Value} (h : RowsV P M rows lts vs) (k : RowsV P M rows' lts vs') : RowsV P M (rows ++ rows') lts (vs ++ vs') := by
  refine ⟨by simp [h.len, k.len, Nat.add_mul], fun i r hr => ?_⟩
  rcases Nat.lt_or_ge i rows.length with hi | hi
  · rw [List.getElem?_append_left hi] at hr
    obtain ⟨h1, h2⟩ := h.row i r hr
    refine ⟨h1, fun j lt hj => ?_⟩
    obtain ⟨d, v, a1, a2, a3⟩ := h2 j lt hj
    exact ⟨d, v, a1, by rw [List.getElem?_append_left (get_lt a2)]; exact a2, a3⟩
  · rw [List.getElem?_append_right hi] at hr
    obtain ⟨h1, h2⟩ := k.row _ r hr
    refine ⟨h1, fun j lt hj => ?_⟩
    obtain ⟨d, v, a1, a2, a3⟩ := h2 j lt hj
    refine ⟨d, v, a1, ?_, a3⟩
    have hmul : rows.length * lts.length + (i - rows.length) * lts.length = i * lts.length := by rw [← Nat.add_mul, Nat.add_sub_cancel' hi]
    rw [List.getElem?_append_right (by rw [h.len]; omega), h.len, ← a2]
    congr 1; omega
theorem RowsV.nil {lts : List LT} : RowsV P M [] lts [] := ⟨by simp, fun i r h => by simp at h⟩
theorem RowsV.mono {M' : Mem} (hle : M.le M') {rows : List (List D)} {lts : List LT} {vs : List Value} (h : RowsV P M rows lts vs) : RowsV P M' rows lts vs :=
  ⟨h.len, fun i r hr => ⟨(h.row i r hr).1, fun j lt hj => let ⟨d, v, a1, a2, a3⟩ := (h.row i r hr).2 j lt hj; ⟨d, v, a1, a2, Rd_mono hle d a3⟩⟩⟩
/-- The cells of rows that lie. -/
theorem rowsV_of : ∀ {rows : List (List D)} {lts : List LT} {b o : Nat}, RdRows P M rows lts b o → ∃ vs, RowsV P M rows lts vs ∧ ∀ j v, vs[j]? = some v → M b (o + j) = some v
  | [], lts, b, o, _ => ⟨[], .nil, fun j v h => by simp at h⟩
  | r :: rs, lts, b, o, ⟨h1, h2⟩ => by
    obtain ⟨vs, a1, a2⟩ := rowsV_of h2
    have rowOf : ∀ {r : List D} {lts : List LT} {o : Nat}, RdRow P M r lts b o → ∃ us : List Value, us.length = lts.length ∧ r.length = lts.length ∧ (∀ (j : Nat) (lt : LT), lts[j]? = some lt → ∃ d v, r[j]? = some d ∧ us[j]? = some v ∧ d.Rd P M lt v) ∧ ∀ j v, us[j]? = some v → M b (o + j) = some v := by
      intro r
      induction r with
      | nil => intro lts o h; simp only [RdRow] at h; subst h; exact ⟨[], rfl, rfl, fun j lt h => by simp at h, fun j v h => by simp at h⟩
      | cons d ds ih =>
        intro lts o h
        simp only [RdRow] at h
        obtain ⟨lt, lts', u, rfl, g2, g3, g4⟩ := h
        obtain ⟨us, k1, k0, k2, k3⟩ := ih g4
        refine ⟨u :: us, by simp [k1], by simp [k0], fun j lt' hj => ?_, fun j v hj => ?_⟩
        · cases j with
          | zero => simp at hj; subst hj; exact ⟨d, u, rfl, rfl, g3⟩
          | succ j => obtain ⟨d', v', q1, q2, q3⟩ := k2 j lt' (by simpa using hj); exact ⟨d', v', by simpa using q1, by simpa using q2, q3⟩
        · cases j with
          | zero => simp at hj; subst hj; exact g2
          | succ j => have := k3 j v (by simpa using hj); rw [← this]; congr 1; omega
    obtain ⟨us, k1, k0, k2, k3⟩ := rowOf h1
    refine ⟨us ++ vs, RowsV.append (rows := [r]) ⟨by simp [k1], fun i r' hr' => ?_⟩ a1, fun j v hj => ?_⟩
    · cases i with
      | zero => simp at hr'; subst hr'; exact ⟨k0, fun j lt hj => by simpa using k2 j lt hj⟩
      | succ i => simp at hr'
    · rcases Nat.lt_or_ge j us.length with hi | hi
      · rw [List.getElem?_append_left hi] at hj; exact k3 j v hj
      · rw [List.getElem?_append_right hi] at hj
        have := a2 _ v hj
        rw [← this]; congr 1; omega
end
section
variable {P : Program} {orc : Nat → List D → Option (List D)} {M0 : Mem} {w0 : World} {S : Nat → Prop} {cx : Cx} {H : SH} {w : World}
theorem litRows_V (h : WR P M0 w0 S cx H w) {lts : List LT} (hl : okLay P lts = true) {k : Nat} {cs : List SV} {xs : List (List Ex)} {vs : List Value} (hx : litRows H lts k cs = some xs) (hr : RL P cx cs vs) (hk : cs.length = k * lts.length) :
    ∃ rows, denRows cx.ρ xs = some rows ∧ rows.length = k ∧ RowsV P cx.M rows lts vs := by
  obtain ⟨rows, g1, g2, g3⟩ := litRows_ok h (okLay_get hl) hx hr
  refine ⟨rows, g1, g2, by rw [RL_len hr, hk, g2], fun i r hi => ?_⟩
  obtain ⟨r', q1, q2, q3⟩ := g3 i (by have := get_lt hi; omega)
  rw [hi] at q1; cases q1
  exact ⟨q2, q3⟩
/-- A new slice that grows. -/
theorem newGrow (h : WR P M0 w0 S cx H w) {rows : List (List D)} {lts : List LT} {vs : List Value} {e et : TypeId} {x : Ex} {c : Array Value} {cap : Nat} (hx : x.den cx.ρ = some (.l rows)) (hl : layE P e = some lts) (hv : RowsV P cx.M rows lts vs)
    (hc : ∀ (j : Nat) (v : Value), vs[j]? = some v → c[j]? = some v) (hcap : rows.length ≤ cap) (hsz : cap * lts.length ≤ c.size) :
    ∃ cx', cx.le cx' ∧ cx'.ρ = cx.ρ ∧ WR P M0 w0 S cx' (H ++ [.grow e x]) (w.alloc (.cells c et)) ∧ (SV.own H.length).R P cx' (.slice (some ⟨w.heap.size, 0, none⟩) rows.length cap) ∧ ∀ b, b < w.heap.size → (w.alloc (.cells c et)).heap[b]? = w.heap[b]? := by
  let M' : Mem := fun k o => if k = w.heap.size then vs[o]? else cx.M k o
  have hM : ∀ b, b < w.heap.size → M' b = cx.M b := fun b hb => funext fun o => if_neg (by omega)
  have hle : cx.M.le M' := fun b o v hv => by rw [hM b (mem_lt h hv)]; exact hv
  have hself : ∀ o, M' w.heap.size o = vs[o]? := fun o => if_pos rfl
  have := h.add (w' := w.alloc (.cells c et)) (M' := M') (p := ⟨some w.heap.size, .slice (some ⟨w.heap.size, 0, none⟩) rows.length cap⟩) (o := .grow e x) (h.keep.alloc _) (by simp) (fun b hb => heap_alloc_old _ hb) hM
    (fun b o v hb hv => by
      by_cases e0 : b = w.heap.size
      · subst e0; rw [hself] at hv; have hn := heap_alloc_new (w := w) (.cells c et); simp only [World.cell?, hn, Option.isSome_none, Bool.false_eq_true, if_false]; exact hc o v hv
      · have : M' b o = cx.M b o := if_neg e0
        rw [this] at hv
        exact absurd (mem_lt h hv) (by omega))
    (fun b hb => by cases hb; exact Nat.le_refl _) fun c' hρ hσ hMc le => ⟨rows, lts, by rw [hρ]; exact hx, hl, .inr ⟨w.heap.size, c, cap, et, rfl, .inr h.keep.size, heap_alloc_new _, rfl, hcap, hsz, by
      rw [hMc]; exact hv.rd hle fun j v hj => by rw [Nat.zero_add, hself]; exact hj, fun o ho => by
      rw [hMc, hself, List.getElem?_eq_none (by rw [hv.len]; exact ho)]⟩⟩
  exact ⟨_, this.2, rfl, this.1, ⟨_, last_pl h _, rfl, rfl⟩, fun b hb => heap_alloc_old _ hb⟩

/-! a slice that is written out -/
def sBuildSlice (P : Program) (t : TypeId) (len : Nat) (parts : List (Nat × SV)) (H : SH) : Option AS' :=
  (pureRun P (underlying t)).bind fun d => match d with
    | .slice elem => (pureRun P (sizeOf elem)).bind fun size => (pureRun P (zeroValue elem)).bind fun z =>
      bif Nat.ble (len * size) 16777216 && (!Nat.beq z.cells.size 0) && (!Nat.beq size 0) then
        (sfill (fun i => some (i * size, size)) ((zcells z.cells.toList (len * size)).map SV.c) parts).bind fun cs =>
          bif Nat.beq cs.length (len * size) then
            match layE P elem with
            | some lts => match bif Nat.beq lts.length size && okLay P lts then litRows H lts len cs else none with
              | some rows => some (none, [], fun _ => (some (.own H.length), H ++ [.grow elem (.lit rows)]))
              | none => some (none, [], fun _ => (some (.slc H.length 0 size len), H ++ [.box cs elem]))
            | none => some (none, [], fun _ => (some (.slc H.length 0 size len), H ++ [.box cs elem]))
          else none
      else none
    | _ => none
theorem buildSlice_ok (h : WR P M0 w0 S cx H w) {t : TypeId} {len : Nat} {parts : List (Nat × SV)} {parts' : Array (Nat × Value)} {st : AS'} {base : Nat} (hp : PartsR P cx parts parts'.toList) (hr : sBuildSlice P t len parts H = some st) :
    ∃ v w', (Instr.buildSlice t len parts').run P w = .ok v w' ∧ Acts P M0 w0 S cx H w st.2.1 (st.2.2 base).2 (st.2.2 base).1 v w' := by
  simp only [sBuildSlice, Option.bind_eq_some_iff] at hr
  obtain ⟨d, hd, hr⟩ := hr
  split at hr
  · rename_i elem
    simp only [Option.bind_eq_some_iff] at hr
    obtain ⟨size, hsz, z, hz, hr⟩ := hr
    cases hb : (Nat.ble (len * size) 16777216 && (!Nat.beq z.cells.size 0) && (!Nat.beq size 0)) with
    | false => simp [hb] at hr
    | true =>
      simp only [hb, cond_true, Option.bind_eq_some_iff] at hr
      obtain ⟨cs, hf, hr⟩ := hr
      simp only [Bool.and_eq_true] at hb
      have hle := Nat.le_of_ble_eq_true hb.1.1
      have hz0 : z.cells.size ≠ 0 := fun e => by rw [e] at hb; simp at hb
      cases hl : Nat.beq cs.length (len * size) with
      | false => simp [hl] at hr
      | true =>
        simp only [hl, cond_true] at hr
        have hcl := Nat.eq_of_beq_eq_true hl
        obtain ⟨m', h1, h2⟩ := fill_ok hp.1 hp.2 (RL_c _) hf
        have hlm := RL_len h1
        have hrun : (Instr.buildSlice t len parts').run P w = .ok (.slice (some ⟨w.heap.size, 0, none⟩) len len) (w.alloc (.cells m'.toArray elem)) := by
          have hd' := pureRun_run hd
          have hz' := pureRun_run hz
          have hsz' := pureRun_run hsz
          have hnb : ¬ (len * size > 2 ^ 24) := by omega
          simp only [Instr.buildSlice, Sem.run_bind, hd', Result.andThen_ok, hsz', hnb, if_false]
          by_cases h0 : len * size = 0
          · simp only [h0, if_true, Sem.run_bind, Sem.run_pure, Result.andThen_ok]
            have hZ : ((Array.range 0).map ((#[] : Array Value)[· % (#[] : Array Value).size]!)) = (zcells z.cells.toList (len * size)).toArray := by simp [h0, zcells]
            rw [hZ, h2]
            simp [newRow]
          · simp only [h0, if_false, Sem.run_bind, hz', Sem.run_pure, Result.andThen_ok]
            rw [zcells_eq z.cells _ (.inl hz0), h2]
            simp [newRow]
        have slc : Acts P M0 w0 S cx H w [] (H ++ [.box cs elem]) (some (.slc H.length 0 size len)) (.slice (some ⟨w.heap.size, 0, none⟩) len len) (w.alloc (.cells m'.toArray elem)) := by
          obtain ⟨cx', a1, a2, a3, a4, a5⟩ := newBox h elem h1
          refine ⟨cx', a1, a2, a3, ?_, a5⟩
          simp only [SV.R] at a4 ⊢
          obtain ⟨p, b, hp, hb, e⟩ := a4
          simp only [Value.pointer.injEq, Option.some.injEq, Addr.mk.injEq, and_true] at e
          subst e
          exact ⟨p, _, len, hp, hb, by simp, Nat.le_refl _⟩
        split at hr
        · rename_i lts hlts
          split at hr
          · rename_i rows hrows
            simp only [Option.some.injEq] at hr; subst hr
            cases hc : (Nat.beq lts.length size && okLay P lts) with
            | false => simp [hc] at hrows
            | true =>
              simp only [hc, cond_true] at hrows
              simp only [Bool.and_eq_true] at hc
              have hls := Nat.eq_of_beq_eq_true hc.1
              obtain ⟨R, g1, g2, g3⟩ := litRows_V h hc.2 hrows h1 (by rw [hls]; exact hcl)
              obtain ⟨cx', b1, b2, b3, b4, b5⟩ := newGrow h (et := elem) (x := .lit rows) (c := m'.toArray) (cap := len) (by simp [Ex.den, g1]) hlts g3 (fun j v hj => by simpa using hj) (by omega) (by rw [hls]; simp [hlm, hcl])
              refine ⟨_, _, hrun, cx', b1, b2, b3, by rw [← g2] ; simpa [g2] using b4, fun i o p b _ ho hlo hp hb => b5 b (blk_lt h ho hlo hp hb)⟩
          · simp only [Option.some.injEq] at hr; subst hr
            exact ⟨_, _, hrun, slc⟩
        · simp only [Option.some.injEq] at hr; subst hr
          exact ⟨_, _, hrun, slc⟩
  · cases hr
end
end Go.Proofs.YtfphabkdgdgnbaaGreatDoor.SE
set_option linter.unusedVariables false
set_option linter.unusedSimpArgs false
set_option linter.unusedSectionVars false
namespace Go.Proofs.YtfphabkdgdgnbaaGreatDoor.SE
open Go Go.RowKit Go.Proofs.YtfphabkdgdgnbaaGreatDoor.AE
variable [Tb]

section
variable {P : Program} {orc : Nat → List D → Option (List D)} {M0 : Mem} {w0 : World} {S : Nat → Prop} {cx : Cx} {H : SH} {w : World}

/-! what is appended -/
def srcEx (lts : List LT) (e : TypeId) (size : Nat) (x : SV) (H : SH) : Option Ex :=
  match asData H x with
  | some (e', y) => bif Nat.beq e' e then some y else none
  | none => match x with
    | .c (.slice none 0 0) => some (.lit [])
    | .slc id off sz n => match H[id]? with
      | some (.box cs _) => bif Nat.beq sz size && Nat.ble (off * sz + n * sz) cs.length then (litRows H lts n ((cs.drop (off * sz)).take (n * sz))).map .lit else none
      | _ => none
    | _ => none
def Src (P : Program) (cx : Cx) (H : SH) (w : World) (size : Nat) (lts : List LT) (z : Value) (rows : List (List D)) (l : List Value) : Prop :=
  RowsV P cx.M rows lts l ∧ (∀ w' : World, (Builtin.lenOf z).run P w' = .ok rows.length w') ∧ ∀ w', Agree cx H w w' → (Builtin.firstCells size rows.length z).run P w' = .ok l.toArray w'
theorem src_data {lts : List LT} {e : TypeId} {d : D} {z : Value} (hl : layE P e = some lts) (h2 : d.Rd P cx.M (.sl e) z) : ∃ rows l, d = .l rows ∧ Src P cx H w lts.length lts z rows l := by
  cases d with
  | v u => simp only [D.Rd] at h2; cases h2.1
  | l rows =>
    simp only [D.Rd] at h2
    obtain ⟨e2, lts2, ad, m, c, q1, q2, q3, q4, q5, q6⟩ := h2
    cases q1
    rw [hl] at q2; cases q2
    subst q3 q4
    by_cases hne : rows = []
    · subst hne
      refine ⟨[], [], rfl, .nil, fun w' => rfl, fun w' _ => ?_⟩
      cases ad with
      | none => rfl
      | some a => simpa [Builtin.firstCells] using run_loadCells_list (P := P) w' a [] (fun j v hj => by simp at hj)
    · obtain ⟨b, o, rfl, r2⟩ := q6 hne
      obtain ⟨vs, k1, k2⟩ := rowsV_of r2
      refine ⟨rows, vs, rfl, k1, fun w' => rfl, fun w' hw' => ?_⟩
      have := loadCells_ok (w := w') P (b := b) (off := o) (l := vs) fun j v hj => hw'.mem _ _ _ (k2 j v hj)
      rw [k1.len] at this
      simpa [Builtin.firstCells] using this
theorem src_ok (h : WR P M0 w0 S cx H w) {lts : List LT} {e : TypeId} {size : Nat} {x : SV} {y : Ex} {z : Value} (hl : layE P e = some lts) (ho : okLay P lts = true) (hsz : lts.length = size) (hx : srcEx lts e size x H = some y) (hr : x.R P cx z) :
    ∃ rows l, y.den cx.ρ = some (.l rows) ∧ Src P cx H w size lts z rows l := by
  subst hsz
  unfold srcEx at hx
  split at hx
  · rename_i e' y' hd
    cases he : Nat.beq e' e with
    | false => simp [he] at hx
    | true =>
      simp only [he, cond_true, Option.some.injEq] at hx; subst hx
      have he := Nat.eq_of_beq_eq_true he; subst he
      obtain ⟨d, h1, h2⟩ := asData_ok h hd hr
      obtain ⟨rows, l, rfl, hs⟩ := src_data (H := H) (w := w) hl h2
      exact ⟨rows, l, h1, hs⟩
  · split at hx
    · simp only [Option.some.injEq] at hx; subst hx
      simp only [SV.R] at hr; subst hr
      exact ⟨[], [], rfl, .nil, fun w' => rfl, fun w' _ => rfl⟩
    · rename_i id off sz n _
      split at hx
      · rename_i cs et ho'
        cases hb : (Nat.beq sz lts.length && Nat.ble (off * sz + n * sz) cs.length) with
        | false => simp [hb] at hx
        | true =>
          simp only [hb, cond_true, Option.map_eq_some_iff] at hx
          obtain ⟨xs, hxs, rfl⟩ := hx
          simp only [Bool.and_eq_true] at hb
          have h1 := Nat.eq_of_beq_eq_true hb.1
          subst h1
          have h2 := Nat.le_of_ble_eq_true hb.2
          simp only [SV.R] at hr
          obtain ⟨p, b, cap, hp, hpb, rfl, hle⟩ := hr
          obtain ⟨b', c, g1, g2, g3, g4, g5⟩ := h.obj id _ p ho' hp
          rw [hpb] at g1; cases g1
          have hR := RL_take (RL_drop g4 (off * lts.length)) (n * lts.length)
          obtain ⟨rows, k1, k2, k3⟩ := litRows_V h ho hxs hR (by simp; omega)
          refine ⟨rows, _, by simp [Ex.den, k1], k3, fun w' => by rw [k2]; rfl, fun w' hw' => ?_⟩
          have hcells := loadCells_ok (w := w') P (b := b) (off := off * lts.length) (l := (c.toList.drop (off * lts.length)).take (n * lts.length)) fun j v hj => by
            have hh := hw'.obj id _ p b ho' rfl hp hpb
            rw [List.getElem?_take] at hj
            split at hj
            · rw [List.getElem?_drop, Array.getElem?_toList] at hj
              simp [World.cell?, hh, g3, hj]
            · cases hj
          rw [k3.len] at hcells
          simpa [Builtin.firstCells] using hcells
      · cases hx
    · cases hx

/-! append -/
def isStr : SV → Bool
  | .s _ | .c (.string _) => true
  | _ => false
def isSc : List LT → Bool
  | [.sc] => true
  | _ => false
theorem isSc_ok : ∀ {l : List LT}, isSc l = true → l = [.sc]
  | [.sc], _ => rfl
  | [], h => by cases h
  | .sl _ :: _, h => by cases h
  | .sc :: _ :: _, h => by cases h
def catStep (lts : List LT) (e : TypeId) (yx : Ex) (tch : List Nat) (n : Nat) (H1 : SH) (x : SV) (H : SH) : Option AS' :=
  match isStr x with
  | true => bif Nat.beq lts.length 1 && isSc lts then some (some (.catS yx x, 1), tch, fun b => (some (.own n), H1 ++ [.grow e (.x b)])) else none
  | false => (srcEx lts e lts.length x H).map fun z => (some (.cat yx z, 1), tch, fun b => (some (.own n), H1 ++ [.grow e (.x b)]))
def sAppend (P : Program) (types : Array TypeId) (a x : SV) (H : SH) : Option AS' :=
  (aApT P types).bind fun es => (layE P es.1).bind fun lts =>
    bif Nat.beq lts.length es.2 && okLay P lts then
      match a with
      | .c (.slice none 0 0) => catStep lts es.1 (.lit []) [] H.length H x H
      | .own id => match H[id]? with
        | some (.grow e y) => bif Nat.beq e es.1 then catStep lts es.1 y [id] H.length (H.set id .dead) x H else none
        | _ => none
      | _ => none
    else none
/-- Bytes of a string, as rows. -/
theorem src_str {s : ByteArray} : Src P cx H w 1 [.sc] (.string s) (s.data.toList.map fun b => [D.v (.int .u8 b.toNat)]) (s.data.toList.map fun b => Value.int .u8 b.toNat) := by
  refine ⟨⟨by simp, fun i r hi => ?_⟩, fun w' => ?_, fun w' _ => ?_⟩
  · simp only [List.getElem?_map, Option.map_eq_some_iff] at hi
    obtain ⟨b, hb, rfl⟩ := hi
    refine ⟨rfl, fun j lt hj => ?_⟩
    cases j with
    | zero => simp at hj; subst hj; exact ⟨_, .int .u8 b.toNat, rfl, by simp [hb], rfl, rfl, rfl⟩
    | succ j => simp at hj
  · show Result.ok s.size w' = _
    congr 1
    simp
  · simp only [Builtin.firstCells, Sem.run_pure, List.length_map, Array.length_toList]
    congr 1
    apply Array.ext'
    simp
theorem catStep_ok (h : WR P M0 w0 S cx H w) {lts : List LT} {e : TypeId} {yx : Ex} {tch : List Nat} {n : Nat} {H1 : SH} {x : SV} {z : Value} {old : List (List D)} {st : AS'} {base : Nat} (hl : layE P e = some lts) (hok : okLay P lts = true) (hold : yx.den cx.ρ = some (.l old))
    (hz : x.R P cx z) (hst : catStep lts e yx tch n H1 x H = some st) (hb : Bd P orc cx.ρ base st.1) :
    ∃ rows l, Src P cx H w lts.length lts z rows l ∧ old.length + rows.length ≤ 1000000 ∧ (Ex.x base).den cx.ρ = some (.l (old ++ rows)) ∧ st.2.1 = tch ∧ st.2.2 base = (some (SV.own n), H1 ++ [SObj.grow e (.x base)]) := by
  unfold catStep at hst
  split at hst
  · rename_i hs
    cases hc : (Nat.beq lts.length 1 && isSc lts) with
    | false => simp only [hc, cond_false] at hst; cases hst
    | true =>
      simp only [hc, cond_true, Option.some.injEq] at hst; subst hst
      simp only [Bool.and_eq_true] at hc
      have hl1 := isSc_ok hc.2
      subst hl1
      obtain ⟨ds, b1, b2, b3⟩ := hb
      simp only [Pr.den, hold] at b1
      split at b1
      · rename_i a s ha hs'
        cases ha
        have := val_R x hs' hz
        subst this
        cases hbd : Nat.ble (old.length + s.data.toList.length) mostRows with
        | false => simp only [hbd, cond_false] at b1; cases b1
        | true =>
          simp only [hbd, cond_true, Option.some.injEq] at b1; subst b1
          exact ⟨_, _, src_str, by have := Nat.le_of_ble_eq_true hbd; simpa [mostRows] using this, by simpa [Ex.den] using b3 0 _ rfl, rfl, rfl⟩
      · cases b1
  · simp only [Option.map_eq_some_iff] at hst
    obtain ⟨zx, hzx, rfl⟩ := hst
    obtain ⟨rows, l, k1, k2⟩ := src_ok h hl hok rfl hzx hz
    obtain ⟨ds, b1, b2, b3⟩ := hb
    simp only [Pr.den, hold, k1] at b1
    cases hbd : Nat.ble (old.length + rows.length) mostRows with
    | false => simp [hbd] at b1
    | true =>
      simp only [hbd, cond_true, Option.some.injEq] at b1; subst b1
      exact ⟨rows, l, k2, Nat.le_of_ble_eq_true hbd, by simpa [Ex.den] using b3 0 _ rfl, rfl, rfl⟩
theorem agree_drawn (n : Nat) : Agree cx H w w → Agree cx H w { w with drawn := n } := fun h => ⟨h.mem, fun i o p b _ _ _ _ => rfl⟩
theorem append_ok (h : WR P M0 w0 S cx H w) {types : Array TypeId} {a x : SV} {y z : Value} (t : TypeId) {st : AS'} {base : Nat} (hx : a.R P cx y) (hz : x.R P cx z) (hr : sAppend P types a x H = some st) (hb : Bd P orc cx.ρ base st.1) :
    ∃ v w', (Builtin.append_ types t #[y, z]).run P w = .ok v w' ∧ Acts P M0 w0 S cx H w st.2.1 (st.2.2 base).2 (st.2.2 base).1 v w' := by
  simp only [sAppend, Option.bind_eq_some_iff] at hr
  obtain ⟨⟨e, size⟩, hT, lts, hl, hr⟩ := hr
  have hT := apT_ok hT
  simp only at hr hl
  cases hc : (Nat.beq lts.length size && okLay P lts) with
  | false => simp [hc] at hr
  | true =>
    simp only [hc, cond_true] at hr
    simp only [Bool.and_eq_true] at hc
    have hls := Nat.eq_of_beq_eq_true hc.1
    have hok := hc.2
    subst hls
    have hd := agree_drawn (w.drawn + 1) h.agree
    -- a new block
    have fresh : ∀ {H1 : SH} {old rows : List (List D)} {ol l : List Value} {ad : Option Addr} {cap : Nat}, WR P M0 w0 S cx H1 w → H1.length = H.length → (∀ (i : Nat) (o : SObj), H1[i]? = some o → o.live = true → H[i]? = some o) → RowsV P cx.M old lts ol → Src P cx H w lts.length lts z rows l → old.length + rows.length ≤ 1000000 → (Ex.x base).den cx.ρ = some (.l (old ++ rows)) → cap < old.length + rows.length →
        (Builtin.firstCells lts.length old.length (.slice ad old.length cap)).run P { w with drawn := w.drawn + 1 } = .ok ol.toArray { w with drawn := w.drawn + 1 } →
        ∃ v w', (Builtin.append_ types t #[.slice ad old.length cap, z]).run P w = .ok v w' ∧ ∀ tch, Acts P M0 w0 S cx H w tch (H1 ++ [.grow e (.x base)]) (some (SV.own H.length)) v w' := by
      intro H1 old rows ol l ad cap hW1 hlen hsub hO hS hbd hden hcap hfirst
      obtain ⟨c, cells, g1, g2, g3, g4⟩ := append_run hT t (base := ad) (cap := cap) (hS.2.1 w) hcap hbd hfirst (hS.2.2 _ hd) (by simp [hO.len]) (by simp [hS.1.len])
      obtain ⟨cx', b1, b2, b3, b4, b5⟩ := newGrow (hW1.drawn (w.drawn + 1)) (et := e) (x := .x base) (c := cells) (cap := c) hden hl (hO.append hS.1) (fun j v hj => g3 j v (by simpa using hj)) (by simpa using g1) (by rw [g2]; exact Nat.le_refl _)
      refine ⟨_, _, g4, fun tch => ⟨cx', b1, b2, b3, ?_, fun i o p b _ ho hlo hp hb' => b5 b (blk_lt h ho hlo hp hb')⟩⟩
      rw [hlen] at b4
      simpa using b4
    -- nothing there yet
    have fromNil : ∀ {H1 : SH} {rows : List (List D)} {l : List Value}, WR P M0 w0 S cx H1 w → H1.length = H.length → (∀ (i : Nat) (o : SObj), H1[i]? = some o → o.live = true → H[i]? = some o) → Src P cx H w lts.length lts z rows l → ([] : List (List D)).length + rows.length ≤ 1000000 → (Ex.x base).den cx.ρ = some (.l ([] ++ rows)) →
        ∃ v w', (Builtin.append_ types t #[.slice none 0 0, z]).run P w = .ok v w' ∧ ∀ tch, Acts P M0 w0 S cx H w tch (H1 ++ [.grow e (.x base)]) (some (SV.own H.length)) v w' := by
      intro H1 rows l hW1 hlen hsub hS hbd hden
      by_cases h0 : rows = []
      · subst h0
        have hrun := append_none hT t (hS.2.1 w) (hS.2.2 w h.agree)
        have := hW1.add (w' := w) (M' := cx.M) (p := ⟨none, .slice none 0 0⟩) (o := .grow e (.x base)) hW1.keep (Nat.le_refl _) (fun _ _ => rfl) (fun _ _ => rfl) (fun b x v _ hv => h.mem b x v hv) (fun b hb => by cases hb) fun c' hρ hσ hM le => ⟨[], lts, by rw [hρ]; simpa using hden, hl, .inl ⟨rfl, rfl, rfl⟩⟩
        refine ⟨_, w, hrun, fun tch => ⟨_, this.2, rfl, this.1, ⟨⟨none, .slice none 0 0⟩, ?_, rfl, rfl⟩, fun _ _ _ _ _ _ _ _ _ => rfl⟩⟩
        show (cx.σ ++ [_])[H.length]? = _
        rw [← hlen]; exact last_pl hW1 _
      · refine fresh (old := []) (ol := []) (ad := none) (cap := 0) hW1 hlen hsub .nil hS hbd hden ?_ rfl
        have : 0 < rows.length := List.length_pos_iff.2 h0
        simp; omega
    split at hr
    · simp only [SV.R] at hx; subst hx
      obtain ⟨rows, l, k1, k2, k3, k4, k5⟩ := catStep_ok h hl hok (old := []) rfl hz hr hb
      rw [k4, k5]
      obtain ⟨v, w', q1, q2⟩ := fromNil h rfl (fun i o ho _ => ho) k1 k2 k3
      exact ⟨v, w', q1, q2 _⟩
    · rename_i id
      split at hr
      · rename_i e' yx ho
        cases he : Nat.beq e' e with
        | false => simp [he] at hr
        | true =>
          simp only [he, cond_true] at hr
          have he := Nat.eq_of_beq_eq_true he; subst he
          simp only [SV.R] at hx
          obtain ⟨p, hp, rfl, _⟩ := hx
          obtain ⟨old, lts', a1, a2, a3⟩ := h.obj id _ p ho hp
          rw [hl] at a2; cases a2
          obtain ⟨rows, l, k1, k2, k3, k4, k5⟩ := catStep_ok h hl hok a1 hz hr hb
          rw [k4, k5]
          have hk := h.kill id
          have hklen : (H.set id .dead).length = H.length := by simp
          have hsub : ∀ (i : Nat) (o : SObj), (H.set id .dead)[i]? = some o → o.live = true → H[i]? = some o := fun i o hi hlo => by
            by_cases e0 : i = id
            · subst e0
              rw [List.getElem?_set] at hi
              simp [get_lt ho] at hi; subst hi; simp [SObj.live] at hlo
            · rwa [List.getElem?_set_ne (by omega)] at hi
          rcases a3 with ⟨rfl, hpb, hph⟩ | ⟨b, c, cap, et, hpb, hfr, hheap, hph, hcap, hsz, hrd, hnone⟩
          · rw [hph]
            obtain ⟨v, w', q1, q2⟩ := fromNil hk hklen hsub k1 k2 k3
            exact ⟨v, w', q1, q2 _⟩
          · rw [hph]
            obtain ⟨ovs, o1, o2⟩ := rowsV_of hrd
            have hol : ovs.length = old.length * lts.length := o1.len
            by_cases hroom : old.length + rows.length ≤ cap
            · -- in place
              have hfirst := k1.2.2 w h.agree
              have hlen := k1.2.1 w
              have hll : l.length = rows.length * lts.length := k1.1.len
              have hone : ∀ u ∈ l, u.oneCell' = true := fun u hu => by
                obtain ⟨i, hi⟩ := List.mem_iff_getElem?.1 hu
                have hil : i < rows.length * lts.length := by have := get_lt hi; omega
                have hpos := (layE_len hl).2
                have hq : i / lts.length < rows.length := Nat.div_lt_of_lt_mul (by rw [Nat.mul_comm]; exact hil)
                obtain ⟨r1, r2⟩ := k1.1.row (i / lts.length) _ (List.getElem?_eq_getElem hq)
                have hm : i % lts.length < lts.length := Nat.mod_lt _ hpos
                obtain ⟨d, v, _, q2, q3⟩ := r2 (i % lts.length) _ (List.getElem?_eq_getElem hm)
                have : i / lts.length * lts.length + i % lts.length = i := by rw [Nat.mul_comm]; exact Nat.div_add_mod i lts.length
                rw [this, hi] at q2; cases q2
                cases d with
                | v u' => simp only [D.Rd] at q3; rw [q3.2.1]; exact q3.2.2
                | l rs => simp only [D.Rd] at q3; obtain ⟨_, _, _, _, _, _, _, rfl, _⟩ := q3; rfl
              have hfit : old.length * lts.length + l.length ≤ c.size := by
                rw [hll, ← Nat.add_mul]
                exact Nat.le_trans (Nat.mul_le_mul_right _ hroom) hsz
              have hst := run_storeCells_at (P := P) b (old.length * lts.length) et l 0 c w hheap (by simpa using hfit) hone
              have hadd : (⟨b, 0, none⟩ : Addr).add (old.length * lts.length) = ⟨b, old.length * lts.length, none⟩ := by rw [addr_add]; simp
              obtain ⟨N, hN⟩ : ∃ N : Array Value, N = (c.toList.take (old.length * lts.length + 0) ++ l ++ c.toList.drop (old.length * lts.length + 0 + l.length)).toArray := ⟨_, rfl⟩
              rw [← hN] at hst
              have hNget : ∀ j v, l[j]? = some v → N[old.length * lts.length + j]? = some v := fun j v hj => by
                have hjl := get_lt hj
                rw [hN, List.getElem?_toArray, Nat.add_zero, List.append_assoc, List.getElem?_append_right (by simp; omega), List.getElem?_append_left (by simp; omega)]
                rw [← hj]; congr 1; simp; omega
              have hNold : ∀ j, j < old.length * lts.length → N[j]? = c[j]? := fun j hj => by
                rw [hN, List.getElem?_toArray, Nat.add_zero, List.append_assoc, List.getElem?_append_left (by simp; omega), List.getElem?_take, if_pos hj, Array.getElem?_toList]
              have hNsize : N.size = c.size := by rw [hN]; simp; omega
              have hrow : (w.setRow b N).heap[b]? = some (.cells N et (0, 0)) := setRow_heap w b c N et (0, 0) hheap
              have hoth : ∀ k, k ≠ b → (w.setRow b N).heap[k]? = w.heap[k]? := fun k hk => setRow_other _ _ _ _ (by omega)
              let M' : Mem := fun k o => if k = b ∧ old.length * lts.length ≤ o then l[o - old.length * lts.length]? else cx.M k o
              have hle : cx.M.le M' := fun k o v hv => by
                show (if k = b ∧ old.length * lts.length ≤ o then _ else cx.M k o) = some v
                by_cases e0 : k = b ∧ old.length * lts.length ≤ o
                · rw [e0.1, hnone o e0.2] at hv; cases hv
                · rw [if_neg e0]; exact hv
              have hreg := h.regrow (w' := w.setRow b N) (M' := M') (o' := .grow e' (.x base)) (p' := ⟨some b, .slice (some ⟨b, 0, none⟩) (old.length + rows.length) cap⟩) ho rfl hp hpb rfl rfl rfl rfl (by simp [World.setRow]) hoth hle
                (fun k hk => funext fun o => if_neg fun e0 => hk e0.1)
                (fun o v hv => by
                  have hv' : (if b = b ∧ old.length * lts.length ≤ o then l[o - old.length * lts.length]? else cx.M b o) = some v := hv
                  simp only [World.cell?, hrow, Option.isSome_none, Bool.false_eq_true, if_false]
                  by_cases e0 : old.length * lts.length ≤ o
                  · rw [if_pos ⟨rfl, e0⟩] at hv'
                    have := hNget _ v hv'
                    rwa [Nat.add_sub_cancel' e0] at this
                  · rw [if_neg fun e1 => e0 e1.2] at hv'
                    rw [hNold o (by omega)]
                    have := h.mem b o v hv'
                    simpa [World.cell?, hheap] using this)
                fun c' le hρ hM => ⟨old ++ rows, lts, by rw [hρ]; exact k3, hl, .inr ⟨b, N, cap, et, rfl, hfr, hrow, by simp, by simpa using hroom, by rw [hNsize]; exact hsz, by
                  rw [hM]
                  refine RdRows_append (RdRows_mono hle _ hrd) (k1.1.rd hle fun j v hj => ?_)
                  show (if b = b ∧ _ then _ else _) = some v
                  rw [if_pos ⟨rfl, by omega⟩, ← hj]; congr 1; omega, fun o ho' => by
                  rw [hM]
                  show (if b = b ∧ _ then _ else _) = none
                  simp only [List.length_append, Nat.add_mul] at ho'
                  rw [if_pos ⟨rfl, by omega⟩, List.getElem?_eq_none (by omega)]⟩⟩
              refine ⟨.slice (some ⟨b, 0, none⟩) (old.length + rows.length) cap, w.setRow b N, append_room hT t hlen hroom hfirst (by rw [hadd]; exact hst), _, hreg.2, rfl, hreg.1, ⟨_, last_pl h _, rfl, rfl⟩, fun i o q b' hi hio hlo hq hqb => hoth _ fun e0 => ?_⟩
              subst e0
              exact hi (by simp [h.inj i id o _ q p b' hio ho hq hp hlo rfl hqb hpb])
            · have hfirst : (Builtin.firstCells lts.length old.length (.slice (some ⟨b, 0, none⟩) old.length cap)).run P { w with drawn := w.drawn + 1 } = .ok ovs.toArray { w with drawn := w.drawn + 1 } := by
                have := loadCells_ok (w := { w with drawn := w.drawn + 1 }) P (b := b) (off := 0) (l := ovs) fun j v hj => hd.mem _ _ _ (o2 j v hj)
                rw [hol] at this
                simpa [Builtin.firstCells] using this
              obtain ⟨v, w', q1, q2⟩ := fresh hk hklen hsub o1 k1 k2 k3 (by omega) hfirst
              exact ⟨v, w', q1, q2 _⟩
      · cases hr
    · cases hr
end
end Go.Proofs.YtfphabkdgdgnbaaGreatDoor.SE
set_option linter.unusedVariables false
set_option linter.unusedSimpArgs false
set_option linter.unusedSectionVars false
namespace Go.Proofs.YtfphabkdgdgnbaaGreatDoor.SE
open Go Go.RowKit Go.Proofs.YtfphabkdgdgnbaaGreatDoor.AE
variable [Tb]

/-- An operation that changes memory, but for calls. -/
def aStep (P : Program) (ev : Operand → Option SV) (o : Oper) (H : SH) : Option AS' :=
  match o.op with
  | .alloc e => sAlloc P e H
  | .box e x => (ev x).bind fun a => sBox e a H
  | .buildSlice t len parts => (evP ev parts.toList).bind fun ps => sBuildSlice P t len ps H
  | .store t x y => (ev x).bind fun a => (ev y).bind fun b => sStore P t a b H
  | .convert s t x => (ev x).bind fun a => match pureRun P (underlying s), pureRun P (underlying t) with
    | some .string, some (.slice e) => match pureRun P (underlying e), layE P e with
      | some (.int .u8), some [.sc] => bif isStr a then some (some (.toBytes a, 1), [], fun b => (some (.d e (.x b)), H ++ [.dead])) else none
      | _, _ => none
    | _, _ => none
  | .call c => match c.callee with
    | .builtin .append => (evL ev c.args.toList).bind fun args => match args with
      | [a, x] => sAppend P c.argTypes a x H
      | _ => none
    | _ => none
  | _ => none
/-- What an operation that is done comes to. -/
def NextV : Option SV → Value → Next
  | some _, v => .value v
  | none, _ => .skip
section
variable {P : Program} {orc : Nat → List D → Option (List D)} {M0 : Mem} {w0 : World} {S : Nat → Prop} {cx : Cx} {H : SH} {w : World}
variable {ev : Operand → Option SV} {ρ' : Operand → Value}
theorem toBytes_ok (h : WR P M0 w0 S cx H w) {s t e : TypeId} {a : SV} {x : Value} {base : Nat} (hs : pureRun P (underlying s) = some .string) (ht : pureRun P (underlying t) = some (.slice e)) (he : pureRun P (underlying e) = some (.int .u8)) (hl : layE P e = some [.sc])
    (hx : a.R P cx x) (hb : Bd P orc cx.ρ base (some (.toBytes a, 1))) : ∃ v w', (convert s t x).run P w = .ok v w' ∧ Acts P M0 w0 S cx H w [] (H ++ [.dead]) (some (.d e (.x base))) v w' := by
  obtain ⟨ds, b1, b2, b3⟩ := hb
  simp only [Pr.den] at b1
  split at b1
  · rename_i bs hv
    simp only [Option.some.injEq] at b1; subst b1
    have := val_R a hv hx
    subst this
    have hden : (Ex.x base).den cx.ρ = some (.l (bs.data.toList.map fun b => [D.v (.int .u8 b.toNat)])) := by simpa [Ex.den] using b3 0 _ rfl
    obtain ⟨k1, k2, k3⟩ := src_str (P := P) (cx := cx) (H := H) (w := w) (s := bs)
    have hu1 := run_under hs
    have hu2 := run_under ht
    have hu3 := run_under he
    have hd1 := h.drawn (w.drawn + 1)
    let c := (Question.appendCap bs.size 0 e).cut (w.tape w.drawn (.appendCap bs.size 0 e))
    have hc : bs.size ≤ c := by show bs.size ≤ bs.size + _; omega
    let cells : Array Value := (bs.data.map fun b : UInt8 => Value.int .u8 b.toNat) ++ Array.replicate (c - bs.size) (Value.int .u8 0)
    have hcs : cells.size = c := by
      show ((bs.data.map fun b : UInt8 => Value.int .u8 b.toNat) ++ Array.replicate (c - bs.size) (Value.int .u8 0)).size = c
      have : bs.data.size = bs.size := rfl
      simp [this]; omega
    have hconv : (convert s t (.string bs)).run P w = (Conv.stringToBytes e bs).run P w := by
      simp [convert, pureRun_run hs w, pureRun_run ht w, pureRun_run he w]
    have hrun : (Conv.stringToBytes e bs).run P w = .ok (.slice (some ⟨w.heap.size, 0, none⟩) bs.size c) ((World.alloc { w with drawn := w.drawn + 1 } (.cells cells e)).freeze ⟨w.heap.size, c, none⟩ 1) := by
      unfold Conv.stringToBytes
      simp only [Sem.run_bind, run_choose, Question.forced, Bool.false_eq_true, if_false, Result.andThen_ok, newRow, run_newObj, Sem.run_pure, markStringish, run_shape]
      have hsh : (World.alloc { w with drawn := w.drawn + 1 } (.cells cells e)).shape? w.heap.size = some (e, c) := by
        simp [World.shape?, World.alloc, hcs]
      show ((match (World.alloc { w with drawn := w.drawn + 1 } (.cells cells e)).shape? w.heap.size with | some (_, n) => freeze { block := w.heap.size, off := n } 1 | x => pure () : Sem Unit).run P (World.alloc { w with drawn := w.drawn + 1 } (.cells cells e))).andThen _ = _
      rw [hsh]
      rfl
    have hfr : (World.alloc { w with drawn := w.drawn + 1 } (.cells cells e)).freeze ⟨w.heap.size, c, none⟩ 1 = World.alloc { w with drawn := w.drawn + 1 } (.cells cells e (c, c + 1)) := by
      simp only [World.freeze, Nat.one_ne_zero, if_false, World.alloc]
      congr 1
      apply Array.ext_getElem?
      intro i
      rw [Array.getElem?_modify]
      by_cases hi : w.heap.size = i
      · subst hi; simp
      · rw [if_neg hi]
        simp only [Array.getElem?_push]
        have : ¬ i = w.heap.size := fun e => hi e.symm
        simp [this]
    rw [hfr] at hrun
    let vs : List Value := bs.data.toList.map fun b => Value.int .u8 b.toNat
    have hcell : ∀ (j : Nat) (v : Value), vs[j]? = some v → cells[j]? = some v := fun j v hj => by
      have hlt : j < (bs.data.map fun b : UInt8 => Value.int .u8 b.toNat).size := by simpa [vs] using get_lt hj
      show ((bs.data.map fun b : UInt8 => Value.int .u8 b.toNat) ++ Array.replicate (c - bs.size) (Value.int .u8 0))[j]? = some v
      rw [Array.getElem?_append_left hlt, ← hj, ← Array.getElem?_toList]
      simp [vs]
    let M' : Mem := fun k o => if k = w.heap.size then vs[o]? else cx.M k o
    have hM : ∀ b, b < w.heap.size → M' b = cx.M b := fun b hb => funext fun o => if_neg (by omega)
    have hle : cx.M.le M' := fun b o v hv => by rw [hM b (mem_lt h hv)]; exact hv
    have hself : ∀ o, M' w.heap.size o = vs[o]? := fun o => if_pos rfl
    have hadd := hd1.add (w' := World.alloc { w with drawn := w.drawn + 1 } (.cells cells e (c, c + 1))) (M' := M') (p := ⟨none, undef⟩) (o := .dead) (hd1.keep.alloc _) (by simp) (fun b hb => heap_alloc_old _ hb) hM
      (fun b o v hb hv => by
        by_cases e0 : b = w.heap.size
        · subst e0; rw [hself] at hv
          have hn := heap_alloc_new (w := { w with drawn := w.drawn + 1 }) (.cells cells e (c, c + 1))
          simp only [World.cell?]
          have hn' : (World.alloc { w with drawn := w.drawn + 1 } (.cells cells e (c, c + 1))).heap[w.heap.size]? = some (.cells cells e (c, c + 1)) := hn
          rw [hn']
          exact hcell o v hv
        · have : M' b o = cx.M b o := if_neg e0
          rw [this] at hv
          exact absurd (mem_lt h hv) (by have : w.heap.size ≤ b := hb; omega))
      (fun b hb => by cases hb) fun c' _ _ _ _ => trivial
    refine ⟨_, _, by rw [hconv]; exact hrun, _, hadd.2, rfl, hadd.1, ⟨_, hden, ?_⟩, fun i o p b _ ho hlo hp hb => heap_alloc_old (w := { w with drawn := w.drawn + 1 }) _ (blk_lt h ho hlo hp hb)⟩
    simp only [D.Rd]
    refine ⟨e, [.sc], _, bs.size, c, rfl, hl, rfl, by simp, hc, fun _ => ⟨w.heap.size, 0, rfl, k1.rd hle fun j v hj => ?_⟩⟩
    rw [Nat.zero_add, hself]; exact hj
  · cases b1
theorem aStep_ok (h : WR P M0 w0 S cx H w) (hρ : EvR P cx ev ρ') {o : Oper} {st : AS'} {base : Nat} (hr : aStep P ev o H = some st) (hb : Bd P orc cx.ρ base st.1) :
    ∃ v w', (execOp ρ' o).run P w = .ok (NextV (st.2.2 base).1 v) w' ∧ Acts P M0 w0 S cx H w st.2.1 (st.2.2 base).2 (st.2.2 base).1 v w' := by
  have of1 : ∀ {s : Sem Value} {a : Option SV} {H' : SH} {tch : List Nat}, execOp ρ' o = (do pure (.value (← s))) → a.isSome = true → (∃ v w', s.run P w = .ok v w' ∧ Acts P M0 w0 S cx H w tch H' a v w') → ∃ v w', (execOp ρ' o).run P w = .ok (NextV a v) w' ∧ Acts P M0 w0 S cx H w tch H' a v w' := by
    rintro s a H' tch hs ha ⟨v, w', h1, h2⟩
    refine ⟨v, w', ?_, h2⟩
    rw [hs]
    cases a with
    | none => simp at ha
    | some x => simp [h1, NextV]
  unfold aStep at hr
  split at hr
  · rename_i e hop
    refine of1 (by unfold execOp; simp only [hop]) ?_ (alloc_ok h hr)
    simp only [sAlloc, Option.map_eq_some_iff] at hr; obtain ⟨z, _, rfl⟩ := hr; rfl
  · rename_i e x hop
    simp only [Option.bind_eq_some_iff] at hr
    obtain ⟨a, ha, hr⟩ := hr
    refine of1 (by unfold execOp; simp only [hop]) ?_ (box_ok h (hρ x a ha) hr)
    simp only [sBox, Option.map_eq_some_iff] at hr; obtain ⟨z, _, rfl⟩ := hr; rfl
  · rename_i t len parts hop
    simp only [Option.bind_eq_some_iff] at hr
    obtain ⟨ps, hps, hr⟩ := hr
    have hp := evP_ok hρ hps
    refine of1 (s := Instr.buildSlice t len (parts.map fun (i, x) => (i, ρ' x))) (by unfold execOp; simp only [hop]) ?_ (buildSlice_ok h (by simpa using hp) hr)
    simp only [sBuildSlice, Option.bind_eq_some_iff] at hr
    obtain ⟨d, _, hr⟩ := hr
    split at hr
    · simp only [Option.bind_eq_some_iff] at hr
      obtain ⟨_, _, _, _, hr⟩ := hr
      cases hc : (Nat.ble (len * _) 16777216 && (!Nat.beq _ 0) && (!Nat.beq _ 0)) with
      | false => rw [hc] at hr; simp at hr
      | true =>
        rw [hc] at hr
        simp only [cond_true, Option.bind_eq_some_iff] at hr
        obtain ⟨cs, _, hr⟩ := hr
        cases hl : Nat.beq cs.length (len * _) with
        | false => rw [hl] at hr; simp at hr
        | true =>
          rw [hl] at hr
          simp only [cond_true] at hr
          split at hr
          · split at hr <;> (simp only [Option.some.injEq] at hr; subst hr; rfl)
          · simp only [Option.some.injEq] at hr; subst hr; rfl
    · cases hr
  · rename_i t x y hop
    simp only [Option.bind_eq_some_iff] at hr
    obtain ⟨a, ha, b, hb', hr⟩ := hr
    obtain ⟨w', h1, h2⟩ := store_ok (base := base) h (hρ x a ha) (hρ y b hb') hr
    have hnone : (st.2.2 base).1 = none := by
      simp only [sStore, Option.bind_eq_some_iff] at hr
      obtain ⟨n, _, hr⟩ := hr
      split at hr
      · split at hr
        · simp only [Option.bind_eq_some_iff] at hr
          obtain ⟨vs, _, hr⟩ := hr
          cases hc : (Nat.beq vs.length n && Nat.ble (_ + vs.length) _ && vs.all SV.one) with
          | false => rw [hc] at hr; simp at hr
          | true => rw [hc] at hr; simp only [cond_true, Option.some.injEq] at hr; subst hr; rfl
        · cases hr
      · cases hr
    refine ⟨undef, w', ?_, h2⟩
    rw [hnone]
    have hex : execOp ρ' o = (do Instr.storeAt t (ρ' x) (ρ' y); pure .skip) := by unfold execOp; simp only [hop]
    rw [hex]; simp [h1, NextV]
  · rename_i s t x hop
    simp only [Option.bind_eq_some_iff] at hr
    obtain ⟨a, ha, hr⟩ := hr
    split at hr
    · rename_i e hs ht
      split at hr
      · rename_i he hl
        cases hc : isStr a with
        | false => simp [hc] at hr
        | true =>
          simp only [hc, cond_true, Option.some.injEq] at hr; subst hr
          exact of1 (by unfold execOp; simp only [hop]) rfl (toBytes_ok h hs ht he hl (hρ x a ha) hb)
      · cases hr
    · cases hr
  · rename_i c hop
    split at hr
    · rename_i hcal
      simp only [Option.bind_eq_some_iff] at hr
      obtain ⟨args, hargs, hr⟩ := hr
      split at hr
      · rename_i a x
        have hA := evL_ok hρ hargs
        simp only [RL] at hA
        obtain ⟨v1, vs1, e1, hv1, v2, vs2, rfl, hv2, rfl⟩ := hA
        obtain ⟨v, w', h1, h2⟩ := append_ok (orc := orc) h o.type hv1 hv2 hr hb
        have hsome : (st.2.2 base).1.isSome = true := by
          simp only [sAppend, Option.bind_eq_some_iff] at hr
          obtain ⟨es, _, lts, hl, hr⟩ := hr
          cases hc : (Nat.beq lts.length es.2 && okLay P lts) with
          | false => simp [hc] at hr
          | true =>
            simp only [hc, cond_true] at hr
            have cs : ∀ {yx : Ex} {tch : List Nat} {n : Nat} {H1 : SH}, catStep lts es.1 yx tch n H1 x H = some st → (st.2.2 base).1.isSome = true := by
              intro yx tch n H1 hst
              unfold catStep at hst
              split at hst
              · cases hc' : (Nat.beq lts.length 1 && isSc lts) with
                | false => simp [hc'] at hst
                | true => simp only [hc', cond_true, Option.some.injEq] at hst; subst hst; rfl
              · simp only [Option.map_eq_some_iff] at hst
                obtain ⟨z, _, rfl⟩ := hst; rfl
            split at hr
            · exact cs hr
            · split at hr
              · cases he : Nat.beq _ es.1 with
                | false => rw [he] at hr; simp at hr
                | true => rw [he] at hr; exact cs hr
              · cases hr
            · cases hr
        refine ⟨v, w', ?_, h2⟩
        have hex : execOp ρ' o = (do let d ← resolve ρ' c o.type; invoke d.target d.args) := by unfold execOp; simp only [hop]
        have hmap : c.args.map ρ' = #[v1, v2] := by apply Array.ext'; rw [Array.toList_map]; exact e1
        rw [hex]
        simp only [resolve, hcal, Sem.run_bind, Sem.run_pure, Result.andThen_ok, invoke, hmap]
        have hbi : ∀ cs, builtin .append c.argTypes o.type cs #[v1, v2] = (do pure (.value (← Builtin.append_ c.argTypes o.type #[v1, v2]))) := fun _ => rfl
        rw [hbi]
        cases hh : (st.2.2 base).1 with
        | none => rw [hh] at hsome; simp at hsome
        | some z => simp [h1, NextV]
      · cases hr
    · cases hr
  · cases hr
end
end Go.Proofs.YtfphabkdgdgnbaaGreatDoor.SE
