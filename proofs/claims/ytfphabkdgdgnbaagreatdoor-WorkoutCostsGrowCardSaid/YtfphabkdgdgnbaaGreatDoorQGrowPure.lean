import Derived.Test.YtfphabkdgdgnbaaGreatDoorQGrowx3
namespace Go.Proofs.YtfphabkdgdgnbaaGreatDoor.QGrow
open Go.RowKit Go.Proofs.YtfphabkdgdgnbaaGreatDoorW.PrintWords Go.Proofs.YtfphabkdgdgnbaaGreatDoorW.PrintLast Go.Proofs.YtfphabkdgdgnbaaGreatDoorW.PrintMore
set_option linter.unusedVariables false
set_option linter.unusedSimpArgs false

theorem wrap_up {i : Int} {n : Nat} (h0 : 0 ≤ i) (h : i < (n : Int)) (hn : n ≤ 140737488355328) : wrap64 (i + 1) = i + 1 := by
  unfold wrap64
  omega
theorem rd_nat (l : List Int) (i : Nat) : rd l (i : Int) = l.getD i 0 := by simp [rd]
theorem take_up (l : List Int) (i : Nat) (h : i < l.length) : l.take (i + 1) = l.take i ++ [l.getD i 0] := by
  rw [List.take_succ_eq_append_getElem h]
  simp [List.getD, h]

/-- What CheckStream says. -/
def chk (l : List Int) : Int := if (l.length : Int) > 1000000 then 3 else if (∀ x ∈ l, -1 ≤ x ∧ x ≤ 1000000000) then 0 else 9
theorem chk_loop (l : List Int) (hl : l.length ≤ 1000000) : ∀ (d i : Nat), i + d = l.length → Ev (fun k => effort_CheckStream.l0 k l (l.length : Int) (i : Int)) (if (∀ x ∈ l.drop i, -1 ≤ x ∧ x ≤ 1000000000) then 0 else 9)
  | 0, i, h => by
    have : l.drop i = [] := List.drop_eq_nil_iff.2 (by omega)
    rw [this]
    refine Ev.step (f := fun _ => some 0) (fun k => ?_) (by simpa using Ev.now (0 : Int))
    simp only [effort_CheckStream.l0]
    rw [if_neg (by omega)]
  | d + 1, i, h => by
    have hi : i < l.length := by omega
    have hdrop : l.drop i = l.getD i 0 :: l.drop (i + 1) := by
      rw [List.drop_eq_getElem_cons hi]; simp [List.getD, hi]
    have ih := chk_loop l hl d (i + 1) (by omega)
    rw [hdrop]
    by_cases hx : -1 ≤ l.getD i 0 ∧ l.getD i 0 ≤ 1000000000
    · have e : (∀ x ∈ l.getD i 0 :: l.drop (i + 1), -1 ≤ x ∧ x ≤ 1000000000) ↔ (∀ x ∈ l.drop (i + 1), -1 ≤ x ∧ x ≤ 1000000000) := by
        constructor
        · intro h x hm; exact h x (List.mem_cons_of_mem _ hm)
        · intro h x hm
          rcases List.mem_cons.1 hm with rfl | hm
          · exact hx
          · exact h x hm
      simp only [e]
      refine Ev.step (fun k => ?_) ih
      simp only [effort_CheckStream.l0]
      rw [if_pos (by omega), if_pos (by omega), if_pos (by omega), rd_nat]
      unfold effort_in.f
      rw [if_pos (by omega), decide_eq_true hx.2]
      simp only [Option.bind_some, if_true]
      rw [wrap_up (n := l.length) (by omega) (by omega) (by omega)]
      rfl
    · rw [if_neg (fun h => hx (h _ (List.mem_cons_self ..)))]
      refine Ev.step (f := fun _ => some 9) (fun k => ?_) (Ev.now 9)
      simp only [effort_CheckStream.l0]
      rw [if_pos (by omega), if_pos (by omega), if_pos (by omega), rd_nat]
      unfold effort_in.f
      by_cases h1 : l.getD i 0 ≥ -1
      · rw [if_pos h1, decide_eq_false (by omega)]; rfl
      · rw [if_neg h1]; rfl
theorem chk_ev (l : List Int) : Ev (fun k => effort_CheckStream.f k l) (chk l) := by
  unfold effort_CheckStream.f chk
  by_cases h : (l.length : Int) > 1000000
  · simp only [if_pos h]; exact Ev.now 3
  · simp only [if_neg h]
    have := chk_loop l (by omega) l.length 0 (by omega)
    simpa using this
/-- What a number costs between two bounds. -/
def cst (m lo hi n : Int) : Int :=
  if m = 0 then 0 else if n < 0 then 1000 else if n < lo then mn (wrap64 (Int.tdiv (wrap64 (1000 * (wrap64 (lo - n)))) (mx lo 1))) 1000
  else if n > hi then mn (wrap64 (Int.tdiv (wrap64 (1000 * (wrap64 (n - hi)))) (mx hi 1))) 1000 else 0
theorem mx_one (x : Int) : ¬ mx x 1 = 0 := by unfold mx; split <;> omega

section
variable (f t : Int) (s : ByteArray) (m L H g h : Int)
theorem costs_loop (lo hi : Int) (hlo : m ≠ 0 → 0 ≤ lo) (l : List Int) (hl : l.length ≤ 1000000) : ∀ (d i : Nat), i + d = l.length →
    Ev (fun k => workout_costs.l0 k lo hi ((l.take i).map (cst m lo hi) ++ List.replicate d 0) l (l.length : Int) (i : Int) f t s m L H g h) (l.map (cst m lo hi))
  | 0, i, hd => by
    have : l.take i = l := List.take_of_length_le (by omega)
    rw [this]
    refine Ev.step (f := fun _ => some (l.map (cst m lo hi))) (fun k => ?_) (Ev.now _)
    simp only [workout_costs.l0]
    rw [if_neg (by omega)]
    simp
  | d + 1, i, hd => by
    have hi' : i < l.length := by omega
    have ih := costs_loop lo hi hlo l hl d (i + 1) (by omega)
    have hlen : ((l.take i).map (cst m lo hi)).length = i := by simp; omega
    have hw : wrap64 ((i : Int) + 1) = ((i + 1 : Nat) : Int) := by rw [wrap_up (n := l.length) (by omega) (by omega) (by omega)]; rfl
    -- what is stored
    have hset : ∀ v, ((l.take i).map (cst m lo hi) ++ List.replicate (d + 1) 0).set ((i : Int)).toNat v = (l.take i).map (cst m lo hi) ++ [v] ++ List.replicate d 0 := by
      intro v
      rw [Int.toNat_natCast, List.set_append_right _ _ (by omega), hlen, Nat.sub_self, List.replicate_succ, List.set_cons_zero]
      simp
    have hnew : (l.take (i + 1)).map (cst m lo hi) = (l.take i).map (cst m lo hi) ++ [cst m lo hi (l.getD i 0)] := by rw [take_up l i hi']; simp
    have hkeep : cst m lo hi (l.getD i 0) = 0 → (l.take i).map (cst m lo hi) ++ List.replicate (d + 1) 0 = (l.take (i + 1)).map (cst m lo hi) ++ List.replicate d 0 := by
      intro e; rw [hnew, e, List.replicate_succ]; simp
    have hput : ∀ v, cst m lo hi (l.getD i 0) = v → ((l.take i).map (cst m lo hi) ++ List.replicate (d + 1) 0).set ((i : Int)).toNat v = (l.take (i + 1)).map (cst m lo hi) ++ List.replicate d 0 := by
      intro v e; rw [hset, hnew, e]
    have hin : (i : Int) < ((((l.take i).map (cst m lo hi) ++ List.replicate (d + 1) 0).length : Nat) : Int) := by rw [List.length_append, hlen, List.length_replicate]; omega
    by_cases hm : m = 0
    · have e : cst m lo hi (l.getD i 0) = 0 := by simp [cst, hm]
      refine Ev.step (f := fun k => workout_costs.j2 k lo hi ((l.take i).map (cst m lo hi) ++ List.replicate (d + 1) 0) i (rd l i) l (l.length : Int) i true f t s m L H g h) (fun k => ?_) ?_
      · simp only [workout_costs.l0]
        rw [if_pos (by omega), if_pos (by omega), if_pos (by omega), if_pos hm]
      · refine Ev.step (fun k => ?_) ih
        simp only [workout_costs.j2, if_true]
        rw [hw, hkeep e]
    · have hlo := hlo hm
      by_cases hr : l.getD i 0 ≥ lo ∧ l.getD i 0 ≤ hi
      · have e : cst m lo hi (l.getD i 0) = 0 := by
          unfold cst
          rw [if_neg hm, if_neg (by omega), if_neg (by omega), if_neg (by omega)]
        refine Ev.step (f := fun k => workout_costs.j2 k lo hi ((l.take i).map (cst m lo hi) ++ List.replicate (d + 1) 0) i (rd l i) l (l.length : Int) i true f t s m L H g h) (fun k => ?_) ?_
        · simp only [workout_costs.l0]
          rw [if_pos (by omega), if_pos (by omega), if_pos (by omega), if_neg hm, rd_nat, if_pos hr.1, decide_eq_true hr.2]
        · refine Ev.step (fun k => ?_) ih
          simp only [workout_costs.j2, if_true]
          rw [hw, hkeep e]
      · refine Ev.step (f := fun k => workout_costs.j2 k lo hi ((l.take i).map (cst m lo hi) ++ List.replicate (d + 1) 0) i (rd l i) l (l.length : Int) i false f t s m L H g h) (fun k => ?_) ?_
        · simp only [workout_costs.l0]
          rw [if_pos (by omega), if_pos (by omega), if_pos (by omega), if_neg hm, rd_nat]
          by_cases h1 : l.getD i 0 ≥ lo
          · rw [if_pos h1, decide_eq_false (fun h2 => hr ⟨h1, h2⟩)]
          · rw [if_neg h1]
        · refine Ev.step (fun k => ?_) ih
          simp only [workout_costs.j2, Bool.false_eq_true, if_false, rd_nat]
          by_cases h1 : l.getD i 0 < 0
          · rw [if_pos h1, if_pos (by omega), if_pos hin, hw, hput 1000 (by unfold cst; rw [if_neg hm, if_pos h1])]
          · rw [if_neg h1]
            by_cases h2 : l.getD i 0 < lo
            · rw [if_pos h2, if_neg (mx_one _), if_pos (by omega), if_pos hin, hw, hput _ (by unfold cst; rw [if_neg hm, if_neg h1, if_pos h2])]
            · rw [if_neg h2, if_neg (mx_one _), if_pos (by omega), if_pos hin, hw, hput _ (by unfold cst; rw [if_neg hm, if_neg h1, if_neg h2, if_pos (by omega)])]
/-- The bounds of a block. -/
def low (m L H : Int) : Int := if m = 4 then wrap64 ((10000 : Int) / H) else L
def high (m L H : Int) : Int := if m = 4 then wrap64 (Int.tdiv (wrap64 ((wrap64 (10000 + L)) - 1)) L) else H
theorem low_nonneg {m L H : Int} (hL : 1 ≤ L) (hH : 1 ≤ H ∧ H ≤ 40000) : 0 ≤ low m L H := by
  unfold low
  split
  · have h1 : (10000 : Int) / H ≤ 10000 := Int.ediv_le_self _ (by omega)
    have h2 : (0 : Int) ≤ 10000 / H := Int.ediv_nonneg (by omega) (by omega)
    unfold wrap64; omega
  · omega
theorem costs_ev (hLH : m ≠ 0 → 1 ≤ L ∧ 1 ≤ H ∧ H ≤ 40000) (hm : 0 ≤ m) (l : List Int) (hl : l.length ≤ 1000000) : Ev (fun k => workout_costs.f k f t s m L H g h l) (l.map (cst m (low m L H) (high m L H))) := by
  have key : Ev (fun k => workout_costs.j0 k l (low m L H) (high m L H) f t s m L H g h) (l.map (cst m (low m L H) (high m L H))) := by
    refine Ev.step (fun k => ?_) (costs_loop f t s m L H g h (low m L H) (high m L H) (fun hm0 => low_nonneg (hLH hm0).1 (hLH hm0).2) l hl l.length 0 (by omega))
    simp only [workout_costs.j0]
    rw [if_pos (by omega), if_pos (by omega)]
    simp
  refine Ev.congr (fun k => ?_) key
  unfold workout_costs.f
  by_cases h4 : m = 4
  · have := hLH (by omega)
    rw [if_pos h4, if_neg (by omega), if_neg (by omega)]
    simp only [low, high, if_pos h4]
  · rw [if_neg h4]
    simp only [low, high, if_neg h4]
/-- What Costs says. -/
def costsAns (m L H : Int) (l : List Int) : List Int × Int :=
  if ¬ (0 ≤ m ∧ m ≤ 4) then ([], 7) else if m ≠ 0 ∧ ¬ ((1 ≤ L ∧ L ≤ 40000) ∧ (1 ≤ H ∧ H ≤ 40000)) then ([], 9) else if m ≠ 0 ∧ L > H then ([], 10)
  else if chk l = 0 then (l.map (cst m (low m L H) (high m L H)), 0) else ([], chk l)
theorem chk_len {l : List Int} (h : chk l = 0) : l.length ≤ 1000000 := by
  unfold chk at h
  split at h <;> omega
theorem j1_ev (hLH : m ≠ 0 → 1 ≤ L ∧ 1 ≤ H ∧ H ≤ 40000) (hm : 0 ≤ m) (l : List Int) : Ev (fun k => workout_Costs.j1 k l f t s m L H g h) (if chk l = 0 then (l.map (cst m (low m L H) (high m L H)), 0) else ([], chk l)) := by
  refine Ev.step (f := fun k => (effort_CheckStream.f k l).bind fun e => if e = 0 then ((workout_costs.f k f t s m L H g h l).bind fun r => some (r, 0)) else some ([], e)) (fun k => by simp only [workout_Costs.j1]) ?_
  refine Ev.bind (chk_ev l) ?_
  by_cases hc : chk l = 0
  · simp only [if_pos hc]
    exact Ev.bind (costs_ev f t s m L H g h hLH hm l (chk_len hc)) (Ev.now _)
  · simp only [if_neg hc]; exact Ev.now _
theorem in_eq (a b c : Int) : workout_in.f a b c = some (decide (b ≤ a ∧ a ≤ c)) := by
  unfold workout_in.f
  by_cases h : a ≥ b
  · rw [if_pos h]; simp [h]
  · rw [if_neg h]; simp [h]
theorem Costs_ev (l : List Int) : Ev (fun k => workout_Costs.f k f t s m L H g h l) (costsAns m L H l) := by
  unfold workout_Costs.f costsAns
  simp only [in_eq, Option.bind_some]
  by_cases h1 : 0 ≤ m ∧ m ≤ 4
  · simp only [decide_eq_true h1, if_true]
    rw [if_neg (fun hh => hh h1)]
    by_cases h0 : m = 0
    · rw [if_neg (by omega), if_neg (by omega)]
      simp only [if_pos h0]
      exact j1_ev f t s m L H g h (by omega) h1.1 l
    · simp only [if_neg h0]
      by_cases h2 : (1 ≤ L ∧ L ≤ 40000)
      · simp only [decide_eq_true h2, if_true]
        by_cases h3 : (1 ≤ H ∧ H ≤ 40000)
        · rw [if_neg (fun hh => hh.2 ⟨h2, h3⟩)]
          by_cases h4 : L > H
          · rw [if_pos ⟨h0, h4⟩]
            refine Ev.step (f := fun _ => some (([] : List Int), 10)) (fun k => ?_) (Ev.now _)
            simp only [workout_Costs.j0, decide_eq_true h3, Bool.not_true, Bool.false_eq_true, if_false, if_pos h4]
          · rw [if_neg (fun hh => h4 hh.2)]
            refine Ev.step (fun k => ?_) (j1_ev f t s m L H g h (fun _ => ⟨h2.1, h3⟩) h1.1 l)
            simp only [workout_Costs.j0, decide_eq_true h3, Bool.not_true, Bool.false_eq_true, if_false, if_neg h4]
        · rw [if_pos ⟨h0, fun hh => h3 hh.2⟩]
          refine Ev.step (f := fun _ => some (([] : List Int), 9)) (fun k => ?_) (Ev.now _)
          simp only [workout_Costs.j0, decide_eq_false h3, Bool.not_false, if_true]
      · simp only [decide_eq_false h2, Bool.false_eq_true, if_false]
        rw [if_pos ⟨h0, fun hh => h2 hh.1⟩]
        refine Ev.step (f := fun _ => some (([] : List Int), 9)) (fun k => ?_) (Ev.now _)
        simp only [workout_Costs.j0, if_true]
  · simp only [decide_eq_false h1, Bool.false_eq_true, if_false]
    rw [if_pos h1]; exact Ev.now _
end
theorem ans_len (m L H : Int) (l : List Int) : (costsAns m L H l).1.length ≤ 1000000 := by
  unfold costsAns
  split
  · simp
  · split
    · simp
    · split
      · simp
      · split
        · rename_i h; simpa using chk_len h
        · simp

/-- What is told of a cost without wrapping. -/
theorem wrap_in {x : Int} (h0 : -9223372036854775808 ≤ x) (h1 : x ≤ 9223372036854775807) : wrap64 x = x := by
  unfold wrap64; omega
theorem cst_low {m L H n : Int} (hm : m ≠ 0) (hL : 1 ≤ L ∧ L ≤ 40000) (hn : 0 ≤ n) (h : n < L) : cst m L H n = mn ((1000 * (L - n)) / L) 1000 := by
  unfold cst
  rw [if_neg hm, if_neg (by omega), if_pos h, wrap_in (x := L - n) (by omega) (by omega), wrap_in (x := 1000 * (L - n)) (by omega) (by omega)]
  have e : mx L 1 = L := by unfold mx; split <;> omega
  rw [e, Int.tdiv_eq_ediv_of_nonneg (by omega)]
  have h1 : (1000 * (L - n)) / L ≤ 1000 * (L - n) := Int.ediv_le_self _ (by omega)
  have h2 : 0 ≤ (1000 * (L - n)) / L := Int.ediv_nonneg (by omega) (by omega)
  rw [wrap_in (by omega) (by omega)]
theorem cst_high {m L H n : Int} (hm : m ≠ 0) (hLH : L ≤ H) (hL : 1 ≤ L) (hH : H ≤ 40000) (hn : 0 ≤ n ∧ n ≤ 2000000) (h : n > H) : cst m L H n = mn ((1000 * (n - H)) / H) 1000 := by
  unfold cst
  rw [if_neg hm, if_neg (by omega), if_neg (by omega), if_pos h, wrap_in (x := n - H) (by omega) (by omega), wrap_in (x := 1000 * (n - H)) (by omega) (by omega)]
  have e : mx H 1 = H := by unfold mx; split <;> omega
  rw [e, Int.tdiv_eq_ediv_of_nonneg (by omega)]
  have h1 : (1000 * (n - H)) / H ≤ 1000 * (n - H) := Int.ediv_le_self _ (by omega)
  have h2 : 0 ≤ (1000 * (n - H)) / H := Int.ediv_nonneg (by omega) (by omega)
  rw [wrap_in (by omega) (by omega)]
theorem cst_in {m L H n : Int} (hn : 0 ≤ n) (h : L ≤ n ∧ n ≤ H) : cst m L H n = 0 := by
  unfold cst
  split
  · rfl
  · rw [if_neg (by omega), if_neg (by omega), if_neg (by omega)]
theorem mn_mono {a b : Int} (h : a ≤ b) : mn a 1000 ≤ mn b 1000 := by unfold mn; split <;> split <;> omega
theorem pure_grow (f t : Int) (s : ByteArray) (m L H g h : Int) (n by' : Int) : ∃ k, harrierlaw7_WorkoutCostsGrow.f k f t s m L H g h n by' = some true := by
  refine Ev.rounds ?_
  have start : Ev (fun k => harrierlaw7_WorkoutCostsGrow.j0 k n by' true f t s m L H g h) true :=
    Ev.step (f := fun _ => some true) (fun k => by simp only [harrierlaw7_WorkoutCostsGrow.j0, if_true, told.f, Option.bind_some]) (Ev.now true)
  unfold harrierlaw7_WorkoutCostsGrow.f
  by_cases h1 : n < 0
  · simp only [if_pos h1]; exact start
  simp only [if_neg h1]
  by_cases h2 : n > 1000000
  · simp only [if_pos h2]; exact start
  simp only [if_neg h2]
  by_cases h3 : by' < 0
  · simp only [if_pos h3]; exact start
  simp only [if_neg h3]
  by_cases h4 : by' > 1000000
  · simp only [decide_eq_true h4]; exact start
  simp only [decide_eq_false h4]
  have hw : wrap64 (n + by') = n + by' := wrap_in (by omega) (by omega)
  have hchk : chk [n, n + by'] = 0 := by
    unfold chk
    rw [if_neg (by simp), if_pos (fun x hx => by simp at hx; omega)]
  refine Ev.step (f := fun k => (workout_Costs.f k f t s m L H g h [n, n + by']).bind fun a => if a.2 = 0 then (if m = 0 then harrierlaw7_WorkoutCostsGrow.j1 k n by' a.1 true f t s m L H g h else harrierlaw7_WorkoutCostsGrow.j1 k n by' a.1 (m == 4) f t s m L H g h) else harrierlaw7_WorkoutCostsGrow.j1 k n by' a.1 true f t s m L H g h) (fun k => by
    simp only [harrierlaw7_WorkoutCostsGrow.j0, Bool.false_eq_true, if_false, hw]) ?_
  have done : ∀ l, Ev (fun k => harrierlaw7_WorkoutCostsGrow.j1 k n by' l true f t s m L H g h) true := fun l =>
    Ev.step (f := fun _ => some true) (fun k => by simp only [harrierlaw7_WorkoutCostsGrow.j1, if_true, told.f, Option.bind_some]) (Ev.now true)
  refine Ev.bind (Costs_ev f t s m L H g h [n, n + by']) ?_
  unfold costsAns
  by_cases c1 : ¬ (0 ≤ m ∧ m ≤ 4)
  · simp only [if_pos c1, show ((7 : Int) = 0) = False by simp, if_false]; exact done _
  simp only [if_neg c1]
  by_cases c2 : m ≠ 0 ∧ ¬ ((1 ≤ L ∧ L ≤ 40000) ∧ (1 ≤ H ∧ H ≤ 40000))
  · simp only [if_pos c2, show ((9 : Int) = 0) = False by simp, if_false]; exact done _
  simp only [if_neg c2]
  by_cases c3 : m ≠ 0 ∧ L > H
  · simp only [if_pos c3, show ((10 : Int) = 0) = False by simp, if_false]; exact done _
  simp only [if_neg c3, if_pos hchk]
  simp only [if_true]
  by_cases c4 : m = 0
  · simp only [if_pos c4]; exact done _
  simp only [if_neg c4]
  by_cases c5 : m = 4
  · have : (m == 4) = true := by simp [c5]
    simp only [this]; exact done _
  have c5b : (m == 4) = false := by simp [c5]
  simp only [c5b]
  have hLH : (1 ≤ L ∧ L ≤ 40000) ∧ (1 ≤ H ∧ H ≤ 40000) := Classical.byContradiction fun hc => c2 ⟨c4, hc⟩
  have hle : L ≤ H := by
    rcases Int.lt_or_le H L with hc | hc
    · exact absurd ⟨c4, hc⟩ c3
    · exact hc
  have elo : low m L H = L := by simp [low, c5]
  have ehi : high m L H = H := by simp [high, c5]
  simp only [elo, ehi, List.map_cons, List.map_nil]
  have fin : ∀ b, Ev (fun k => harrierlaw7_WorkoutCostsGrow.j2 k n by' [cst m L H n, cst m L H (n + by')] b f t s m L H g h) true → (decide (n ≥ L ∧ n ≤ H) = b) → Ev (fun k => harrierlaw7_WorkoutCostsGrow.j1 k n by' [cst m L H n, cst m L H (n + by')] false f t s m L H g h) true := by
    intro b hb e
    refine Ev.step (fun k => ?_) hb
    simp only [harrierlaw7_WorkoutCostsGrow.j1, Bool.false_eq_true, if_false]
    rw [if_pos (by simp)]
    by_cases hn : n ≥ L
    · rw [if_pos hn]
      have : decide (n ≤ H) = b := by rw [← e]; simp [hn]
      rw [this]
    · rw [if_neg hn]
      have : false = b := by rw [← e]; simp [hn]
      rw [this]
  have r0 : rd [cst m L H n, cst m L H (n + by')] 0 = cst m L H n := by simp [rd]
  have r1 : rd [cst m L H n, cst m L H (n + by')] 1 = cst m L H (n + by') := by simp [rd]
  by_cases hin : n ≥ L ∧ n ≤ H
  · refine fin true ?_ (decide_eq_true hin)
    refine Ev.step (f := fun _ => some true) (fun k => ?_) (Ev.now true)
    simp only [harrierlaw7_WorkoutCostsGrow.j2, if_true, r0, told.f, Option.bind_some]
    rw [if_pos (by simp), if_pos (cst_in (by omega) hin)]
  · refine fin false ?_ (decide_eq_false hin)
    refine Ev.step (f := fun _ => some true) (fun k => ?_) (Ev.now true)
    simp only [harrierlaw7_WorkoutCostsGrow.j2, Bool.false_eq_true, if_false, r0, r1, told.f, Option.bind_some, hw]
    by_cases hh : n > H
    · rw [if_pos hh, if_pos (by simp), if_pos (by simp)]
      rw [cst_high c4 hle hLH.1.1 hLH.2.2 ⟨by omega, by omega⟩ hh, cst_high c4 hle hLH.1.1 hLH.2.2 ⟨by omega, by omega⟩ (by omega : n + by' > H)]
      rw [if_pos (mn_mono (Int.ediv_le_ediv (by omega) (by omega)))]
      rw [wrap_in (x := n - H) (by omega) (by omega), wrap_in (x := 1000 * (n - H)) (by omega) (by omega)]
      rw [if_pos]
      have hq : (1000 * (n - H)) / H > 0 ↔ 1000 * (n - H) ≥ H := by
        constructor
        · intro hp
          have := (Int.le_ediv_iff_mul_le (c := H) (a := 1) (b := 1000 * (n - H)) (by omega)).1 (by omega)
          omega
        · intro hp
          have := (Int.le_ediv_iff_mul_le (c := H) (a := 1) (b := 1000 * (n - H)) (by omega)).2 (by omega)
          omega
      have hm0 : mn ((1000 * (n - H)) / H) 1000 > 0 ↔ (1000 * (n - H)) / H > 0 := by unfold mn; split <;> omega
      by_cases hb : 1000 * (n - H) ≥ H
      · simp [hb, hm0.2 (hq.2 hb)]
      · have : ¬ mn ((1000 * (n - H)) / H) 1000 > 0 := fun hc => hb (hq.1 (hm0.1 hc))
        simp [hb, this]
    · rw [if_neg hh]
      by_cases hl : n + by' > L
      · rw [if_pos hl]
      · rw [if_neg hl, if_pos (by simp), if_pos (by simp)]
        have hnL : n < L := by omega
        rw [cst_low c4 hLH.1 (by omega) hnL]
        by_cases he : n + by' = L
        · rw [cst_in (by omega) (by omega), if_pos]
          have : 0 ≤ (1000 * (L - n)) / L := Int.ediv_nonneg (by omega) (by omega)
          unfold mn; split <;> omega
        · rw [cst_low c4 hLH.1 (by omega) (by omega), if_pos (mn_mono (Int.ediv_le_ediv (by omega) (by omega)))]
end Go.Proofs.YtfphabkdgdgnbaaGreatDoor.QGrow
