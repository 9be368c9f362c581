import Derived.Test.YtfphabkdgdgnbaaGreatDoorTrees
import Derived.IntWalk
import Derived.KernelRfl
set_option linter.unusedVariables false
set_option linter.unusedSimpArgs false
namespace Go.Proofs.YtfphabkdgdgnbaaGreatDoor
open Go Go.RowKit Go.Proofs.YtfphabkdgdgnbaaGreatDoor.AE Go.Proofs.YtfphabkdgdgnbaaGreatDoor.SE
theorem und4 : Tryz.prog.underlying 4 = some .bool := Tryz.underlying4
theorem und9 : Tryz.prog.underlying 9 = some .string := Tryz.underlying9
theorem part0 (x y z u : Value) : pureRun Tryz.prog (part 3 #[x, y, z, u] 0) = some x := by kernel_rfl
theorem part1 (x y z u : Value) : pureRun Tryz.prog (part 4 #[x, y, z, u] 1) = some y := by kernel_rfl
theorem part2 (x y z u : Value) : pureRun Tryz.prog (part 3 #[x, y, z, u] 2) = some z := by kernel_rfl
theorem part3 (x y z u : Value) : pureRun Tryz.prog (part 3 #[x, y, z, u] 3) = some u := by kernel_rfl
theorem aim_eq (a b c a' b' c' : Int) (p p' : Bool) : pureRun Tryz.prog (Op.equalIn 10000 91 (.agg #[.int .i64 a, .bool p, .int .i64 b, .int .i64 c]) (.agg #[.int .i64 a', .bool p', .int .i64 b', .int .i64 c'])) = some (a == a' && (p == p' && (b == b' && c == c'))) := by
  rw [Op.equalIn, pureRun_bind, pureRun_und Tryz.underlying91]
  simp only [Option.bind_some]
  rw [pureRun_bind]
  have h1 : pureRun Tryz.prog program = some Tryz.prog := rfl
  rw [h1]; simp only [Option.bind_some]
  rw [show Tryz.prog.stoodInHeld 91 = false by kernel_rfl]
  simp [pureRun_bind, part0, part1, part2, part3, eq_int Tryz.underlying3, eq_bool Tryz.underlying4]
  by_cases h1 : a = a' <;> by_cases h2 : p = p' <;> by_cases h3 : b = b' <;> by_cases h4 : c = c' <;> simp [h1, h2, h3, h4, pureRun_bind, part0, part1, part2, part3, eq_int Tryz.underlying3, eq_bool Tryz.underlying4]
theorem run_aim (op : BinOp) (hop : op = .eql ∨ op = .neq) (a b c a' b' c' : Int) (p p' cx cy : Bool) : PF.run Tryz.prog (.bin op 91 cx cy) [.agg #[.int .i64 a, .bool p, .int .i64 b, .int .i64 c], .agg #[.int .i64 a', .bool p', .int .i64 b', .int .i64 c']] = some (.bool ((a == a' && (p == p' && (b == b' && c == c'))) == decide (op = .eql))) := by
  have hg : pureRun Tryz.prog (eqGuard op 91 (flagOp cx) (flagOp cy) (.agg #[.int .i64 a, .bool p, .int .i64 b, .int .i64 c]) (.agg #[.int .i64 a', .bool p', .int .i64 b', .int .i64 c'])) = some () := by
    rcases hop with rfl | rfl
    · kernel_rfl
    · kernel_rfl
  show pureRun Tryz.prog (_ >>= _) = _
  rw [pureRun_bind, hg, Option.bind_some]
  rcases hop with rfl | rfl
  · show pureRun Tryz.prog (Op.equalIn 10000 91 _ _ >>= _) = _
    rw [pureRun_bind, aim_eq]; simp
  · show pureRun Tryz.prog (Op.equalIn 10000 91 _ _ >>= _) = _
    rw [pureRun_bind, aim_eq]; simp
theorem in_ok (n a b : Int) : M k_workout_in [I n, I a, I b] = some [B (decide (a ≤ n ∧ n ≤ b))] := by
  rw [M_workout_in]; simp [T_workout_in]; split <;> simp [*]
theorem outside_ok (n a b : Int) : M k_harrierref7_outside [I n, I a, I b] = some [B (!decide (a ≤ n ∧ n ≤ b))] := by
  rw [M_harrierref7_outside]; simp [T_harrierref7_outside]; by_cases h : n < a <;> by_cases h' : n ≤ b <;> simp [h, h'] <;> grind
/-- The greatest number of a measure. -/
def most (n : Int) : Int := if n = 1 then 3000 else if n = 2 then 300 else if n = 3 then 300 else 36000
theorem rgreatest_ok (n : Int) : M k_harrierref7_greatest [I n] = some [I (most n)] := by
  rw [M_harrierref7_greatest]; simp [T_harrierref7_greatest, most]; repeat' split
  all_goals rfl
theorem greatest_ok (n : Int) : M k_workout_greatest [I n] = if 0 ≤ n ∧ n ≤ 4 then some [I (if n = 0 then 0 else most n)] else none := by
  rw [M_workout_greatest]
  rcases Int.lt_or_le n 0 with h | h
  · obtain ⟨k, rfl⟩ : ∃ k : Nat, n = Int.negSucc k := ⟨(-n - 1).toNat, by omega⟩
    rw [if_neg (by omega)]; rfl
  · obtain ⟨k, rfl⟩ := Int.eq_ofNat_of_zero_le h
    rcases Nat.lt_or_ge k 5 with h' | h'
    · have : k = 0 ∨ k = 1 ∨ k = 2 ∨ k = 3 ∨ k = 4 := by omega
      rcases this with rfl | rfl | rfl | rfl | rfl <;> rfl
    · obtain ⟨j, rfl⟩ : ∃ j, k = j + 5 := ⟨k - 5, by omega⟩
      rw [if_neg (by omega)]; rfl
def digit (n : Int) : Bool := decide (48 ≤ n ∧ n ≤ 57)
theorem isDigit_ok (n : Int) : M k_quant_isDigit [U n] = some [B (digit n)] := by
  rw [M_quant_isDigit]; simp [T_quant_isDigit, digit]; split <;> simp [*]
theorem risDigit_ok (n : Int) : M k_harrierref1_isDigit [U n] = some [B (digit n)] := by
  rw [M_harrierref1_isDigit]; simp [T_harrierref1_isDigit, digit]; split <;> simp [*]
def nameByte (n : Int) : Bool := decide (97 ≤ n ∧ n ≤ 122) || decide (65 ≤ n ∧ n ≤ 90) || digit n || decide (n = 45) || decide (n = 95) || decide (n = 46)
def isName (s : ByteArray) : Bool := decide (1 ≤ (s.size : Int)) && decide ((s.size : Int) ≤ 60) && (List.range s.size).all fun i => nameByte ((s[i]?.getD 0).toNat)
theorem u8_nat (b : UInt8) : (0 : Int) ≤ b.toNat ∧ (b.toNat : Int) ≤ 255 := ⟨Int.natCast_nonneg _, by have := b.toNat_lt; omega⟩
theorem wrap_up {n : Nat} (h : n < maxLen) : IntKind.i64.wrap ((n : Int) + 1) = n + 1 := IntWalk.i64_in _ (by unfold maxLen at h; omega)
theorem isName_ok (s : ByteArray) (hs : s.size ≤ maxLen) : M k_quant_IsName [St s] = some [B (isName s)] := by
  rw [M_quant_IsName]
  simp [T_quant_IsName, run_len und9]
  rw [iter_all (n := s.size) (p := fun i => nameByte ((s[i]?.getD 0).toNat)) (o1 := some (.out 0 [B false])) (o2 := some (.out 0 [B (decide (1 ≤ (s.size : Int)) && decide ((s.size : Int) ≤ 60))]))]
  · unfold isName
    split
    · simp [*]
    · simp [*]
  · intro i hi
    simp [run_at und9, hi, isDigit_ok, wrap_up (Nat.lt_of_lt_of_le hi hs)]
    generalize ((s[i].toNat : Nat) : Int) = n
    unfold nameByte
    cases hd : digit n <;> simp <;> grind
  · simp only [kF_app, denE_op, denE_ite]
    by_cases h1 : 1 ≤ (s.size : Int) <;> simp [run_len und9, h1]
  · exact exits_out (by decide)
  · exact exits_out (by decide)
theorem risName_ok (s : ByteArray) (hs : s.size ≤ maxLen) : M k_harrierref1_IsName [St s] = some [B (isName s)] := by
  rw [M_harrierref1_IsName]
  simp [T_harrierref1_IsName, run_len und9]
  rw [iter_all (n := s.size) (p := fun i => nameByte ((s[i]?.getD 0).toNat)) (o1 := some (.out 0 [B false])) (o2 := some (.out 0 [B true]))]
  · unfold isName
    generalize ((List.range s.size).all fun i => nameByte ↑(s[i]?.getD 0).toNat) = b
    by_cases h1 : (s.size : Int) < 1 <;> by_cases h2 : 60 < (s.size : Int) <;> cases b <;> simp [h1, h2] <;> omega
  · intro i hi
    simp [run_at und9, run_len und9, hi, risDigit_ok, wrap_up (Nat.lt_of_lt_of_le hi hs)]
    generalize ((s[i].toNat : Nat) : Int) = n
    unfold nameByte
    cases hd : digit n <;> simp <;> grind
  · simp [run_len und9]
  · exact exits_out (by decide)
  · exact exits_out (by decide)
end Go.Proofs.YtfphabkdgdgnbaaGreatDoor
