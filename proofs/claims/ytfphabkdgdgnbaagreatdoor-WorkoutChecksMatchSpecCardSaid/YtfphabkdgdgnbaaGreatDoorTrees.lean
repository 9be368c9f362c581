import Derived.Test.YtfphabkdgdgnbaaGreatDoorSEg
import Derived.Test.YtfphabkdgdgnbaaGreatDoorProg
set_option linter.unusedVariables false
set_option linter.unusedSimpArgs false
namespace Go.Proofs.YtfphabkdgdgnbaaGreatDoor
open Go Go.RowKit Go.Proofs.YtfphabkdgdgnbaaGreatDoor.AE Go.Proofs.YtfphabkdgdgnbaaGreatDoor.SE
/-- The tables. -/
instance : Tb := ⟨[(7, [1, 10, 100, 1000, 10000, 100000, 1000000, 10000000, 100000000, 1000000000, 10000000000, 100000000000, 1000000000000, 10000000000000, 100000000000000, 1000000000000000, 10000000000000000, 100000000000000000, 1000000000000000000, 10000000000000000000].map (Value.int .u64))]⟩
def sg : List Sig := [⟨3, [.agg [.s (.x 0), .d 93 (.x 1)], .agg [.s (.x 2), .d 93 (.x 3)]], [], 4, .s (.x 4), [], 1⟩,
  ⟨15, [.agg [.s (.x 0), .d 93 (.x 1)]], [], 2, .s (.x 2), [], 1⟩,
  ⟨16, [.agg [.s (.x 0), .d 93 (.x 1)]], [], 2, .s (.x 2), [], 1⟩,
  ⟨45, [.s (.x 0)], [], 1, .s (.x 1), [], 1⟩,
  ⟨17, [.agg [.s (.x 0), .d 93 (.x 1)], .agg [.s (.x 2), .d 93 (.x 3)]], [], 4, .s (.x 4), [], 1⟩,
  ⟨46, [.d 93 (.x 0), .s (.x 1), .ptr 0 0], [.box [.s (.x 2)] 3], 3, .s (.x 3), [.box [.s (.x 4)] 3], 2⟩,
  ⟨48, [.s (.x 0)], [], 1, .s (.x 1), [], 1⟩,
  ⟨90, [.s (.x 0)], [], 1, .s (.x 1), [], 1⟩,
  ⟨18, [.agg [.s (.x 0), .d 93 (.x 1)], .agg [.s (.x 2), .d 93 (.x 3)]], [], 4, .s (.x 4), [], 1⟩,
  ⟨47, [.d 93 (.x 0)], [], 1, .s (.x 1), [], 1⟩,
  ⟨49, [.d 93 (.x 0), .s (.x 1), .s (.x 2)], [], 3, .tup [.s (.x 3), .s (.x 4)], [], 2⟩,
  ⟨51, [.d 93 (.x 0), .d 93 (.x 1)], [], 2, .s (.x 2), [], 1⟩,
  ⟨91, [.agg [.s (.x 0), .s (.x 1), .s (.x 2), .s (.x 3), .s (.x 4), .s (.x 5), .s (.x 6), .s (.x 7), .s (.x 8), .d 93 (.x 9)]], [], 10, .s (.x 10), [], 1⟩,
  ⟨92, [.agg [.s (.x 0), .s (.x 1), .s (.x 2), .s (.x 3), .s (.x 4), .s (.x 5), .s (.x 6), .s (.x 7), .s (.x 8), .d 93 (.x 9)]], [], 10, .s (.x 10), [], 1⟩,
  ⟨93, [.s (.x 0)], [], 1, .s (.x 1), [], 1⟩,
  ⟨19, [], [], 0, .s (.x 0), [], 1⟩,
  ⟨50, [.d 93 (.x 0)], [], 1, .s (.x 1), [], 1⟩,
  ⟨52, [.d 93 (.x 0), .d 93 (.x 1)], [], 2, .s (.x 2), [], 1⟩,
  ⟨94, [.agg [.s (.x 0), .s (.x 1), .s (.x 2), .s (.x 3), .s (.x 4), .s (.x 5), .s (.x 6), .s (.x 7), .s (.x 8), .d 93 (.x 9)]], [], 10, .s (.x 10), [], 1⟩,
  ⟨68, [.s (.x 0), .s (.x 1), .s (.x 2)], [], 3, .s (.x 3), [], 1⟩,
  ⟨95, [.d 93 (.x 0), .d 93 (.x 1), .c (.func (.func 96) #[] #[])], [], 2, .s (.x 2), [], 1⟩,
  ⟨67, [.s (.x 0), .s (.x 1), .s (.x 2)], [], 3, .s (.x 3), [], 1⟩,
  ⟨143, [.s (.x 0)], [], 1, .s (.x 1), [], 1⟩,
  ⟨144, [.agg [.s (.x 0), .s (.x 1), .s (.x 2), .s (.x 3), .s (.x 4), .s (.x 5), .s (.x 6), .s (.x 7), .s (.x 8), .d 93 (.x 9)]], [], 10, .s (.x 10), [], 1⟩,
  ⟨96, [.agg [.s (.x 0), .s (.x 1), .s (.x 2), .s (.x 3), .s (.x 4), .s (.x 5), .s (.x 6), .s (.x 7), .s (.x 8), .d 93 (.x 9)], .agg [.s (.x 10), .s (.x 11), .s (.x 12), .s (.x 13), .s (.x 14), .s (.x 15), .s (.x 16), .s (.x 17), .s (.x 18), .d 93 (.x 19)]], [], 20, .s (.x 20), [], 1⟩,
  ⟨169, [.s (.x 0)], [], 1, .s (.x 1), [], 1⟩]
abbrev k_harrierlaw7_WorkoutChecksMatchSpec : Nat := 0
abbrev k_workout_Check : Nat := 1
abbrev k_harrierref7_Check : Nat := 2
abbrev k_quant_IsName : Nat := 3
abbrev k_workout_Same : Nat := 4
abbrev k_workout_checkItems : Nat := 5
abbrev k_harrierref1_IsName : Nat := 6
abbrev k_quant_isDigit : Nat := 7
abbrev k_harrierref7_Same : Nat := 8
abbrev k_workout_blocks : Nat := 9
abbrev k_harrierref7_checkItems : Nat := 10
abbrev k_workout_sameItems : Nat := 11
abbrev k_workout_checkStep : Nat := 12
abbrev k_workout_checkRepeat : Nat := 13
abbrev k_harrierref1_isDigit : Nat := 14
abbrev k_harrierlaw7_told : Nat := 15
abbrev k_harrierref7_many : Nat := 16
abbrev k_harrierref7_sameItems : Nat := 17
abbrev k_harrierref7_checkStep : Nat := 18
abbrev k_harrierref7_outside : Nat := 19
abbrev k_slices_EqualFunc : Nat := 20
abbrev k_workout_in : Nat := 21
abbrev k_workout_greatest : Nat := 22
abbrev k_harrierref7_checkAim : Nat := 23
abbrev k_workout_sameItem : Nat := 24
abbrev k_harrierref7_greatest : Nat := 25
/-- harrier/harrierlaw7.WorkoutChecksMatchSpec -/
def T_harrierlaw7_WorkoutChecksMatchSpec : Tree Unit := .join 398 (.op (.call k_workout_Check [.x 0, .x 1]) 1 <|
  .op (.call k_harrierref7_Check [.x 0, .x 1]) 1 <|
  .op (.pure (.bin .eql 25 false false) [.s (.x 4), .s (.x 5)]) 1 <|
  .ite (.x 6) (.op (.call k_workout_Same [.x 0, .x 1, .x 2, .x 3]) 1 <|
  .op (.call k_harrierref7_Same [.x 0, .x 1, .x 2, .x 3]) 1 <|
  .op (.pure (.bin .eql 4 false false) [.s (.x 7), .s (.x 8)]) 1 <|
  .ite (.x 9) (.op (.call k_workout_Same [.x 0, .x 1, .x 0, .x 1]) 1 <|
  .ite (.x 10) (.op (.call k_harrierlaw7_told []) 1 <|
  .out 398 [.x 11]) <|
  .out 398 [.v (.bool false)]) <|
  .out 398 [.v (.bool false)]) <|
  .out 398 [.v (.bool false)]) <|
  .out 0 [.x 4]
/-- harrier/workout.Check -/
def T_workout_Check : Tree Unit := .op (.call k_quant_IsName [.x 0]) 1 <|
  .op (.pure (.un .not) [.s (.x 2)]) 1 <|
  .ite (.x 3) (.out 0 [.v (.int .i64 8)]) <|
  .op (.llen (.x 1)) 1 <|
  .op (.pure (.bin .eql 3 false true) [.s (.x 4), .c (.int .i64 0)]) 1 <|
  .ite (.x 5) (.out 0 [.v (.int .i64 13)]) <|
  .op (.call k_workout_checkItems [.x 1, .v (.int .i64 0), .v (.int .i64 0)]) 2 <|
  .op (.pure (.bin .neq 25 false true) [.s (.x 6), .c (.int .i64 0)]) 1 <|
  .ite (.x 8) (.out 0 [.x 6]) <|
  .op (.call k_workout_blocks [.x 1]) 1 <|
  .op (.pure (.bin .gtr 3 false true) [.s (.x 9), .c (.int .i64 1000)]) 1 <|
  .ite (.x 10) (.out 0 [.v (.int .i64 3)]) <|
  .out 0 [.v (.int .i64 0)]
/-- harrier/harrierref7.Check -/
def T_harrierref7_Check : Tree Unit := .op (.call k_harrierref1_IsName [.x 0]) 1 <|
  .op (.pure (.un .not) [.s (.x 2)]) 1 <|
  .ite (.x 3) (.out 0 [.v (.int .i64 8)]) <|
  .op (.llen (.x 1)) 1 <|
  .op (.pure (.bin .eql 3 false true) [.s (.x 4), .c (.int .i64 0)]) 1 <|
  .ite (.x 5) (.out 0 [.v (.int .i64 13)]) <|
  .op (.call k_harrierref7_checkItems [.x 1, .v (.int .i64 0), .v (.int .i64 0)]) 2 <|
  .op (.pure (.bin .neq 25 false true) [.s (.x 7), .c (.int .i64 0)]) 1 <|
  .ite (.x 8) (.out 0 [.x 7]) <|
  .op (.call k_harrierref7_many [.x 1]) 1 <|
  .op (.pure (.bin .gtr 3 false true) [.s (.x 9), .c (.int .i64 1000)]) 1 <|
  .ite (.x 10) (.out 0 [.v (.int .i64 3)]) <|
  .out 0 [.v (.int .i64 0)]
/-- harrier/quant.IsName -/
def T_quant_IsName : Tree Unit := .op (.pure (.bi .len [9] 3 [false]) [.s (.x 0)]) 1 <|
  .loop 395 [.v (.int .i64 0)] <|
  .op (.pure (.bin .lss 3 false false) [.s (.x 2), .s (.x 1)]) 1 <|
  .ite (.x 3) (.op (.pure (.index 9) [.s (.x 0), .s (.x 2)]) 1 <|
  .join 388 (.op (.pure (.bin .geq 5 false true) [.s (.x 4), .c (.int .u8 97)]) 1 <|
  .ite (.x 5) (.op (.pure (.bin .leq 5 false true) [.s (.x 4), .c (.int .u8 122)]) 1 <|
  .ite (.x 6) (.out 388 [.v (.bool true), .v (.bool true), .x 6, .v (.bool true), .x 5]) <|
  .op (.pure (.bin .geq 5 false true) [.s (.x 4), .c (.int .u8 65)]) 1 <|
  .ite (.x 7) (.op (.pure (.bin .leq 5 false true) [.s (.x 4), .c (.int .u8 90)]) 1 <|
  .out 388 [.x 8, .v (.bool false), .x 6, .v (.bool true), .x 5]) <|
  .out 388 [.v (.bool false), .v (.bool false), .x 6, .v (.bool true), .x 5]) <|
  .op (.pure (.bin .geq 5 false true) [.s (.x 4), .c (.int .u8 65)]) 1 <|
  .ite (.x 6) (.op (.pure (.bin .leq 5 false true) [.s (.x 4), .c (.int .u8 90)]) 1 <|
  .out 388 [.x 7, .v (.bool false), .v (.bool false), .v (.bool false), .x 5]) <|
  .out 388 [.v (.bool false), .v (.bool false), .v (.bool false), .v (.bool false), .x 5]) <|
  .join 387 (.op (.pure (.un .not) [.s (.x 5)]) 1 <|
  .ite (.x 10) (.op (.call k_quant_isDigit [.x 4]) 1 <|
  .op (.pure (.un .not) [.s (.x 11)]) 1 <|
  .ite (.x 12) (.op (.pure (.bin .neq 5 false true) [.s (.x 4), .c (.int .u8 45)]) 1 <|
  .ite (.x 13) (.op (.pure (.bin .neq 5 false true) [.s (.x 4), .c (.int .u8 95)]) 1 <|
  .ite (.x 14) (.op (.pure (.bin .neq 5 false true) [.s (.x 4), .c (.int .u8 46)]) 1 <|
  .out 387 [.x 15, .v (.bool true), .x 14, .v (.bool true), .x 13, .v (.bool true), .x 12, .v (.bool true), .x 10]) <|
  .out 387 [.v (.bool false), .v (.bool false), .x 14, .v (.bool true), .x 13, .v (.bool true), .x 12, .v (.bool true), .x 10]) <|
  .out 387 [.v (.bool false), .v (.bool false), .v (.bool false), .v (.bool false), .x 13, .v (.bool true), .x 12, .v (.bool true), .x 10]) <|
  .out 387 [.v (.bool false), .v (.bool false), .v (.bool false), .v (.bool false), .v (.bool false), .v (.bool false), .x 12, .v (.bool true), .x 10]) <|
  .out 387 [.v (.bool false), .v (.bool false), .v (.bool false), .v (.bool false), .v (.bool false), .v (.bool false), .v (.bool false), .v (.bool false), .x 10]) <|
  .ite (.x 10) (.out 0 [.v (.bool false)]) <|
  .op (.pure (.bin .add 3 false true) [.s (.x 2), .c (.int .i64 1)]) 1 <|
  .out 395 [.x 19]) <|
  .join 397 (.op (.pure (.bi .len [9] 3 [false]) [.s (.x 0)]) 1 <|
  .op (.pure (.bin .geq 3 false true) [.s (.x 4), .c (.int .i64 1)]) 1 <|
  .ite (.x 5) (.op (.pure (.bi .len [9] 3 [false]) [.s (.x 0)]) 1 <|
  .op (.pure (.bin .leq 3 false true) [.s (.x 6), .c (.int .i64 60)]) 1 <|
  .out 397 [.x 7]) <|
  .out 397 [.v (.bool false)]) <|
  .out 0 [.x 4]
/-- harrier/workout.Same -/
def T_workout_Same : Tree Unit := .join 398 (.op (.pure (.bin .eql 9 false false) [.s (.x 0), .s (.x 2)]) 1 <|
  .ite (.x 4) (.op (.call k_workout_sameItems [.x 1, .x 3]) 1 <|
  .out 398 [.x 5]) <|
  .out 398 [.v (.bool false)]) <|
  .out 0 [.x 4]
/-- harrier/workout.checkItems -/
def T_workout_checkItems : Tree Unit := .op (.llen (.x 0)) 1 <|
  .loop 395 [.v (.int .i64 0), .x 2] <|
  .op (.pure (.bin .lss 3 false false) [.s (.x 4), .s (.x 3)]) 1 <|
  .ite (.x 6) (.op (.row 10 (.x 0) (.s (.x 4))) 10 <|
  .op (.pure (.bin .add 3 false true) [.s (.x 5), .c (.int .i64 1)]) 1 <|
  .join 387 (.op (.pure (.bin .gtr 3 false true) [.s (.x 17), .c (.int .i64 200)]) 1 <|
  .ite (.x 18) (.out 387 [.v (.bool true), .v (.bool true), .x 18]) <|
  .op (.pure (.bin .gtr 3 false true) [.s (.x 1), .c (.int .i64 3)]) 1 <|
  .out 387 [.x 19, .v (.bool false), .x 18]) <|
  .ite (.x 18) (.out 0 [.v (.int .i64 3), .x 17]) <|
  .join 387 (.join 384 (.op (.pure (.bin .eql 3 false true) [.s (.x 7), .c (.int .i64 1)]) 1 <|
  .ite (.x 21) (.out 384 [.x 21, .v (.bool true)]) <|
  .op (.pure (.bin .eql 3 false true) [.s (.x 7), .c (.int .i64 2)]) 1 <|
  .out 384 [.x 21, .x 22]) <|
  .ite (.x 22) (.op (.call k_workout_checkStep [.x 7, .x 8, .x 9, .x 10, .x 11, .x 12, .x 13, .x 14, .x 15, .x 16]) 1 <|
  .out 387 [.x 21, .v (.bool true), .x 23, .x 17]) <|
  .op (.pure (.bin .eql 3 false true) [.s (.x 7), .c (.int .i64 3)]) 1 <|
  .ite (.x 23) (.op (.call k_workout_checkRepeat [.x 7, .x 8, .x 9, .x 10, .x 11, .x 12, .x 13, .x 14, .x 15, .x 16]) 1 <|
  .op (.pure (.bin .eql 25 false true) [.s (.x 24), .c (.int .i64 0)]) 1 <|
  .ite (.x 25) (.op (.pure (.bin .add 3 false true) [.s (.x 1), .c (.int .i64 1)]) 1 <|
  .op (.call k_workout_checkItems [.x 16, .x 26, .x 17]) 2 <|
  .out 387 [.x 21, .v (.bool false), .x 27, .x 28]) <|
  .out 387 [.x 21, .v (.bool false), .x 24, .x 17]) <|
  .out 387 [.x 21, .v (.bool false), .v (.int .i64 7), .x 17]) <|
  .op (.pure (.bin .neq 25 false true) [.s (.x 23), .c (.int .i64 0)]) 1 <|
  .ite (.x 25) (.out 0 [.x 23, .x 24]) <|
  .op (.pure (.bin .add 3 false true) [.s (.x 4), .c (.int .i64 1)]) 1 <|
  .out 395 [.x 26, .x 24]) <|
  .out 0 [.v (.int .i64 0), .x 5]
/-- harrier/harrierref1.IsName -/
def T_harrierref1_IsName : Tree Unit := .join 397 (.op (.pure (.bi .len [9] 3 [false]) [.s (.x 0)]) 1 <|
  .op (.pure (.bin .lss 3 false true) [.s (.x 1), .c (.int .i64 1)]) 1 <|
  .ite (.x 2) (.out 397 [.v (.bool true)]) <|
  .op (.pure (.bi .len [9] 3 [false]) [.s (.x 0)]) 1 <|
  .op (.pure (.bin .gtr 3 false true) [.s (.x 3), .c (.int .i64 60)]) 1 <|
  .out 397 [.x 4]) <|
  .ite (.x 1) (.out 0 [.v (.bool false)]) <|
  .loop 394 [.v (.int .i64 0)] <|
  .op (.pure (.bi .len [9] 3 [false]) [.s (.x 0)]) 1 <|
  .op (.pure (.bin .lss 3 false false) [.s (.x 2), .s (.x 3)]) 1 <|
  .ite (.x 4) (.op (.pure (.index 9) [.s (.x 0), .s (.x 2)]) 1 <|
  .join 389 (.op (.pure (.bin .geq 5 false true) [.s (.x 5), .c (.int .u8 97)]) 1 <|
  .ite (.x 6) (.op (.pure (.bin .leq 5 false true) [.s (.x 5), .c (.int .u8 122)]) 1 <|
  .op (.pure (.bin .geq 5 false true) [.s (.x 5), .c (.int .u8 65)]) 1 <|
  .ite (.x 8) (.op (.pure (.bin .leq 5 false true) [.s (.x 5), .c (.int .u8 90)]) 1 <|
  .out 389 [.x 9, .v (.bool true), .x 8, .x 7, .v (.bool true), .x 6]) <|
  .out 389 [.v (.bool false), .v (.bool false), .x 8, .x 7, .v (.bool true), .x 6]) <|
  .op (.pure (.bin .geq 5 false true) [.s (.x 5), .c (.int .u8 65)]) 1 <|
  .ite (.x 7) (.op (.pure (.bin .leq 5 false true) [.s (.x 5), .c (.int .u8 90)]) 1 <|
  .out 389 [.x 8, .v (.bool true), .x 7, .v (.bool false), .v (.bool false), .x 6]) <|
  .out 389 [.v (.bool false), .v (.bool false), .x 7, .v (.bool false), .v (.bool false), .x 6]) <|
  .join 388 (.op (.pure (.un .not) [.s (.x 9)]) 1 <|
  .ite (.x 12) (.op (.pure (.un .not) [.s (.x 6)]) 1 <|
  .ite (.x 13) (.op (.call k_harrierref1_isDigit [.x 5]) 1 <|
  .op (.pure (.un .not) [.s (.x 14)]) 1 <|
  .ite (.x 15) (.op (.pure (.bin .neq 5 false true) [.s (.x 5), .c (.int .u8 45)]) 1 <|
  .ite (.x 16) (.op (.pure (.bin .neq 5 false true) [.s (.x 5), .c (.int .u8 95)]) 1 <|
  .ite (.x 17) (.op (.pure (.bin .neq 5 false true) [.s (.x 5), .c (.int .u8 46)]) 1 <|
  .out 388 [.x 18, .v (.bool true), .x 17, .v (.bool true), .x 16, .v (.bool true), .x 15, .v (.bool true), .x 13, .v (.bool true), .x 12]) <|
  .out 388 [.v (.bool false), .v (.bool false), .x 17, .v (.bool true), .x 16, .v (.bool true), .x 15, .v (.bool true), .x 13, .v (.bool true), .x 12]) <|
  .out 388 [.v (.bool false), .v (.bool false), .v (.bool false), .v (.bool false), .x 16, .v (.bool true), .x 15, .v (.bool true), .x 13, .v (.bool true), .x 12]) <|
  .out 388 [.v (.bool false), .v (.bool false), .v (.bool false), .v (.bool false), .v (.bool false), .v (.bool false), .x 15, .v (.bool true), .x 13, .v (.bool true), .x 12]) <|
  .out 388 [.v (.bool false), .v (.bool false), .v (.bool false), .v (.bool false), .v (.bool false), .v (.bool false), .v (.bool false), .v (.bool false), .x 13, .v (.bool true), .x 12]) <|
  .out 388 [.v (.bool false), .v (.bool false), .v (.bool false), .v (.bool false), .v (.bool false), .v (.bool false), .v (.bool false), .v (.bool false), .v (.bool false), .v (.bool false), .x 12]) <|
  .ite (.x 12) (.out 0 [.v (.bool false)]) <|
  .op (.pure (.bin .add 3 false true) [.s (.x 2), .c (.int .i64 1)]) 1 <|
  .out 394 [.x 23]) <|
  .out 0 [.v (.bool true)]
/-- harrier/quant.isDigit -/
def T_quant_isDigit : Tree Unit := .join 398 (.op (.pure (.bin .geq 5 false true) [.s (.x 0), .c (.int .u8 48)]) 1 <|
  .ite (.x 1) (.op (.pure (.bin .leq 5 false true) [.s (.x 0), .c (.int .u8 57)]) 1 <|
  .out 398 [.x 2]) <|
  .out 398 [.v (.bool false)]) <|
  .out 0 [.x 1]
/-- harrier/harrierref7.Same -/
def T_harrierref7_Same : Tree Unit := .join 398 (.op (.pure (.bin .eql 9 false false) [.s (.x 0), .s (.x 2)]) 1 <|
  .ite (.x 4) (.op (.call k_harrierref7_sameItems [.x 1, .x 3]) 1 <|
  .out 398 [.x 5]) <|
  .out 398 [.v (.bool false)]) <|
  .out 0 [.x 4]
/-- harrier/workout.blocks -/
def T_workout_blocks : Tree Unit := .op (.llen (.x 0)) 1 <|
  .loop 394 [.v (.int .i64 0), .v (.int .i64 0)] <|
  .op (.pure (.bin .lss 3 false false) [.s (.x 2), .s (.x 1)]) 1 <|
  .ite (.x 4) (.join 391 (.op (.row 10 (.x 0) (.s (.x 2))) 10 <|
  .op (.pure (.bin .eql 3 false true) [.s (.x 5), .c (.int .i64 3)]) 1 <|
  .ite (.x 15) (.op (.call k_workout_blocks [.x 14]) 1 <|
  .op (.pure (.bin .mul 3 false false) [.s (.x 13), .s (.x 16)]) 1 <|
  .op (.pure (.bin .add 3 false false) [.s (.x 3), .s (.x 17)]) 1 <|
  .out 391 [.v (.bool true), .x 5, .x 6, .x 7, .x 8, .x 9, .x 10, .x 11, .x 12, .x 13, .x 14, .x 18]) <|
  .op (.pure (.bin .add 3 false true) [.s (.x 3), .c (.int .i64 1)]) 1 <|
  .out 391 [.v (.bool false), .x 5, .x 6, .x 7, .x 8, .x 9, .x 10, .x 11, .x 12, .x 13, .x 14, .x 16]) <|
  .op (.pure (.bin .add 3 false true) [.s (.x 2), .c (.int .i64 1)]) 1 <|
  .out 394 [.x 17, .x 16]) <|
  .out 0 [.x 3]
/-- harrier/harrierref7.checkItems -/
def T_harrierref7_checkItems : Tree Unit := .op (.llen (.x 0)) 1 <|
  .loop 395 [.v (.int .i64 0), .x 2] <|
  .op (.pure (.bin .lss 3 false false) [.s (.x 4), .s (.x 3)]) 1 <|
  .ite (.x 6) (.join 392 (.op (.row 10 (.x 0) (.s (.x 4))) 10 <|
  .op (.pure (.bin .add 3 false true) [.s (.x 5), .c (.int .i64 1)]) 1 <|
  .join 387 (.op (.pure (.bin .gtr 3 false true) [.s (.x 17), .c (.int .i64 200)]) 1 <|
  .ite (.x 18) (.out 387 [.v (.bool true), .v (.bool true), .x 18]) <|
  .op (.pure (.bin .gtr 3 false true) [.s (.x 1), .c (.int .i64 3)]) 1 <|
  .out 387 [.x 19, .v (.bool false), .x 18]) <|
  .ite (.x 18) (.out 0 [.v (.int .i64 0), .v (.int .i64 3)]) <|
  .join 384 (.op (.pure (.bin .eql 3 false true) [.s (.x 7), .c (.int .i64 1)]) 1 <|
  .ite (.x 21) (.out 384 [.x 21, .v (.bool true)]) <|
  .op (.pure (.bin .eql 3 false true) [.s (.x 7), .c (.int .i64 2)]) 1 <|
  .out 384 [.x 21, .x 22]) <|
  .ite (.x 22) (.op (.call k_harrierref7_checkStep [.x 7, .x 8, .x 9, .x 10, .x 11, .x 12, .x 13, .x 14, .x 15, .x 16]) 1 <|
  .op (.pure (.bin .neq 25 false true) [.s (.x 23), .c (.int .i64 0)]) 1 <|
  .ite (.x 24) (.out 0 [.v (.int .i64 0), .x 23]) <|
  .out 392 [.x 21, .v (.bool true), .x 7, .x 19, .x 20, .x 17, .x 8, .x 9, .x 10, .x 11, .x 12, .x 13, .x 14, .x 15, .x 16, .x 17]) <|
  .op (.pure (.bin .eql 3 false true) [.s (.x 7), .c (.int .i64 3)]) 1 <|
  .ite (.x 23) (.join 385 (.op (.pure (.bin .neq 9 false true) [.s (.x 8), .c (.string ⟨#[]⟩)]) 1 <|
  .ite (.x 24) (.out 385 [.v (.bool true), .v (.bool true), .v (.bool true), .v (.bool true), .v (.bool true), .v (.bool true), .x 24]) <|
  .op (.pure (.bin .neq 3 false true) [.s (.x 9), .c (.int .i64 0)]) 1 <|
  .ite (.x 25) (.out 385 [.v (.bool true), .v (.bool true), .v (.bool true), .v (.bool true), .x 25, .v (.bool false), .x 24]) <|
  .op (.pure (.bin .neq 3 false true) [.s (.x 10), .c (.int .i64 0)]) 1 <|
  .ite (.x 26) (.out 385 [.v (.bool true), .v (.bool true), .x 26, .v (.bool false), .x 25, .v (.bool false), .x 24]) <|
  .op (.pure (.bin .neq 91 false false) [.agg [.s (.x 11), .s (.x 12), .s (.x 13), .s (.x 14)], .agg [.c (.int .i64 0), .c (.bool false), .c (.int .i64 0), .c (.int .i64 0)]]) 1 <|
  .out 385 [.x 27, .v (.bool false), .x 26, .v (.bool false), .x 25, .v (.bool false), .x 24]) <|
  .ite (.x 24) (.out 0 [.v (.int .i64 0), .v (.int .i64 2)]) <|
  .op (.call k_harrierref7_outside [.x 15, .v (.int .i64 1), .v (.int .i64 99)]) 1 <|
  .ite (.x 31) (.out 0 [.v (.int .i64 0), .v (.int .i64 9)]) <|
  .op (.llen (.x 16)) 1 <|
  .op (.pure (.bin .eql 3 false true) [.s (.x 32), .c (.int .i64 0)]) 1 <|
  .ite (.x 33) (.out 0 [.v (.int .i64 0), .v (.int .i64 13)]) <|
  .op (.pure (.bin .add 3 false true) [.s (.x 1), .c (.int .i64 1)]) 1 <|
  .op (.call k_harrierref7_checkItems [.x 16, .x 34, .x 17]) 2 <|
  .op (.pure (.bin .neq 25 false true) [.s (.x 36), .c (.int .i64 0)]) 1 <|
  .ite (.x 37) (.out 0 [.v (.int .i64 0), .x 36]) <|
  .out 392 [.x 21, .v (.bool false), .x 7, .x 19, .x 20, .x 17, .x 8, .x 9, .x 10, .x 11, .x 12, .x 13, .x 14, .x 15, .x 16, .x 35]) <|
  .out 0 [.v (.int .i64 0), .v (.int .i64 7)]) <|
  .op (.pure (.bin .add 3 false true) [.s (.x 4), .c (.int .i64 1)]) 1 <|
  .out 395 [.x 23, .x 22]) <|
  .out 0 [.x 5, .v (.int .i64 0)]
/-- harrier/workout.sameItems -/
def T_workout_sameItems : Tree Unit := .op (.call k_slices_EqualFunc [.x 0, .x 1]) 1 <|
  .out 0 [.x 2]
/-- harrier/workout.checkStep -/
def T_workout_checkStep : Tree Unit := .op (.call k_quant_IsName [.x 1]) 1 <|
  .op (.pure (.un .not) [.s (.x 10)]) 1 <|
  .ite (.x 11) (.out 0 [.v (.int .i64 8)]) <|
  .join 394 (.join 393 (.op (.pure (.bin .neq 3 false true) [.s (.x 8), .c (.int .i64 0)]) 1 <|
  .ite (.x 12) (.out 393 [.v (.bool true)]) <|
  .op (.llen (.x 9)) 1 <|
  .op (.pure (.bin .gtr 3 false true) [.s (.x 13), .c (.int .i64 0)]) 1 <|
  .out 393 [.x 14]) <|
  .ite (.x 12) (.out 394 [.v (.bool true)]) <|
  .op (.pure (.bin .eql 3 false true) [.s (.x 2), .c (.int .i64 0)]) 1 <|
  .op (.pure (.bin .eql 3 false true) [.s (.x 3), .c (.int .i64 0)]) 1 <|
  .op (.pure (.bin .eql 4 false false) [.s (.x 13), .s (.x 14)]) 1 <|
  .out 394 [.x 15]) <|
  .ite (.x 12) (.out 0 [.v (.int .i64 2)]) <|
  .join 392 (.op (.call k_workout_in [.x 2, .v (.int .i64 0), .v (.int .i64 3599999)]) 1 <|
  .op (.pure (.un .not) [.s (.x 13)]) 1 <|
  .ite (.x 14) (.out 392 [.v (.bool true)]) <|
  .op (.call k_workout_in [.x 3, .v (.int .i64 0), .v (.int .i64 1000000000)]) 1 <|
  .op (.pure (.un .not) [.s (.x 15)]) 1 <|
  .out 392 [.x 16]) <|
  .ite (.x 13) (.out 0 [.v (.int .i64 9)]) <|
  .op (.call k_workout_in [.x 4, .v (.int .i64 0), .v (.int .i64 4)]) 1 <|
  .op (.pure (.un .not) [.s (.x 14)]) 1 <|
  .ite (.x 15) (.out 0 [.v (.int .i64 7)]) <|
  .join 392 (.join 391 (.op (.pure (.bin .eql 3 false true) [.s (.x 4), .c (.int .i64 0)]) 1 <|
  .ite (.x 16) (.op (.pure (.bin .neq 91 false false) [.agg [.s (.x 4), .s (.x 5), .s (.x 6), .s (.x 7)], .agg [.c (.int .i64 0), .c (.bool false), .c (.int .i64 0), .c (.int .i64 0)]]) 1 <|
  .ite (.x 17) (.out 391 [.v (.bool true)]) <|
  .op (.pure (.bin .eql 3 false true) [.s (.x 0), .c (.int .i64 2)]) 1 <|
  .out 391 [.x 18]) <|
  .out 391 [.v (.bool false)]) <|
  .ite (.x 16) (.out 392 [.v (.bool true)]) <|
  .ite (.x 5) (.op (.pure (.bin .eql 3 false true) [.s (.x 4), .c (.int .i64 3)]) 1 <|
  .out 392 [.x 17]) <|
  .out 392 [.v (.bool false)]) <|
  .ite (.x 16) (.out 0 [.v (.int .i64 2)]) <|
  .op (.pure (.bin .eql 3 false true) [.s (.x 4), .c (.int .i64 0)]) 1 <|
  .ite (.x 17) (.out 0 [.v (.int .i64 0)]) <|
  .op (.call k_workout_greatest [.x 4]) 1 <|
  .join 394 (.ite (.x 5) (.out 394 [.v (.int .i64 300)]) <|
  .out 394 [.x 18]) <|
  .join 391 (.op (.call k_workout_in [.x 6, .v (.int .i64 1), .x 19]) 1 <|
  .op (.pure (.un .not) [.s (.x 20)]) 1 <|
  .ite (.x 21) (.out 391 [.v (.bool true)]) <|
  .op (.call k_workout_in [.x 7, .v (.int .i64 1), .x 19]) 1 <|
  .op (.pure (.un .not) [.s (.x 22)]) 1 <|
  .out 391 [.x 23]) <|
  .ite (.x 20) (.out 0 [.v (.int .i64 9)]) <|
  .join 389 (.op (.pure (.bin .gtr 3 false false) [.s (.x 6), .s (.x 7)]) 1 <|
  .ite (.x 21) (.op (.pure (.bin .eql 3 false true) [.s (.x 0), .c (.int .i64 1)]) 1 <|
  .out 389 [.x 22]) <|
  .out 389 [.v (.bool false)]) <|
  .ite (.x 21) (.out 0 [.v (.int .i64 10)]) <|
  .out 0 [.v (.int .i64 0)]
/-- harrier/workout.checkRepeat -/
def T_workout_checkRepeat : Tree Unit := .join 396 (.op (.pure (.bin .neq 9 false true) [.s (.x 1), .c (.string ⟨#[]⟩)]) 1 <|
  .ite (.x 10) (.out 396 [.v (.bool true)]) <|
  .op (.pure (.bin .neq 3 false true) [.s (.x 2), .c (.int .i64 0)]) 1 <|
  .ite (.x 11) (.out 396 [.v (.bool true)]) <|
  .op (.pure (.bin .neq 3 false true) [.s (.x 3), .c (.int .i64 0)]) 1 <|
  .ite (.x 12) (.out 396 [.v (.bool true)]) <|
  .op (.pure (.bin .neq 91 false false) [.agg [.s (.x 4), .s (.x 5), .s (.x 6), .s (.x 7)], .agg [.c (.int .i64 0), .c (.bool false), .c (.int .i64 0), .c (.int .i64 0)]]) 1 <|
  .out 396 [.x 13]) <|
  .ite (.x 10) (.out 0 [.v (.int .i64 2)]) <|
  .op (.call k_workout_in [.x 8, .v (.int .i64 1), .v (.int .i64 99)]) 1 <|
  .op (.pure (.un .not) [.s (.x 11)]) 1 <|
  .ite (.x 12) (.out 0 [.v (.int .i64 9)]) <|
  .op (.llen (.x 9)) 1 <|
  .op (.pure (.bin .eql 3 false true) [.s (.x 13), .c (.int .i64 0)]) 1 <|
  .ite (.x 14) (.out 0 [.v (.int .i64 13)]) <|
  .out 0 [.v (.int .i64 0)]
/-- harrier/harrierref1.isDigit -/
def T_harrierref1_isDigit : Tree Unit := .join 398 (.op (.pure (.bin .geq 5 false true) [.s (.x 0), .c (.int .u8 48)]) 1 <|
  .ite (.x 1) (.op (.pure (.bin .leq 5 false true) [.s (.x 0), .c (.int .u8 57)]) 1 <|
  .out 398 [.x 2]) <|
  .out 398 [.v (.bool false)]) <|
  .out 0 [.x 1]
/-- harrier/harrierlaw7.told -/
noncomputable def E_harrierlaw7_told : List D → Option (List D) := fun _ => some [.v (.bool true)]
/-- harrier/harrierref7.many -/
def T_harrierref7_many : Tree Unit := .op (.llen (.x 0)) 1 <|
  .loop 394 [.v (.int .i64 0), .v (.int .i64 0)] <|
  .op (.pure (.bin .lss 3 false false) [.s (.x 2), .s (.x 1)]) 1 <|
  .ite (.x 4) (.join 391 (.op (.row 10 (.x 0) (.s (.x 2))) 10 <|
  .op (.pure (.bin .eql 3 false true) [.s (.x 5), .c (.int .i64 3)]) 1 <|
  .ite (.x 15) (.op (.call k_harrierref7_many [.x 14]) 1 <|
  .op (.pure (.bin .mul 3 false false) [.s (.x 13), .s (.x 16)]) 1 <|
  .op (.pure (.bin .add 3 false false) [.s (.x 3), .s (.x 17)]) 1 <|
  .out 391 [.v (.bool true), .x 5, .x 6, .x 7, .x 8, .x 9, .x 10, .x 11, .x 12, .x 13, .x 14, .x 18]) <|
  .op (.pure (.bin .add 3 false true) [.s (.x 3), .c (.int .i64 1)]) 1 <|
  .out 391 [.v (.bool false), .x 5, .x 6, .x 7, .x 8, .x 9, .x 10, .x 11, .x 12, .x 13, .x 14, .x 16]) <|
  .op (.pure (.bin .add 3 false true) [.s (.x 2), .c (.int .i64 1)]) 1 <|
  .out 394 [.x 17, .x 16]) <|
  .out 0 [.x 3]
/-- harrier/harrierref7.sameItems -/
def T_harrierref7_sameItems : Tree Unit := .op (.llen (.x 0)) 1 <|
  .op (.llen (.x 1)) 1 <|
  .op (.pure (.bin .neq 3 false false) [.s (.x 2), .s (.x 3)]) 1 <|
  .ite (.x 4) (.out 0 [.v (.bool false)]) <|
  .op (.llen (.x 0)) 1 <|
  .loop 394 [.v (.int .i64 0)] <|
  .op (.pure (.bin .lss 3 false false) [.s (.x 6), .s (.x 5)]) 1 <|
  .ite (.x 7) (.op (.row 10 (.x 0) (.s (.x 6))) 10 <|
  .op (.row 10 (.x 1) (.s (.x 6))) 10 <|
  .join 387 (.op (.pure (.bin .neq 3 false false) [.s (.x 8), .s (.x 18)]) 1 <|
  .ite (.x 28) (.out 387 [.v (.bool true), .v (.bool true), .v (.bool true), .v (.bool true), .v (.bool true), .v (.bool true), .v (.bool true), .v (.bool true), .v (.bool true), .v (.bool true), .v (.bool true), .v (.bool true), .x 28]) <|
  .op (.pure (.bin .neq 9 false false) [.s (.x 9), .s (.x 19)]) 1 <|
  .ite (.x 29) (.out 387 [.v (.bool true), .v (.bool true), .v (.bool true), .v (.bool true), .v (.bool true), .v (.bool true), .v (.bool true), .v (.bool true), .v (.bool true), .v (.bool true), .x 29, .v (.bool false), .x 28]) <|
  .op (.pure (.bin .neq 3 false false) [.s (.x 10), .s (.x 20)]) 1 <|
  .ite (.x 30) (.out 387 [.v (.bool true), .v (.bool true), .v (.bool true), .v (.bool true), .v (.bool true), .v (.bool true), .v (.bool true), .v (.bool true), .x 30, .v (.bool false), .x 29, .v (.bool false), .x 28]) <|
  .op (.pure (.bin .neq 3 false false) [.s (.x 11), .s (.x 21)]) 1 <|
  .ite (.x 31) (.out 387 [.v (.bool true), .v (.bool true), .v (.bool true), .v (.bool true), .v (.bool true), .v (.bool true), .x 31, .v (.bool false), .x 30, .v (.bool false), .x 29, .v (.bool false), .x 28]) <|
  .op (.pure (.bin .neq 91 false false) [.agg [.s (.x 12), .s (.x 13), .s (.x 14), .s (.x 15)], .agg [.s (.x 22), .s (.x 23), .s (.x 24), .s (.x 25)]]) 1 <|
  .ite (.x 32) (.out 387 [.v (.bool true), .v (.bool true), .v (.bool true), .v (.bool true), .x 32, .v (.bool false), .x 31, .v (.bool false), .x 30, .v (.bool false), .x 29, .v (.bool false), .x 28]) <|
  .op (.pure (.bin .neq 3 false false) [.s (.x 16), .s (.x 26)]) 1 <|
  .ite (.x 33) (.out 387 [.v (.bool true), .v (.bool true), .x 33, .v (.bool false), .x 32, .v (.bool false), .x 31, .v (.bool false), .x 30, .v (.bool false), .x 29, .v (.bool false), .x 28]) <|
  .op (.call k_harrierref7_sameItems [.x 17, .x 27]) 1 <|
  .op (.pure (.un .not) [.s (.x 34)]) 1 <|
  .out 387 [.x 35, .v (.bool false), .x 33, .v (.bool false), .x 32, .v (.bool false), .x 31, .v (.bool false), .x 30, .v (.bool false), .x 29, .v (.bool false), .x 28]) <|
  .ite (.x 28) (.out 0 [.v (.bool false)]) <|
  .op (.pure (.bin .add 3 false true) [.s (.x 6), .c (.int .i64 1)]) 1 <|
  .out 394 [.x 41]) <|
  .out 0 [.v (.bool true)]
/-- harrier/harrierref7.checkStep -/
def T_harrierref7_checkStep : Tree Unit := .op (.call k_harrierref1_IsName [.x 1]) 1 <|
  .op (.pure (.un .not) [.s (.x 10)]) 1 <|
  .ite (.x 11) (.out 0 [.v (.int .i64 8)]) <|
  .join 396 (.op (.pure (.bin .neq 3 false true) [.s (.x 8), .c (.int .i64 0)]) 1 <|
  .ite (.x 12) (.out 396 [.v (.bool true)]) <|
  .op (.llen (.x 9)) 1 <|
  .op (.pure (.bin .gtr 3 false true) [.s (.x 13), .c (.int .i64 0)]) 1 <|
  .ite (.x 14) (.out 396 [.v (.bool true)]) <|
  .op (.pure (.bin .eql 3 false true) [.s (.x 2), .c (.int .i64 0)]) 1 <|
  .op (.pure (.bin .eql 3 false true) [.s (.x 3), .c (.int .i64 0)]) 1 <|
  .op (.pure (.bin .eql 4 false false) [.s (.x 15), .s (.x 16)]) 1 <|
  .out 396 [.x 17]) <|
  .ite (.x 12) (.out 0 [.v (.int .i64 2)]) <|
  .join 395 (.op (.call k_harrierref7_outside [.x 2, .v (.int .i64 0), .v (.int .i64 3599999)]) 1 <|
  .ite (.x 13) (.out 395 [.v (.bool true)]) <|
  .op (.call k_harrierref7_outside [.x 3, .v (.int .i64 0), .v (.int .i64 1000000000)]) 1 <|
  .out 395 [.x 14]) <|
  .ite (.x 13) (.out 0 [.v (.int .i64 9)]) <|
  .op (.call k_harrierref7_checkAim [.x 0, .x 1, .x 2, .x 3, .x 4, .x 5, .x 6, .x 7, .x 8, .x 9]) 1 <|
  .out 0 [.x 14]
/-- harrier/harrierref7.outside -/
def T_harrierref7_outside : Tree Unit := .join 398 (.op (.pure (.bin .lss 3 false false) [.s (.x 0), .s (.x 1)]) 1 <|
  .ite (.x 3) (.out 398 [.v (.bool true)]) <|
  .op (.pure (.bin .gtr 3 false false) [.s (.x 0), .s (.x 2)]) 1 <|
  .out 398 [.x 4]) <|
  .out 0 [.x 3]
/-- slices.EqualFunc[[]harrier/api.Item,[]harrier/api.Item,harrier/api.Item,harrier/api.Item] -/
def T_slices_EqualFunc : Tree Unit := .op (.llen (.x 0)) 1 <|
  .op (.llen (.x 1)) 1 <|
  .op (.pure (.bin .neq 3 false false) [.s (.x 2), .s (.x 3)]) 1 <|
  .ite (.x 4) (.out 0 [.v (.bool false)]) <|
  .op (.llen (.x 0)) 1 <|
  .loop 394 [.v (.int .i64 0)] <|
  .op (.pure (.bin .lss 3 false false) [.s (.x 6), .s (.x 5)]) 1 <|
  .ite (.x 7) (.op (.row 10 (.x 0) (.s (.x 6))) 10 <|
  .op (.row 10 (.x 1) (.s (.x 6))) 10 <|
  .op (.call k_workout_sameItem [.x 8, .x 9, .x 10, .x 11, .x 12, .x 13, .x 14, .x 15, .x 16, .x 17, .x 18, .x 19, .x 20, .x 21, .x 22, .x 23, .x 24, .x 25, .x 26, .x 27]) 1 <|
  .op (.pure (.un .not) [.s (.x 28)]) 1 <|
  .ite (.x 29) (.out 0 [.v (.bool false)]) <|
  .op (.pure (.bin .add 3 false true) [.s (.x 6), .c (.int .i64 1)]) 1 <|
  .out 394 [.x 30]) <|
  .out 0 [.v (.bool true)]
/-- harrier/workout.in -/
def T_workout_in : Tree Unit := .join 398 (.op (.pure (.bin .geq 3 false false) [.s (.x 0), .s (.x 1)]) 1 <|
  .ite (.x 3) (.op (.pure (.bin .leq 3 false false) [.s (.x 0), .s (.x 2)]) 1 <|
  .out 398 [.x 4]) <|
  .out 398 [.v (.bool false)]) <|
  .out 0 [.x 3]
/-- harrier/workout.greatest -/
def T_workout_greatest : Tree Unit := .op (.row 1 (.lit [[.v (.int .i64 0)], [.v (.int .i64 3000)], [.v (.int .i64 300)], [.v (.int .i64 300)], [.v (.int .i64 36000)]]) (.s (.x 0))) 1 <|
  .out 0 [.x 1]
/-- harrier/harrierref7.checkAim -/
def T_harrierref7_checkAim : Tree Unit := .op (.call k_harrierref7_outside [.x 4, .v (.int .i64 0), .v (.int .i64 4)]) 1 <|
  .ite (.x 10) (.out 0 [.v (.int .i64 7)]) <|
  .op (.pure (.bin .eql 3 false true) [.s (.x 4), .c (.int .i64 0)]) 1 <|
  .ite (.x 11) (.join 392 (.op (.pure (.bin .neq 91 false false) [.agg [.s (.x 4), .s (.x 5), .s (.x 6), .s (.x 7)], .agg [.c (.int .i64 0), .c (.bool false), .c (.int .i64 0), .c (.int .i64 0)]]) 1 <|
  .ite (.x 12) (.out 392 [.v (.bool true)]) <|
  .op (.pure (.bin .eql 3 false true) [.s (.x 0), .c (.int .i64 2)]) 1 <|
  .out 392 [.x 13]) <|
  .ite (.x 12) (.out 0 [.v (.int .i64 2)]) <|
  .out 0 [.v (.int .i64 0)]) <|
  .join 394 (.ite (.x 5) (.op (.pure (.bin .eql 3 false true) [.s (.x 4), .c (.int .i64 3)]) 1 <|
  .out 394 [.x 12]) <|
  .out 394 [.v (.bool false)]) <|
  .ite (.x 12) (.out 0 [.v (.int .i64 2)]) <|
  .op (.call k_harrierref7_greatest [.x 4]) 1 <|
  .join 393 (.ite (.x 5) (.out 393 [.v (.int .i64 300)]) <|
  .out 393 [.x 13]) <|
  .join 391 (.op (.call k_harrierref7_outside [.x 6, .v (.int .i64 1), .x 14]) 1 <|
  .ite (.x 15) (.out 391 [.v (.bool true)]) <|
  .op (.call k_harrierref7_outside [.x 7, .v (.int .i64 1), .x 14]) 1 <|
  .out 391 [.x 16]) <|
  .ite (.x 15) (.out 0 [.v (.int .i64 9)]) <|
  .join 390 (.op (.pure (.bin .gtr 3 false false) [.s (.x 6), .s (.x 7)]) 1 <|
  .ite (.x 16) (.op (.pure (.bin .neq 3 false true) [.s (.x 0), .c (.int .i64 2)]) 1 <|
  .out 390 [.x 17]) <|
  .out 390 [.v (.bool false)]) <|
  .ite (.x 16) (.out 0 [.v (.int .i64 10)]) <|
  .out 0 [.v (.int .i64 0)]
/-- harrier/workout.sameItem -/
def T_workout_sameItem : Tree Unit := .join 398 (.op (.pure (.bin .eql 3 false false) [.s (.x 0), .s (.x 10)]) 1 <|
  .ite (.x 20) (.op (.pure (.bin .eql 9 false false) [.s (.x 1), .s (.x 11)]) 1 <|
  .ite (.x 21) (.op (.pure (.bin .eql 3 false false) [.s (.x 2), .s (.x 12)]) 1 <|
  .ite (.x 22) (.op (.pure (.bin .eql 3 false false) [.s (.x 3), .s (.x 13)]) 1 <|
  .ite (.x 23) (.op (.pure (.bin .eql 91 false false) [.agg [.s (.x 4), .s (.x 5), .s (.x 6), .s (.x 7)], .agg [.s (.x 14), .s (.x 15), .s (.x 16), .s (.x 17)]]) 1 <|
  .ite (.x 24) (.op (.pure (.bin .eql 3 false false) [.s (.x 8), .s (.x 18)]) 1 <|
  .ite (.x 25) (.op (.call k_workout_sameItems [.x 9, .x 19]) 1 <|
  .out 398 [.x 26]) <|
  .out 398 [.v (.bool false)]) <|
  .out 398 [.v (.bool false)]) <|
  .out 398 [.v (.bool false)]) <|
  .out 398 [.v (.bool false)]) <|
  .out 398 [.v (.bool false)]) <|
  .out 398 [.v (.bool false)]) <|
  .out 0 [.x 20]
/-- harrier/harrierref7.greatest -/
def T_harrierref7_greatest : Tree Unit := .op (.pure (.bin .eql 3 false true) [.s (.x 0), .c (.int .i64 1)]) 1 <|
  .ite (.x 1) (.out 0 [.v (.int .i64 3000)]) <|
  .op (.pure (.bin .eql 3 false true) [.s (.x 0), .c (.int .i64 2)]) 1 <|
  .ite (.x 2) (.out 0 [.v (.int .i64 300)]) <|
  .op (.pure (.bin .eql 3 false true) [.s (.x 0), .c (.int .i64 3)]) 1 <|
  .ite (.x 3) (.out 0 [.v (.int .i64 300)]) <|
  .out 0 [.v (.int .i64 36000)]
noncomputable def ents : List Ent := [.tree T_harrierlaw7_WorkoutChecksMatchSpec,
  .tree T_workout_Check,
  .tree T_harrierref7_Check,
  .tree T_quant_IsName,
  .tree T_workout_Same,
  .tree T_workout_checkItems,
  .tree T_harrierref1_IsName,
  .tree T_quant_isDigit,
  .tree T_harrierref7_Same,
  .tree T_workout_blocks,
  .tree T_harrierref7_checkItems,
  .tree T_workout_sameItems,
  .tree T_workout_checkStep,
  .tree T_workout_checkRepeat,
  .tree T_harrierref1_isDigit,
  .ext E_harrierlaw7_told,
  .tree T_harrierref7_many,
  .tree T_harrierref7_sameItems,
  .tree T_harrierref7_checkStep,
  .tree T_harrierref7_outside,
  .tree T_slices_EqualFunc,
  .tree T_workout_in,
  .tree T_workout_greatest,
  .tree T_harrierref7_checkAim,
  .tree T_workout_sameItem,
  .tree T_harrierref7_greatest]
/-- What they compute. -/
noncomputable abbrev M : Orc := Me Tryz.prog ents
theorem M_harrierlaw7_WorkoutChecksMatchSpec (ρ : List D) : M k_harrierlaw7_WorkoutChecksMatchSpec ρ = outOf (T_harrierlaw7_WorkoutChecksMatchSpec.denE Tryz.prog M ρ) := Me_tree rfl ρ
theorem M_workout_Check (ρ : List D) : M k_workout_Check ρ = outOf (T_workout_Check.denE Tryz.prog M ρ) := Me_tree rfl ρ
theorem M_harrierref7_Check (ρ : List D) : M k_harrierref7_Check ρ = outOf (T_harrierref7_Check.denE Tryz.prog M ρ) := Me_tree rfl ρ
theorem M_quant_IsName (ρ : List D) : M k_quant_IsName ρ = outOf (T_quant_IsName.denE Tryz.prog M ρ) := Me_tree rfl ρ
theorem M_workout_Same (ρ : List D) : M k_workout_Same ρ = outOf (T_workout_Same.denE Tryz.prog M ρ) := Me_tree rfl ρ
theorem M_workout_checkItems (ρ : List D) : M k_workout_checkItems ρ = outOf (T_workout_checkItems.denE Tryz.prog M ρ) := Me_tree rfl ρ
theorem M_harrierref1_IsName (ρ : List D) : M k_harrierref1_IsName ρ = outOf (T_harrierref1_IsName.denE Tryz.prog M ρ) := Me_tree rfl ρ
theorem M_quant_isDigit (ρ : List D) : M k_quant_isDigit ρ = outOf (T_quant_isDigit.denE Tryz.prog M ρ) := Me_tree rfl ρ
theorem M_harrierref7_Same (ρ : List D) : M k_harrierref7_Same ρ = outOf (T_harrierref7_Same.denE Tryz.prog M ρ) := Me_tree rfl ρ
theorem M_workout_blocks (ρ : List D) : M k_workout_blocks ρ = outOf (T_workout_blocks.denE Tryz.prog M ρ) := Me_tree rfl ρ
theorem M_harrierref7_checkItems (ρ : List D) : M k_harrierref7_checkItems ρ = outOf (T_harrierref7_checkItems.denE Tryz.prog M ρ) := Me_tree rfl ρ
theorem M_workout_sameItems (ρ : List D) : M k_workout_sameItems ρ = outOf (T_workout_sameItems.denE Tryz.prog M ρ) := Me_tree rfl ρ
theorem M_workout_checkStep (ρ : List D) : M k_workout_checkStep ρ = outOf (T_workout_checkStep.denE Tryz.prog M ρ) := Me_tree rfl ρ
theorem M_workout_checkRepeat (ρ : List D) : M k_workout_checkRepeat ρ = outOf (T_workout_checkRepeat.denE Tryz.prog M ρ) := Me_tree rfl ρ
theorem M_harrierref1_isDigit (ρ : List D) : M k_harrierref1_isDigit ρ = outOf (T_harrierref1_isDigit.denE Tryz.prog M ρ) := Me_tree rfl ρ
theorem M_harrierlaw7_told (ρ : List D) : M k_harrierlaw7_told ρ = E_harrierlaw7_told ρ := Me_ext rfl ρ
theorem M_harrierref7_many (ρ : List D) : M k_harrierref7_many ρ = outOf (T_harrierref7_many.denE Tryz.prog M ρ) := Me_tree rfl ρ
theorem M_harrierref7_sameItems (ρ : List D) : M k_harrierref7_sameItems ρ = outOf (T_harrierref7_sameItems.denE Tryz.prog M ρ) := Me_tree rfl ρ
theorem M_harrierref7_checkStep (ρ : List D) : M k_harrierref7_checkStep ρ = outOf (T_harrierref7_checkStep.denE Tryz.prog M ρ) := Me_tree rfl ρ
theorem M_harrierref7_outside (ρ : List D) : M k_harrierref7_outside ρ = outOf (T_harrierref7_outside.denE Tryz.prog M ρ) := Me_tree rfl ρ
theorem M_slices_EqualFunc (ρ : List D) : M k_slices_EqualFunc ρ = outOf (T_slices_EqualFunc.denE Tryz.prog M ρ) := Me_tree rfl ρ
theorem M_workout_in (ρ : List D) : M k_workout_in ρ = outOf (T_workout_in.denE Tryz.prog M ρ) := Me_tree rfl ρ
theorem M_workout_greatest (ρ : List D) : M k_workout_greatest ρ = outOf (T_workout_greatest.denE Tryz.prog M ρ) := Me_tree rfl ρ
theorem M_harrierref7_checkAim (ρ : List D) : M k_harrierref7_checkAim ρ = outOf (T_harrierref7_checkAim.denE Tryz.prog M ρ) := Me_tree rfl ρ
theorem M_workout_sameItem (ρ : List D) : M k_workout_sameItem ρ = outOf (T_workout_sameItem.denE Tryz.prog M ρ) := Me_tree rfl ρ
theorem M_harrierref7_greatest (ρ : List D) : M k_harrierref7_greatest ρ = outOf (T_harrierref7_greatest.denE Tryz.prog M ρ) := Me_tree rfl ρ
end Go.Proofs.YtfphabkdgdgnbaaGreatDoor
