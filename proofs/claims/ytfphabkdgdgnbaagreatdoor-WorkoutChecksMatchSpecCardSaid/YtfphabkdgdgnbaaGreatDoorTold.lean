import Derived.Test.YtfphabkdgdgnbaaGreatDoorAE16
import Derived.Test.YtfphabkdgdgnbaaGreatDoorProg
import Derived.KernelRfl
namespace Go.Proofs.YtfphabkdgdgnbaaGreatDoor
open Go Go.RowKit AE
set_option maxRecDepth 100000
/-- The table internal/strconv.uint64pow10. -/
def pow10 : List Int := [1, 10, 100, 1000, 10000, 100000, 1000000, 10000000, 100000000, 1000000000, 10000000000, 100000000000, 1000000000000, 10000000000000, 100000000000000, 1000000000000000, 10000000000000000, 100000000000000000, 1000000000000000000, 10000000000000000000]
def G7 : Gl := [(7, pow10.map (Value.int .u64))]
noncomputable def call7 : CallF := callD Tryz.prog G7 300 [54]
theorem told7 : call7 19 [] [] = some (.v (.bool true), []) := by kernel_rfl
theorem mixed7 : Tryz.prog.follows .mixedOrders = true := by kernel_rfl
theorem ng7 : NG Tryz.prog := by
  intro g fn h
  have hall : (Tryz.prog.funcs.toList.all fun fn => !(fn.name == "runtime.NumGoroutine")) = true := by kernel_rfl
  have := List.all_eq_true.1 hall fn (by
    rw [← Array.getElem?_toList] at h
    exact List.mem_of_getElem? h)
  simpa using this
/-- The table lies. -/
def G7ok (w : World) : Prop := GOK w.heap.size w G7
theorem G7ok.below {w w' : World} (h : G7ok w) (hb : Below w.heap.size w w') : G7ok w' := by
  intro g cs hm
  obtain ⟨h1, h2⟩ := h g cs hm
  refine ⟨Nat.lt_of_lt_of_le h1 hb.size, fun j v hj => ?_⟩
  rw [hb.cell (p := ⟨g, j, none⟩) h1]
  exact h2 j v hj
/-- A call that the evaluator can tell, in whatever world the table lies. -/
theorem call7_ok {f : FuncId} {v : Value} {w : World} (hG : G7ok w) (h : call7 f [] [] = some (.v v, [])) : Calls Tryz.prog f #[] w fun e w' => e = .returned v ∧ Below w.heap.size w w' := by
  refine (callD_all (B := w.heap.size) (w0 := w) mixed7 ng7 hG 300 [54] f [] [] _ h [] w [] ⟨Below.refl _ _, Nat.le_refl _, rfl, fun i o p h => by simp at h, fun i j o o' p q h => by simp at h⟩ rfl).mono ?_
  rintro e w' ⟨σ', u, _, hw, hu, rfl⟩
  simp only [AV.conc, Option.some.injEq] at hu
  subst hu
  exact ⟨rfl, hw.below⟩
def told.f : Option Bool := some true
theorem told.calls (r : Bool) (w : World) (h : told.f = some r) (hG : G7ok w) : Calls Tryz.prog 19 #[] w fun e w' => e = .returned (.bool r) ∧ Below w.heap.size w w' := by
  obtain rfl := Option.some.inj h
  exact call7_ok hG told7
end Go.Proofs.YtfphabkdgdgnbaaGreatDoor
