import Derived.Test.YtfphabkdgdgnbaaGreatDoorRows
import Derived.Test.YtfphabkdgdgnbaaGreatDoorTie
import Derived.Test.YtfphabkdgdgnbaaGreatDoorCards
import Derived.Test.YtfphabkdgdgnbaaGreatDoorTold
import Derived.JoinedOf
import Derived.LaidMore
import Derived.Lay
import Derived.Stop.Joined
import Derived.Lib.LaidTab
import Derived.Lib.LaidU8
import Derived.KernelRfl
namespace Go.Proofs.YtfphabkdgdgnbaaGreatDoor
open Go.RowKit
/-- What joinedFacts asks, one by one. -/
theorem and32 {a1 a2 a3 a4 a5 a6 a7 a8 a9 a10 a11 a12 a13 a14 a15 a16 a17 a18 a19 a20 a21 a22 a23 a24 a25 a26 a27 a28 a29 a30 a31 a32 : Bool} (h1 : a1 = true) (h2 : a2 = true) (h3 : a3 = true) (h4 : a4 = true) (h5 : a5 = true) (h6 : a6 = true) (h7 : a7 = true) (h8 : a8 = true) (h9 : a9 = true) (h10 : a10 = true) (h11 : a11 = true) (h12 : a12 = true) (h13 : a13 = true) (h14 : a14 = true) (h15 : a15 = true) (h16 : a16 = true) (h17 : a17 = true) (h18 : a18 = true) (h19 : a19 = true) (h20 : a20 = true) (h21 : a21 = true) (h22 : a22 = true) (h23 : a23 = true) (h24 : a24 = true) (h25 : a25 = true) (h26 : a26 = true) (h27 : a27 = true) (h28 : a28 = true) (h29 : a29 = true) (h30 : a30 = true) (h31 : a31 = true) (h32 : a32 = true) : (a1 && a2 && a3 && a4 && a5 && a6 && a7 && a8 && a9 && a10 && a11 && a12 && a13 && a14 && a15 && a16 && a17 && a18 && a19 && a20 && a21 && a22 && a23 && a24 && a25 && a26 && a27 && a28 && a29 && a30 && a31 && a32) = true := by
  subst h1 h2 h3 h4 h5 h6 h7 h8 h9 h10 h11 h12 h13 h14 h15 h16 h17 h18 h19 h20 h21 h22 h23 h24 h25 h26 h27 h28 h29 h30 h31 h32
  rfl
noncomputable abbrev pr : Program := Tryz.pinned.checked.prog
theorem pr_laidOut : laidOutB pr = true := by kernel_rfl
theorem pr_mapsRowed : mapsRowed pr = true := by kernel_rfl
theorem pr_stopsHeard : pr.stopsHeard = true := by kernel_rfl
theorem pr_mayEnter : pr.mayEnter = true := by kernel_rfl
theorem own : ownKnob Tryz.prog.godebug = none := by kernel_rfl
theorem laidOut : laidOutB Tryz.prog = true := by kernel_rfl
/-- The variables that each row lists. -/
abbrev laid : List (String × DataW Unit) := Rows.workoutCostsMatchSpecRow.laid
theorem table {W : World} (h : laidMetH Tryz.prog laid W) : G7ok W := by
  rw [MakeChecks.laidMetH_plain _ _ _ (by kernel_rfl)] at h
  obtain ⟨g, t, cs, fuel, p, hg, ht, hv, hd⟩ := Lib.laidMet.reads h (.tail _ (.tail _ (.head _)))
  obtain rfl := Option.some.inj ((show Tryz.prog.globalNamed "internal/strconv.uint64pow10" = some 7 by kernel_rfl).symm.trans hg)
  obtain rfl := Option.some.inj ((show (Tryz.prog.globals[7]?).map (·.type) = some 292 by kernel_rfl).symm.trans ht)
  have hcs : cs.toList = pow10.map fun z => Value.int .u64 z := Lib.cells_of_tab (k := .u64) (zs := pow10) (show Tryz.prog.underlying 292 = some (.array 20 155) by kernel_rfl) (show Tryz.prog.underlying 155 = some (.int .u64) by kernel_rfl) (by kernel_rfl) (by kernel_rfl) hd
  intro g' cs' hm
  simp only [G7, List.mem_singleton, Prod.mk.injEq] at hm
  obtain ⟨rfl, rfl⟩ := hm
  refine ⟨?_, fun j v hj => ?_⟩
  · have h0 := World.var?_cell hg hv 0
    have h1 : cs[0]? = some (.int .u64 1) := by rw [← Array.getElem?_toList, hcs]; rfl
    rw [h1] at h0
    rcases Nat.lt_or_ge 7 W.heap.size with h2 | h2
    · exact h2
    · have : W.heap[7]? = none := Array.getElem?_eq_none h2
      simp [World.cell?, this] at h0
  · rw [World.var?_cell hg hv j, ← Array.getElem?_toList, hcs]; exact hj
theorem laid_witness (os : Os) (args : Array Value) : laidMetH Tryz.prog laid ((World.laidAll Tryz.prog os laid).forCall (fun _ _ => 0) ⟨#[], args, []⟩).memory := by
  rw [MakeChecks.laidMetH_plain _ _ _ (by kernel_rfl)]; exact laidMet_laidAll _ (by kernel_rfl) (by kernel_rfl)
theorem laid_shaped (os : Os) (args : Array Value) : ((World.laidAll Tryz.prog os laid).forCall (fun _ _ => 0) ⟨#[], args, []⟩).Shaped Tryz.prog := World.shaped_of_ZipB (by kernel_rfl) (by kernel_rfl)
end Go.Proofs.YtfphabkdgdgnbaaGreatDoor
