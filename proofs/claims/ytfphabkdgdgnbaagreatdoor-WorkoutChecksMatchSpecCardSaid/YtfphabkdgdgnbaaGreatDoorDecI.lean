import Derived.Test.YtfphabkdgdgnbaaGreatDoorChkD
import Derived.Test.YtfphabkdgdgnbaaGreatDoorTreesOk
import Derived.Test.YtfphabkdgdgnbaaGreatDoorSEg
import Derived.KernelRfl
set_option linter.unusedVariables false
set_option linter.unusedSimpArgs false
namespace Go.Proofs.YtfphabkdgdgnbaaGreatDoor
open Go Go.RowKit Go.Proofs.YtfphabkdgdgnbaaGreatDoor.AE Go.Proofs.YtfphabkdgdgnbaaGreatDoor.SE
theorem rows_map : ∀ l : List Item, l.map Item.row = rows l
  | [] => rfl
  | x :: l => by rw [List.map_cons, rows_map l]; rfl
theorem oks_all : ∀ {l : List Item}, (∀ x ∈ l, x.ok) → oks l
  | [], _ => trivial
  | x :: l, h => ⟨h x (List.mem_cons_self ..), oks_all fun y hy => h y (List.mem_cons_of_mem _ hy)⟩
abbrev itemLts : List LT := [.sc, .sc, .sc, .sc, .sc, .sc, .sc, .sc, .sc, .sl 93]
theorem layItem : layE Tryz.prog 93 = some itemLts := by kernel_rfl
theorem decItems {n : Nat} (h : DecT Tryz.prog n 93 Item.row itemLts Item.ok) : DecT Tryz.prog (n + 1) 22 (fun l : List Item => [.l (rows l)]) [.sl 93] fun l => l.length ≤ maxLen ∧ oks l :=
  decT_iso (fun l => l) (fun l => by rw [rows_map]) (fun l h => ⟨h.1, oks_all h.2⟩) (decT_slice Tryz.underlying22 (by kernel_rfl) layItem h)
theorem decAim (n : Nat) : DecT Tryz.prog (n + 1) 91 (fun a : Int × Bool × Int × Int => [I a.1, B a.2.1, I a.2.2.1, I a.2.2.2]) [.sc, .sc, .sc, .sc] fun _ => True := by
  have h := decT_struct (n := n) Tryz.underlying91 (by kernel_rfl)
    (decT_cons (decT_int (n := n) Tryz.underlying3 (by kernel_rfl)) rfl (decT_cons (decT_bool (n := n) Tryz.underlying4 (by kernel_rfl)) rfl (decT_cons (decT_int (n := n) Tryz.underlying3 (by kernel_rfl)) rfl (decT_last (decT_int (n := n) Tryz.underlying3 (by kernel_rfl)) rfl))))
  exact decT_iso (fun a => a) (fun a => rfl) (fun a h => trivial) h
theorem decAim0 : ∀ n, DecT Tryz.prog n 91 (fun a : Int × Bool × Int × Int => [I a.1, B a.2.1, I a.2.2.1, I a.2.2.2]) [.sc, .sc, .sc, .sc] fun _ => True
  | 0 => decT_zero (by kernel_rfl)
  | n + 1 => decAim n
theorem decItem1 {n : Nat} (h : DecT Tryz.prog n 22 (fun l : List Item => [.l (rows l)]) [.sl 93] fun l => l.length ≤ maxLen ∧ oks l) : DecT Tryz.prog (n + 1) 93 Item.row itemLts Item.ok := by
  have h := decT_struct (n := n) Tryz.underlying93 (by kernel_rfl)
    (decT_cons (decT_int (n := n) Tryz.underlying3 (by kernel_rfl)) rfl (decT_cons (decT_string (n := n) Tryz.underlying9 (by kernel_rfl)) rfl (decT_cons (decT_int (n := n) Tryz.underlying3 (by kernel_rfl)) rfl (decT_cons (decT_int (n := n) Tryz.underlying3 (by kernel_rfl)) rfl
      (decT_cons (decAim0 n) rfl (decT_cons (decT_int (n := n) Tryz.underlying3 (by kernel_rfl)) rfl (decT_last h rfl)))))))
  exact decT_iso (fun a : Int × ByteArray × Int × Int × (Int × Bool × Int × Int) × Int × List Item => Item.mk a.1 a.2.1 a.2.2.1 a.2.2.2.1 a.2.2.2.2.1.1 a.2.2.2.2.1.2.1 a.2.2.2.2.1.2.2.1 a.2.2.2.2.1.2.2.2 a.2.2.2.2.2.1 a.2.2.2.2.2.2) (fun a => rfl) (fun a h => ⟨h.2.1, h.2.2.2.2.2.2⟩) h
theorem decBoth : ∀ n, DecT Tryz.prog n 93 Item.row itemLts Item.ok ∧ DecT Tryz.prog n 22 (fun l : List Item => [.l (rows l)]) [.sl 93] fun l => l.length ≤ maxLen ∧ oks l
  | 0 => ⟨decT_zero (by kernel_rfl), decT_zero (by kernel_rfl)⟩
  | n + 1 => ⟨decItem1 (decBoth n).2, decItems (decBoth n).1⟩
theorem decWorkout : ∀ n, DecT Tryz.prog n 24 (fun w : ByteArray × List Item => [St w.1, .l (rows w.2)]) [.sc, .sl 93] fun w => w.1.size ≤ maxLen ∧ w.2.length ≤ maxLen ∧ oks w.2
  | 0 => decT_zero (by kernel_rfl)
  | n + 1 => by
    have h := decT_struct (n := n) Tryz.underlying24 (by kernel_rfl) (decT_cons (decT_string (n := n) Tryz.underlying9 (by kernel_rfl)) rfl (decT_last (decBoth n).2 rfl))
    exact decT_iso (fun w => w) (fun w => rfl) (fun w h => h) h
end Go.Proofs.YtfphabkdgdgnbaaGreatDoor
