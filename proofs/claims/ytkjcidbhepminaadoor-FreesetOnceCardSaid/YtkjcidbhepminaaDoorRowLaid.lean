/- What a row that lists the library's table gives: the table lies in its variable; and how such a row starts. Plain facts of this program. No condition. -/
import Derived.Test.YtkjcidbhepminaaDoorRowKit
import Derived.Test.YtkjcidbhepminaaDoorWake09
import Derived.LaidMore
import Derived.Lib.LaidTab
import Derived.Stop.Joined
namespace Go.Proofs.YtkjcidbhepminaaDoor
open Go.ChangeShapes Go.WideShapes Go.ChangeAt Go.RowKit
def tabName : String := Rows.freesetNoneRow.laid.head!.1
def laid1 : List (String × DataW Unit) := Rows.freesetNoneRow.laid
def tabZ : List Int := Lib.deBruijn64tab.map fun (n : Nat) => (n : Int)
theorem gTab : Tryd.prog.globalNamed tabName = some 0 := by kernel_rfl
theorem tTab : (Tryd.prog.globals[0]?).map (·.type) = some 74 := by kernel_rfl
theorem laid1_eq : laid1 = (tabName, Lib.tabData .u8 tabZ) :: [] := by rfl
theorem door_met (os : Os) (args : Array Value) : laidMetH Tryd.prog laid1 ((World.doorLaid Tryd.prog 400 os).forCall (fun _ _ => 0) ⟨#[], args, []⟩).memory :=
  laidMetH_of_parts3 (fuel := 8) (laidMet_of_run' 8 (by kernel_rfl) (by kernel_rfl)) (by kernel_rfl) (by kernel_rfl)
theorem of_laid {W : World} (h : laidMetH Tryd.prog laid1 W) : Tab W := by
  rw [MakeChecks.laidMetH_plain _ _ _ (by kernel_rfl), laid1_eq] at h
  have ht := Lib.tabIs_of_head (k := .u8) (zs := tabZ) gTab tTab Tryd.underlying74 Tryd.underlying5 (by kernel_rfl) (by kernel_rfl) h
  have hc : ∀ j, j < 64 → W.cell? ⟨0, j, none⟩ = some (.int .u8 (Lib.deBruijn64tab.getD j 0 : Nat)) := fun j hj => by
    have := ht.cell gTab j (by unfold tabZ; rw [List.length_map]; exact hj)
    rw [this]
    unfold tabZ
    have hj' : j < Lib.deBruijn64tab.length := hj
    simp [List.getD, hj']
  refine ⟨?_, fun j hj => hc j hj⟩
  have h0 := hc 0 (by omega)
  rcases Nat.lt_or_ge 0 W.heap.size with h1 | h1
  · exact h1
  · exfalso
    unfold World.cell? at h0
    rw [Array.getElem?_eq_none h1] at h0
    simp at h0
end Go.Proofs.YtkjcidbhepminaaDoor
