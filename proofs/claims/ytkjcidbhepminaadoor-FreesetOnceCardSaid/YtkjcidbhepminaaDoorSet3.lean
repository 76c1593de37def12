/- The program's set of blocks: made, turned, taken, let go. Conditions: the set's block is known. -/
import Derived.Test.YtkjcidbhepminaaDoorSet2
import Derived.Test.YtkjcidbhepminaaDoorBits
import Derived.Test.YtkjcidbhepminaaDoorMid
namespace Go.Proofs.YtkjcidbhepminaaDoor
open Go.RowKit
theorem setCells_new (n : Nat) : setCells (List.replicate n 0) = #[.int .i64 (n : Int), .int .u64 0, .int .u64 0, .int .u64 0, .int .u64 0, .int .u64 0, .int .u64 0, .int .u64 0, .int .u64 0, .int .u64 0, .int .u64 0, .int .u64 0, .int .u64 0, .int .u64 0, .int .u64 0, .int .u64 0, .int .u64 0] := by
  have e : ∀ i, (List.replicate n 0).getD i 0 = 0 := fun i => by
    rw [List.getD_eq_getElem?_getD, List.getElem?_replicate]; split <;> rfl
  have t : ∀ w, tw (List.replicate n 0) w = 0 := fun w => wf_none (fun i _ => by rw [e]; rfl)
  have g : ∀ w, gw (List.replicate n 0) w = 0 := fun w => wf_none (fun i _ => by rw [e]; rfl)
  unfold setCells
  have : arr 17 (setv (List.replicate n 0)) = arr 17 (fun i => if i = 0 then .int .i64 (n : Int) else .int .u64 0) := arr_congr fun i _ => by
    unfold setv
    split
    · simp
    · split
      · rw [t]; rfl
      · rw [g]; rfl
  rw [this]
  apply Array.ext'
  simp [arr, List.ofFn_succ]
theorem setOk_new (n : Nat) (h : n ≤ 512) : SetOk (List.replicate n 0) :=
  ⟨by simpa using h, fun i => by rw [List.getD_eq_getElem?_getD, List.getElem?_replicate]; split <;> simp⟩
theorem new_bad (n : Int) (h : n < 1 ∨ 512 < n) (w : World) :
    Calls Tryd.prog 25 #[.int .i64 n] w fun e w' => e = .returned (.tuple #[.pointer none, .int .i64 5]) ∧ w = w' := by
  rcases h with h | h
  · go_enter Tryd.func25, Tryd.ntmps25
    go_wp2
    go_ret2
    exact ⟨rfl, rfl⟩
  · have h1 : 1 ≤ n := by omega
    go_enter Tryd.func25, Tryd.ntmps25
    go_wp2
    go_ret2
    exact ⟨rfl, rfl⟩
theorem new_any (n : Nat) (h0 : 0 < n) (h1 : n ≤ 512) (w : World) :
    Calls Tryd.prog 25 #[.int .i64 (n : Int)] w fun e w' => e = .returned (.tuple #[.pointer (some ⟨w.heap.size, 0, none⟩), .int .i64 0]) ∧ Blk w' w.heap.size 26 (setCells (List.replicate n 0)) ∧ Below w.heap.size w w' := by
  rw [setCells_new]
  go_enter Tryd.func25, Tryd.ntmps25
  go_wp2
  go_ret2
  exact ⟨rfl, Blk.new _ _ _, (Below.refl _ _).alloc (Nat.le_refl _) _⟩
theorem clone_nil (w : World) : Calls Tryd.prog 16 #[.pointer none] w fun e w' => e = .returned (.pointer none) ∧ w = w' := by
  go_enter Tryd.func16, Tryd.ntmps16
  go_wp2_with (go_at_call 30; refine (none_nil _).mono ?_; rintro e w' ⟨rfl, rfl⟩)
  go_ret
  exact ⟨rfl, rfl⟩
theorem clone_empty (g : Nat) (w : World) (h : Blk w g 26 (setCells [])) : Calls Tryd.prog 16 #[.pointer (some ⟨g, 0, none⟩)] w fun e w' => e = .returned (.pointer none) ∧ w = w' := by
  have hn := none_any [] g w h
  rw [decide_eq_true (by rfl)] at hn
  go_enter Tryd.func16, Tryd.ntmps16
  go_wp2_with (go_at_call 30; refine hn.mono ?_; rintro e w' ⟨rfl, rfl⟩)
  go_ret
  exact ⟨rfl, rfl⟩
theorem sizeSet : (Tryd.prog.info? 26).map (·.size) = some 17 := by kernel_rfl
def zeroSet : Array Value := #[.int .i64 0, .int .u64 0, .int .u64 0, .int .u64 0, .int .u64 0, .int .u64 0, .int .u64 0, .int .u64 0, .int .u64 0, .int .u64 0, .int .u64 0, .int .u64 0, .int .u64 0, .int .u64 0, .int .u64 0, .int .u64 0, .int .u64 0]
theorem allocSet (w : World) : (zeroValue 26).run Tryd.prog w = .ok (.agg zeroSet) w := by
  have h : (Tryd.prog.info? 26).map (fun i => (i.zero, i.size)) = some (some (.agg zeroSet), 17) := by kernel_rfl
  exact (zero_of_info h).1 w
theorem setv_one (L : List Nat) (i : Nat) : (setv L i).oneCell' = true := by
  unfold setv
  split
  · rfl
  · split <;> rfl
theorem all_one {cs : Array Value} (h : ∀ (i : Nat) (v : Value), cs[i]? = some v → v.oneCell' = true) : cs.all (·.oneCell') = true := by
  rw [Array.all_eq_true]; intro i hi; exact h i _ (Array.getElem?_eq_getElem hi)
theorem setCells_get {L : List Nat} {i : Nat} {v : Value} (h : (setCells L)[i]? = some v) : v = setv L i := by
  rw [setCells, arr_get] at h
  split at h
  · injection h with h; exact h.symm
  · cases h
theorem setCells_one (L : List Nat) : (setCells L).all (·.oneCell') = true := all_one fun i v h => by rw [setCells_get h]; exact setv_one L i
theorem setCells_size (L : List Nat) : (setCells L).size = 17 := arr_size _ _
set_option maxHeartbeats 1000000 in
theorem clone_any (L : List Nat) (hL : 0 < L.length) (g : Nat) (w : World) (h : Blk w g 26 (setCells L)) :
    Calls Tryd.prog 16 #[.pointer (some ⟨g, 0, none⟩)] w fun e w' => e = .returned (.pointer (some ⟨w.heap.size, 0, none⟩)) ∧ Blk w' w.heap.size 26 (setCells L) ∧ Below w.heap.size w w' := by
  have hn := none_any L g w h
  rw [decide_eq_false (by omega)] at hn
  have hz := setCells_size L
  have ho := setCells_one L
  generalize setCells L = C at h hz ho ⊢
  have HZ := Lib.hid hz
  have HO := Lib.hid ho
  clear hz ho
  have hB := (Below.refl w.heap.size w).alloc (Nat.le_refl _) (.cells zeroSet 26)
  go_enter Tryd.func16, Tryd.ntmps16
  go_wp2_with (first
    | (go_at_call 30; refine hn.mono ?_; rintro e w' ⟨rfl, rfl⟩)
    | (show wpList _ _ _ ((⟨some 8, _, _, _, _, _⟩ : Oper) :: _) _ _; refine wpList_load_blk (o := ⟨some 8, _, _, _, _, _⟩) (h) (by rfl) _ _ (by rfl) (by rfl) _ Tryd.underlying26 (by rfl) (sizeSet) (HZ.out) ?_)
    | (show wpList _ _ _ ((⟨none, _, _, _, _, _⟩ : Oper) :: _) _ _; refine wpList_store_blk (o := ⟨none, _, _, _, _, _⟩) (Blk.new w 26 zeroSet) (by rfl) _ _ _ (by rfl) (by rfl) (C) (by rfl) (sizeSet) (by rfl) (HZ.out) (HO.out) ?_; intro w2 hy hu; have hC := hB.upd hu (Nat.le_refl _); clear hB hu)
    | fail)
  go_ret
  exact ⟨rfl, hy, hC⟩
end Go.Proofs.YtkjcidbhepminaaDoor
