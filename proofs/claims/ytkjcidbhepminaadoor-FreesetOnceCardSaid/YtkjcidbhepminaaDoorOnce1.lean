/- A set and a plain list of numbers, side by side: plain facts. -/
import Derived.Test.YtkjcidbhepminaaDoorKnown09
import Derived.Test.YtkjcidbhepminaaDoorActs
import Derived.Test.YtkjcidbhepminaaDoorPick
namespace Go.Proofs.YtkjcidbhepminaaDoor
open Go.RowKit
structure Once (W w : World) (g gi n : Nat) (L : List Nat) : Prop where
  st : Blk w g 26 (setCells L)
  is_ : Blk w gi 3 (ints (0 :: L))
  ok : SetOk L
  len : L.length = n
  pos : 0 < n
  ne : g ≠ gi
  base : W.heap.size ≤ g ∧ W.heap.size ≤ gi
  bel : Below W.heap.size W w
variable {W w w' : World} {g gi n : Nat} {L L' : List Nat}
theorem Once.drewN (h : Once W w g gi n L) (j : Nat) : Once W (w.drewN j) g gi n L := ⟨h.st.drewN j, h.is_.drewN j, h.ok, h.len, h.pos, h.ne, h.base, below_drewN h.bel j⟩
theorem Once.below (h : Once W w g gi n L) (hb : Below w.heap.size w w') : Once W w' g gi n L := ⟨h.st.below hb h.st.lt, h.is_.below hb h.is_.lt, h.ok, h.len, h.pos, h.ne, h.base, h.bel.trans (hb.mono h.bel.size)⟩
theorem Once.len0 (h : Once W w g gi n L) : 0 < L.length := by rw [h.len]; exact h.pos
theorem Once.at_ (h : Once W w g gi n L) (k : Nat) (hk : k < n) : w.cell? ⟨gi, k + 1, none⟩ = some (.int .i64 (L.getD k 0 : Nat)) := by
  have := h.len
  exact h.is_.at_ (k + 1) ((ints_at (0 :: L) (k + 1) (by simp; omega)).trans (by simp))
/-- The set alone has turned. -/
theorem Once.half (h : Once W w g gi n L) (u : Upd g w w') : Blk w' gi 3 (ints (0 :: L)) := h.is_.upd u (Ne.symm h.ne)
/-- Both have turned alike. -/
theorem Once.turned (h : Once W w g gi n L) (hs : Blk w' g 26 (setCells L')) (u : Upd g w w') (hok : SetOk L') (hl : L'.length = n) {w2 : World} (hi : Blk w2 gi 3 (ints (0 :: L'))) (u2 : Upd gi w' w2) : Once W w2 g gi n L' :=
  ⟨hs.upd u2 h.ne, hi, hok, hl, h.pos, h.ne, h.base, (h.bel.upd u h.base.1).upd u2 h.base.2⟩
theorem ints_set1 (L : List Nat) (k v : Nat) : (ints (0 :: L)).setIfInBounds (k + 1) (.int .i64 (v : Nat)) = ints (0 :: L.set k v) := by rw [ints_set]; rfl
theorem list_set_self (L : List Nat) (t : Nat) : L.set t (L.getD t 0) = L := by
  apply List.ext_getElem (by simp)
  intro i h1 h2
  rw [List.getElem_set]
  split
  · rename_i e; subst e; rw [List.getD_eq_getElem?_getD, List.getElem?_eq_getElem h2]; rfl
  · rfl
/-- The lowest free one of those from j on, its number, or 0. -/
def LowAt (L : List Nat) (j x : Nat) : Prop := (x = 0 ∧ ∀ i, j ≤ i → i < L.length → L.getD i 0 ≠ 0) ∨ (j < x ∧ x ≤ L.length ∧ L.getD (x - 1) 0 = 0 ∧ ∀ i, j ≤ i → i < x - 1 → L.getD i 0 ≠ 0)
theorem LowAt.full (L : List Nat) : LowAt L L.length 0 := .inl ⟨rfl, fun i h1 h2 => by omega⟩
theorem LowAt.free {L : List Nat} {j : Nat} (hj : j < L.length) (h : L.getD j 0 = 0) : LowAt L j (j + 1) := .inr ⟨by omega, by omega, h, fun i h1 h2 => by omega⟩
theorem LowAt.not_ {L : List Nat} {j x : Nat} (h : LowAt L (j + 1) x) (hj : L.getD j 0 ≠ 0) : LowAt L j x := by
  rcases h with ⟨h1, h2⟩ | ⟨h1, h2, h3, h4⟩
  · refine .inl ⟨h1, fun i hi hl => ?_⟩
    by_cases e : i = j
    · subst e; exact hj
    · exact h2 i (by omega) hl
  · refine .inr ⟨by omega, h2, h3, fun i hi hl => ?_⟩
    by_cases e : i = j
    · subst e; exact hj
    · exact h4 i (by omega) hl
theorem LowAt.is_ {L : List Nat} {x : Nat} (h : LowAt L 0 x) : acqN L = x ∧ (x = 0 ∧ acqE L = 8 ∧ acqL L = L ∨ 0 < x ∧ x ≤ L.length ∧ acqE L = 0 ∧ acqL L = L.set (x - 1) 1) := by
  rcases h with ⟨rfl, h2⟩ | ⟨h1, h2, h3, h4⟩
  · have hf := fr_full (fun i hi => h2 i (by omega) hi)
    refine ⟨by unfold acqN; rw [hf, if_neg (by omega)]; rfl, .inl ⟨rfl, by unfold acqE; rw [hf, if_neg (by omega)], by unfold acqL; rw [hf, if_neg (by omega)]⟩⟩
  · have hf := fr_is (k := x - 1) (by omega) h3 (fun i hi => h4 i (by omega) hi)
    refine ⟨by unfold acqN; rw [hf, if_pos (by omega)]; omega, .inr ⟨h1, h2, by unfold acqE; rw [hf, if_pos (by omega)], by unfold acqL; rw [hf, if_pos (by omega)]⟩⟩
theorem cnts_all (L : List Nat) (h : ∀ i, L.getD i 0 ≤ 2) : cnts L 0 + cnts L 1 + cnts L 2 = L.length := by
  induction L with
  | nil => rfl
  | cons x t ih =>
    have h0 := h 0
    have ht := ih (fun i => by have := h (i + 1); simpa using this)
    simp only [List.getD_cons_zero] at h0
    have : x = 0 ∨ x = 1 ∨ x = 2 := by omega
    unfold cnts at ht ⊢
    rcases this with rfl | rfl | rfl <;> simp <;> omega
end Go.Proofs.YtkjcidbhepminaaDoor
