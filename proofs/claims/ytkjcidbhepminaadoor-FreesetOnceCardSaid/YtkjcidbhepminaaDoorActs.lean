/- A list of calls as an argument: pairs of numbers. Plain facts. Condition: the list can be read. -/
import Derived.Test.YtkjcidbhepminaaDoorRowKit
namespace Go.Proofs.YtkjcidbhepminaaDoor
open Go.RowKit
abbrev ActT := Int × Int × Unit
def actSh : Sh := .cons (.int .i64) (.cons (.int .i64) .nil)
def Acts (w : World) (A : Option Addr) (l : List ActT) : Prop :=
  0 < l.length → ∃ b off, A = some ⟨b, off, none⟩ ∧ b < w.heap.size ∧ ∀ i, (h : i < l.length) → w.cell? ⟨b, off + i * 2, none⟩ = some (.int .i64 l[i].1) ∧ w.cell? ⟨b, off + i * 2 + 1, none⟩ = some (.int .i64 l[i].2.1) ∧
    -9223372036854775808 ≤ l[i].1 ∧ l[i].1 ≤ 9223372036854775807 ∧ -9223372036854775808 ≤ l[i].2.1 ∧ l[i].2.1 ≤ 9223372036854775807
theorem Acts.below {w w' : World} {A : Option Addr} {l : List ActT} (h : Acts w A l) (hb : Below w.heap.size w w') : Acts w' A l := fun hp => by
  obtain ⟨b, off, e, hlt, hc⟩ := h hp
  exact ⟨b, off, e, Nat.lt_of_lt_of_le hlt hb.size, fun i hi => ⟨(hb.cell (p := ⟨b, off + i * 2, none⟩) hlt).trans (hc i hi).1, (hb.cell (p := ⟨b, off + i * 2 + 1, none⟩) hlt).trans (hc i hi).2.1, (hc i hi).2.2⟩⟩
theorem actSh_is {w : World} {r : ActT} {cs : List Value} (h : Sh.Is w actSh r cs) : cs = [.int .i64 r.1, .int .i64 r.2.1] ∧ -9223372036854775808 ≤ r.1 ∧ r.1 ≤ 9223372036854775807 ∧ -9223372036854775808 ≤ r.2.1 ∧ r.2.1 ≤ 9223372036854775807 := by
  obtain ⟨c1, c2, rfl, _, hx, c3, c4, rfl, _, hy, hz⟩ := h
  obtain ⟨rfl, a1, a2⟩ := hx
  obtain ⟨rfl, a3, a4⟩ := hy
  have hz : c4 = [] := hz
  subst hz
  exact ⟨rfl, a1, a2, a3, a4⟩
theorem Acts.both {w : World} {B : Option Addr} {ts : List ActT} {rows : List (List Value)} (h : Both (fun (d : actSh.T) r => r.length = actSh.size ∧ Sh.Is w actSh d r) ts rows) (hr : Reads w B rows.flatten) : Acts w B ts := by
  have hat : ∀ i, (hi : i < ts.length) → rows.flatten[i * 2]? = some (.int .i64 ts[i].1) ∧ rows.flatten[i * 2 + 1]? = some (.int .i64 ts[i].2.1) ∧
      -9223372036854775808 ≤ ts[i].1 ∧ ts[i].1 ≤ 9223372036854775807 ∧ -9223372036854775808 ≤ ts[i].2.1 ∧ ts[i].2.1 ≤ 9223372036854775807 := by
    intro i hi
    obtain ⟨r, h1, h2, h3⟩ := both_at h i hi
    obtain ⟨rfl, hbd⟩ := actSh_is h2
    refine ⟨?_, ?_, hbd⟩
    · have := h3 0 (by decide)
      rw [show i * actSh.size + 0 = i * 2 by simp [actSh, Sh.size]] at this
      rw [this]; rfl
    · have := h3 1 (by decide)
      rw [show i * actSh.size + 1 = i * 2 + 1 by simp [actSh, Sh.size]] at this
      rw [this]; rfl
  intro hp
  have hne : rows.flatten ≠ [] := by intro e; have := (hat 0 hp).1; rw [e] at this; simp at this
  obtain ⟨b, off, e, hc⟩ := hr hne
  exact ⟨b, off, e, World.block_lt_of_cell? w _ (hc _ _ (hat 0 hp).1), fun i hi => ⟨hc _ _ (hat i hi).1, by rw [Nat.add_assoc]; exact hc _ _ (hat i hi).2.1, (hat i hi).2.2⟩⟩
end Go.Proofs.YtkjcidbhepminaaDoor
