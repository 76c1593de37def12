/- A block as an argument: what its cells are. Plain facts of this program. No condition. -/
import Derived.Test.YtfpcldnefpmgcaaRowKit
import Derived.Test.YtfpcldnefpmgcaaGridR
namespace Go.Proofs.Ytfpcldnefpmgcaa
open Go.RowKit
def refSh : Sh := .cons (.int .i64) (.cons (.int .i64) .nil)
def gbSh : Sh := .cons (.int .i64) (.cons refSh (.cons (.slice refSh) (.cons (.slice .byte) .nil)))
theorem refSh_is {w : World} {r : refSh.T} {cs : List Value} (h : Sh.Is w refSh r cs) : cs = [.int .i64 r.1, .int .i64 r.2.1] := by
  obtain ⟨c1, c2, rfl, _, hx, c3, c4, rfl, _, hy, hz⟩ := h
  obtain ⟨rfl, _, _⟩ := hx
  obtain ⟨rfl, _, _⟩ := hy
  have hz : c4 = [] := hz
  subst hz
  rfl
theorem Refs.both {w : World} {B : Option Addr} {ts : List RefT} {rows : List (List Value)} (h : Both (fun (d : refSh.T) r => r.length = refSh.size ∧ Sh.Is w refSh d r) ts rows) (hr : Reads w B rows.flatten) : Refs w B ts := by
  have hat : ∀ i, (hi : i < ts.length) → rows.flatten[i * 2]? = some (.int .i64 ts[i].1) ∧ rows.flatten[i * 2 + 1]? = some (.int .i64 ts[i].2.1) := by
    intro i hi
    obtain ⟨r, h1, h2, h3⟩ := both_at h i hi
    obtain rfl := refSh_is h2
    refine ⟨?_, ?_⟩
    · have := h3 0 (by decide)
      rw [show i * refSh.size + 0 = i * 2 by simp [refSh, Sh.size]] at this
      rw [this]; rfl
    · have := h3 1 (by decide)
      rw [show i * refSh.size + 1 = i * 2 + 1 by simp [refSh, Sh.size]] at this
      rw [this]; rfl
  intro hp
  have hne : rows.flatten ≠ [] := by intro e; have := (hat 0 hp).1; rw [e] at this; simp at this
  obtain ⟨b, off, e, hc⟩ := hr hne
  exact ⟨b, off, e, World.block_lt_of_cell? w _ (hc _ _ (hat 0 hp).1), fun i hi => ⟨hc _ _ (hat i hi).1, by rw [Nat.add_assoc]; exact hc _ _ (hat i hi).2⟩⟩
theorem gbSh_is {w : World} {x : gbSh.T} {cs : List Value} (h : Sh.Is w gbSh x cs) : ∃ A c B d, cs = [.int .i64 x.1, .int .i64 x.2.1.1, .int .i64 x.2.1.2.1, .slice A x.2.2.1.length c, .slice B x.2.2.2.1.length d] ∧
    x.2.2.1.length ≤ c ∧ x.2.2.2.1.length ≤ d ∧ c ≤ 9223372036854775807 ∧ d ≤ 9223372036854775807 ∧ Refs w A x.2.2.1 ∧ Bytes w B x.2.2.2.1 := by
  obtain ⟨c1, c2, rfl, _, hx, c3, c4, rfl, _, hy, c5, c6, rfl, _, hz, c7, c8, rfl, _, hu, hv⟩ := h
  obtain ⟨rfl, _, _⟩ := hx
  obtain rfl := refSh_is hy
  obtain ⟨A, c, rows, rfl, h2, h3, h4, h5⟩ := hz
  obtain ⟨B, d, rfl, h6, h7, h8⟩ := Sh.Is.bytes hu
  have hv : c8 = [] := hv
  subst hv
  exact ⟨A, c, B, d, rfl, h2, h6, by simpa [maxLen] using h3, by simpa [maxLen] using h7, Refs.both h4 h5, h8⟩
end Go.Proofs.Ytfpcldnefpmgcaa
