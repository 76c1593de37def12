/- What the blocks hold in which both texts make a seal: plain facts on worlds. No condition. -/
import Derived.Test.YtfpcldnefpmgcaaBlock
namespace Go.Proofs.Ytfpcldnefpmgcaa
open Go.RowKit
theorem size64 : (Try.prog.info? 64).map (·.size) = some 64 := by kernel_rfl
theorem karr_one : karr.all (·.oneCell') = true := by kernel_rfl

def lenOf : Value → Nat
  | .slice _ n _ => n
  | _ => 0
def zero16 : Array Value := arr 16 fun _ => .int .u8 0
theorem size16 : (Try.prog.info? 23).map (·.size) = some 16 := by kernel_rfl
theorem alloc16 (w : World) : (zeroValue 23).run Try.prog w = .ok (.agg zero16) w := by
  have h : (Try.prog.info? 23).map (fun i => (i.zero, i.size)) = some (some (.agg zero16), 16) := by kernel_rfl
  exact (zero_of_info h).1 w
/-- What the call's own blocks hold: the words, the constants. -/
structure SInv (T : TypeId) (w0 wr : World) (H K : Nat) (s : Sha.St) : Prop where
  hh : Blk wr H T (st8 s)
  kk : Blk wr K 64 karr
  rr : Blk wr w0.heap.size 23 zero16
  h1 : w0.heap.size < H
  h2 : H < K
  bel : Below w0.heap.size w0 wr
theorem SInv.below {T : TypeId} {w0 wr w' : World} {H K : Nat} {s : Sha.St} (h : SInv T w0 wr H K s) (hb : Below wr.heap.size wr w') : SInv T w0 w' H K s :=
  ⟨h.hh.below hb h.hh.lt, h.kk.below hb h.kk.lt, h.rr.below hb h.rr.lt, h.h1, h.h2, h.bel.trans (hb.mono h.bel.size)⟩
theorem SInv.stored {T : TypeId} {w0 wr w' : World} {H K : Nat} {s s' : Sha.St} (h : SInv T w0 wr H K s) (hb : Blk w' H T (st8 s')) (u : Upd H wr w') : SInv T w0 w' H K s' :=
  ⟨hb, h.kk.upd u (by have := h.h2; omega), h.rr.upd u (by have := h.h1; omega), h.h1, h.h2, h.bel.upd u (by have := h.h1; omega)⟩

theorem SInv.grown {T : TypeId} {w0 wr w' : World} {H K : Nat} {s : Sha.St} {row : Option Nat} (h : SInv T w0 wr H K s) (hg : wr.grownBy w' row) (hr : ∀ k, row = some k → K < k) : SInv T w0 w' H K s := by
  have hne : ∀ k, k ≤ K → some k ≠ row := fun k hk e => by have := hr k e.symm; omega
  have h1 := h.h1
  have h2 := h.h2
  exact ⟨(hg.block _ h.hh.lt (hne _ (by omega))).trans h.hh, (hg.block _ h.kk.lt (hne _ (by omega))).trans h.kk, (hg.block _ h.rr.lt (hne _ (by omega))).trans h.rr, h.h1, h.h2,
    h.bel.grown hg h.bel.size (fun k hk => by have := hr k hk; omega)⟩
theorem SInv.alloc {T : TypeId} {w0 wr : World} {H K : Nat} {s : Sha.St} (h : SInv T w0 wr H K s) (o : Obj) : SInv T w0 (wr.alloc o) H K s := h.below ((Below.refl _ _).alloc (Nat.le_refl _) o)
theorem u8info : (Try.prog.info? 5).map (fun i => (i.zero, i.size, i.bytes)) = some (some (.int .u8 0), 1, 1) := by kernel_rfl
/-- The 16 bytes, of which the first 4 i have been laid. -/
def darr (x : Sha.St) (i : Nat) : Array Value := arr 16 fun k => if k < 4 * i then u8v (Sha.outAt x k) else .int .u8 0
theorem darr_zero (x : Sha.St) : zero16 = darr x 0 := arr_congr fun i _ => by simp
theorem darr_all (x : Sha.St) : darr x 4 = ((Sha.out x).map u8v).toArray := by
  unfold Sha.out
  rw [List.map_map, arr_list]
  exact arr_congr fun i h => by simp [h]
theorem byte_eq (y : UInt32) (i : Nat) : iu32 y / 2 ^ (24 - 8 * i) % 256 = iu8 (Sha.byte y i) := by
  rw [Sha.byte, iu8_ofNat_mod]; unfold iu32; simp
theorem u8_all (l : List UInt8) : (l.map u8v).toArray.all (·.oneCell') = true := by
  rw [List.all_toArray]
  simp [u8v, Value.oneCell']
theorem darr_set (x : Sha.St) (i : Nat) (y : UInt32) (hy : y = Sha.get x i) :
    ((((darr x i).setIfInBounds (4 * i) (.int .u8 (iu8 (Sha.byte y 0)))).setIfInBounds (4 * i + 1) (.int .u8 (iu8 (Sha.byte y 1)))).setIfInBounds (4 * i + 2) (.int .u8 (iu8 (Sha.byte y 2)))).setIfInBounds (4 * i + 3) (.int .u8 (iu8 (Sha.byte y 3))) = darr x (i + 1) := by
  unfold darr
  rw [arr_set, arr_set, arr_set, arr_set]
  refine arr_congr fun k _ => ?_
  have hv : ∀ r, r < 4 → u8v (Sha.outAt x (4 * i + r)) = .int .u8 (iu8 (Sha.byte y r)) := fun r hr => by
    have e1 : (4 * i + r) / 4 = i := by omega
    have e2 : (4 * i + r) % 4 = r := by omega
    unfold Sha.outAt u8v
    rw [e1, e2, hy]
  by_cases h3 : k = 4 * i + 3
  · rw [if_pos h3, if_pos (by omega), h3, hv 3 (by omega)]
  rw [if_neg h3]
  by_cases h2 : k = 4 * i + 2
  · rw [if_pos h2, if_pos (by omega), h2, hv 2 (by omega)]
  rw [if_neg h2]
  by_cases h1 : k = 4 * i + 1
  · rw [if_pos h1, if_pos (by omega), h1, hv 1 (by omega)]
  rw [if_neg h1]
  by_cases h0 : k = 4 * i
  · have := hv 0 (by omega)
    rw [if_pos h0, if_pos (by omega), h0]; exact this.symm
  rw [if_neg h0]
  by_cases hk : k < 4 * i
  · rw [if_pos hk, if_pos (by omega)]
  · rw [if_neg hk, if_neg (by omega)]
theorem SInv.off {T : TypeId} {w0 wr : World} {H K D i : Nat} {s : Sha.St} (h : SInv T w0 wr H K s) (hD : K < D) (u : Value) : SInv T w0 (wr.setCell ⟨D, i, none⟩ u) H K s :=
  ⟨h.hh.off (by have := h.h2; omega) u, h.kk.off (by omega) u, h.rr.off (by have := h.h1; have := h.h2; omega) u, h.h1, h.h2, h.bel.set_ (by have := h.h1; have := h.h2; omega) u⟩
end Go.Proofs.Ytfpcldnefpmgcaa
