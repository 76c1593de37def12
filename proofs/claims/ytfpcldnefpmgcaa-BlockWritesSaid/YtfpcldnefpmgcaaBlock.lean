/- What the blocks hold in which both texts mix 64 bytes in: plain facts on worlds. No condition. -/
import Derived.Test.YtfpcldnefpmgcaaRot
namespace Go.Proofs.Ytfpcldnefpmgcaa
open Go.RowKit
def wcell (m : Nat → UInt32) (t i : Nat) : Value := .int .u32 (if i < t then iu32 (Sha.wd m i) else 0)
def zero64 : Array Value := arr 64 fun _ => .int .u32 0
def zero8 : Array Value := arr 8 fun _ => .int .u32 0
def karr : Array Value := arr 64 fun i => .int .u32 (iu32 (Sha.kt i))
def st8 (s : Sha.St) : Array Value := #[.int .u32 (iu32 s.a), .int .u32 (iu32 s.b), .int .u32 (iu32 s.c), .int .u32 (iu32 s.d), .int .u32 (iu32 s.e), .int .u32 (iu32 s.f), .int .u32 (iu32 s.g), .int .u32 (iu32 s.h)]
theorem st8_arr (s : Sha.St) : st8 s = arr 8 fun i => .int .u32 (iu32 (Sha.get s i)) := rfl
/-- The eight words, of which the first t have been added to. -/
def sum8 (s x : Sha.St) (t : Nat) : Array Value := arr 8 fun i => .int .u32 (iu32 (if i < t then Sha.get s i + Sha.get x i else Sha.get s i))
theorem sum8_zero (s x : Sha.St) : st8 s = sum8 s x 0 := by rw [st8_arr]; exact arr_congr fun i _ => by simp
theorem sum8_get (s x : Sha.St) (t : Nat) (h : t < 8) : (sum8 s x t)[t]? = some (.int .u32 (iu32 (Sha.get s t))) := by rw [sum8, arr_at _ h]; simp
theorem st8_get (x : Sha.St) (t : Nat) (h : t < 8) : (st8 x)[t]? = some (.int .u32 (iu32 (Sha.get x t))) := by rw [st8_arr, arr_at _ h]
theorem sum8_set (s x : Sha.St) (t : Nat) : (sum8 s x t).setIfInBounds t (.int .u32 (iu32 (Sha.get s t + Sha.get x t))) = sum8 s x (t + 1) := by
  unfold sum8
  rw [arr_set]
  refine arr_congr fun i _ => ?_
  by_cases e : i = t
  · subst e; simp
  · rw [if_neg e]
    by_cases e2 : i < t
    · rw [if_pos e2, if_pos (by omega)]
    · rw [if_neg e2, if_neg (by omega)]
theorem sum8_all (s x : Sha.St) : sum8 s x 8 = st8 (Sha.add s x) := by
  rw [st8_arr]
  refine arr_congr fun i hi => ?_
  rw [if_pos hi]
  match i, hi with
  | 0, _ => rfl
  | 1, _ => rfl
  | 2, _ => rfl
  | 3, _ => rfl
  | 4, _ => rfl
  | 5, _ => rfl
  | 6, _ => rfl
  | 7, _ => rfl
theorem st8_size (s : Sha.St) : (st8 s).size = 8 := rfl
theorem karr_size : karr.size = 64 := arr_size _ _
theorem zero8_size : zero8.size = 8 := arr_size _ _
theorem zero64_size : zero64.size = 64 := arr_size _ _
theorem st8_one (s : Sha.St) : (st8 s).all (·.oneCell') = true := by simp [st8, Value.oneCell']
theorem size8 : (Try.prog.info? 67).map (·.size) = some 8 := by kernel_rfl
theorem alloc64 (w : World) : (zeroValue 64).run Try.prog w = .ok (.agg zero64) w := by
  have h : (Try.prog.info? 64).map (fun i => (i.zero, i.size)) = some (some (.agg zero64), 64) := by kernel_rfl
  exact (zero_of_info h).1 w
/-- What the function's own blocks hold: the words, the constants, the result's place, the schedule. -/
structure BInv (T : TypeId) (w0 wr : World) (hs : Sha.St) (m : Nat → UInt32) (t : Nat) : Prop where
  ww : Blk wr (w0.heap.size + 1 + 1 + 1) 64 (arr 64 (wcell m t))
  hh : Blk wr w0.heap.size T (st8 hs)
  kk : Blk wr (w0.heap.size + 1) 64 karr
  zz : Blk wr (w0.heap.size + 1 + 1) T zero8
  bel : Below w0.heap.size w0 wr
theorem BInv.drewN {T : TypeId} {w0 wr : World} {hs : Sha.St} {m : Nat → UInt32} {t : Nat} (h : BInv T w0 wr hs m t) (k : Nat) : BInv T w0 (wr.drewN k) hs m t :=
  ⟨h.ww, h.hh, h.kk, h.zz, ⟨h.bel.os, h.bel.tape, h.bel.output, h.bel.size, h.bel.block⟩⟩
theorem BInv.store {T : TypeId} {w0 wr : World} {hs : Sha.St} {m : Nat → UInt32} {t : Nat} (h : BInv T w0 wr hs m t) (x : UInt32) (hx : Sha.wd m t = x) :
    BInv T w0 (wr.setCell ⟨w0.heap.size + 1 + 1 + 1, t, none⟩ (.int .u32 (iu32 x))).drew hs m (t + 1) := by
  refine ⟨?_, h.hh.off (by omega) _, h.kk.off (by omega) _, h.zz.off (by omega) _, (h.bel.set_ (by omega) _).drew⟩
  have hs := h.ww.set_ t (.int .u32 (iu32 x))
  rw [arr_set] at hs
  refine hs.sub (arr_congr fun i hi => ?_)
  unfold wcell
  by_cases e : i = t
  · subst e; rw [if_pos rfl, if_pos (by omega), hx]
  · rw [if_neg e]; by_cases e2 : i < t
    · rw [if_pos e2, if_pos (by omega)]
    · rw [if_neg e2, if_neg (by omega)]
theorem BInv.get {T : TypeId} {w0 wr : World} {hs : Sha.St} {m : Nat → UInt32} {t : Nat} (h : BInv T w0 wr hs m t) {i : Nat} (hi : i < t) (h64 : i < 64) :
    wr.cell? ⟨w0.heap.size + 1 + 1 + 1, i, none⟩ = some (.int .u32 (iu32 (Sha.wd m i))) := by
  rw [h.ww.cell i, arr_at _ h64, wcell, if_pos hi]
theorem BInv.get' {T : TypeId} {w0 wr : World} {hs : Sha.St} {m : Nat → UInt32} {t : Nat} (h : BInv T w0 wr hs m t) {i : Nat} (h64 : i < 64) :
    wr.cell? ⟨w0.heap.size + 1 + 1 + 1, i, none⟩ = some (wcell m t i) := by
  rw [h.ww.cell i, arr_at _ h64]
theorem BInv.new (T : TypeId) (w : World) (hs : Sha.St) (m : Nat → UInt32) : BInv T w ((((w.alloc (.cells (st8 hs) T)).alloc (.cells karr 64)).alloc (.cells #[.int .u32 0, .int .u32 0, .int .u32 0, .int .u32 0, .int .u32 0, .int .u32 0, .int .u32 0, .int .u32 0] T)).alloc (.cells zero64 64)) hs m 0 := by
  refine ⟨?_, ?_, ?_, ?_, ?_⟩
  · exact Blk.new' _ _ _ (by simp)
  · exact ((Blk.new' _ _ _ rfl).alloc _).alloc _ |>.alloc _
  · exact ((Blk.new' _ _ _ (by simp)).alloc _).alloc _
  · exact ((Blk.new' _ _ _ (by simp)).alloc _)
  · exact (((Below.refl _ _).alloc (by simp) _).alloc (by simp) _ |>.alloc (by simp; omega) _).alloc (by simp; omega) _
theorem BInv.alloc {T : TypeId} {w0 wr : World} {hs : Sha.St} {m : Nat → UInt32} {t : Nat} (h : BInv T w0 wr hs m t) (o : Obj) : BInv T w0 (wr.alloc o) hs m t :=
  ⟨h.ww.alloc o, h.hh.alloc o, h.kk.alloc o, h.zz.alloc o, h.bel.alloc (by have := h.hh.lt; omega) o⟩
theorem BInv.upd {T : TypeId} {w0 wr w' : World} {hs : Sha.St} {m : Nat → UInt32} {t g : Nat} (h : BInv T w0 wr hs m t) (u : Upd g wr w') (hg : w0.heap.size + 1 + 1 + 1 < g) : BInv T w0 w' hs m t :=
  ⟨h.ww.upd u (by omega), h.hh.upd u (by omega), h.kk.upd u (by omega), h.zz.upd u (by omega), h.bel.upd u (by omega)⟩
theorem zero8_new (T : TypeId) (w : World) : Blk (w.alloc (.cells #[.int .u32 0, .int .u32 0, .int .u32 0, .int .u32 0, .int .u32 0, .int .u32 0, .int .u32 0, .int .u32 0] T)) w.heap.size T zero8 := Blk.new _ _ _
/-- While word number t is being read: what it is so far. -/
structure PInv (T : TypeId) (w0 wr : World) (hs : Sha.St) (m : Nat → UInt32) (t : Nat) (p : UInt32) : Prop where
  ww : Blk wr (w0.heap.size + 1 + 1 + 1) 64 (arr 64 fun j => if j = t then .int .u32 (iu32 p) else wcell m t j)
  hh : Blk wr w0.heap.size T (st8 hs)
  kk : Blk wr (w0.heap.size + 1) 64 karr
  zz : Blk wr (w0.heap.size + 1 + 1) T zero8
  bel : Below w0.heap.size w0 wr
theorem BInv.part {T : TypeId} {w0 wr : World} {hs : Sha.St} {m : Nat → UInt32} {t : Nat} (h : BInv T w0 wr hs m t) : PInv T w0 wr hs m t 0 :=
  ⟨h.ww.sub (arr_congr fun j _ => by by_cases e : j = t <;> simp [e, wcell, iu32]), h.hh, h.kk, h.zz, h.bel⟩
theorem PInv.get {T : TypeId} {w0 wr : World} {hs : Sha.St} {m : Nat → UInt32} {t : Nat} {p : UInt32} (h : PInv T w0 wr hs m t p) (h64 : t < 64) :
    wr.cell? ⟨w0.heap.size + 1 + 1 + 1, t, none⟩ = some (.int .u32 (iu32 p)) := by
  rw [h.ww.cell t, arr_at _ h64, if_pos rfl]
theorem PInv.store {T : TypeId} {w0 wr : World} {hs : Sha.St} {m : Nat → UInt32} {t : Nat} {p : UInt32} (h : PInv T w0 wr hs m t p) (x : UInt32) :
    PInv T w0 (wr.setCell ⟨w0.heap.size + 1 + 1 + 1, t, none⟩ (.int .u32 (iu32 x))).drew hs m t x := by
  refine ⟨?_, h.hh.off (by omega) _, h.kk.off (by omega) _, h.zz.off (by omega) _, (h.bel.set_ (by omega) _).drew⟩
  have hs := h.ww.set_ t (.int .u32 (iu32 x))
  rw [arr_set] at hs
  refine hs.sub (arr_congr fun i hi => ?_)
  by_cases e : i = t
  · simp [e]
  · simp [e]
theorem PInv.whole {T : TypeId} {w0 wr : World} {hs : Sha.St} {m : Nat → UInt32} {t : Nat} {p : UInt32} (h : PInv T w0 wr hs m t p) (e : p = Sha.wd m t) : BInv T w0 wr hs m (t + 1) := by
  subst e
  refine ⟨h.ww.sub (arr_congr fun j _ => ?_), h.hh, h.kk, h.zz, h.bel⟩
  by_cases e : j = t
  · simp [e, wcell]
  · simp only [if_neg e, wcell]
    by_cases e2 : j < t
    · rw [if_pos e2, if_pos (by omega)]
    · rw [if_neg e2, if_neg (by omega)]
theorem quiet_left {P : Program} {f : FuncId} {args : Array Value} {w : World} {n : Nat} {v : Value}
    (h : Calls P f args (w.drewN n) fun e w' => e = .returned v ∧ w.drewN n = w') : Calls P f args (w.drewN n) fun e w'' => e = .returned v ∧ ∃ m, w'' = w.drewN m :=
  h.mono fun _ _ ⟨he, hm⟩ => ⟨he, n, hm.symm⟩

end Go.Proofs.Ytfpcldnefpmgcaa
