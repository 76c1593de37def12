/- The functions that turn a word right, and the tables of constants, answer what the plain functions say. Condition: the count is from 1 to 31. -/
import Derived.Test.YtfoegmjpfkmggaaGreatDoorMGridKeeps3
import Derived.Test.YtfoegmjpfkmggaaGreatDoorRows
import Derived.Stop.BytesEq
import Derived.Deep.MidRow
namespace Go.Proofs.YtfoegmjpfkmggaaGreatDoor
open Go.RowKit
theorem u64_and31 (n : Nat) (h1 : 1 ≤ n) (h2 : n ≤ 31) : bits .and .u64 (IntKind.u64.wrap (-(n : Int))) 31 = ((32 - n : Nat) : Int) := by
  have e : IntKind.u64.wrap (-(n : Int)) = ((18446744073709551616 - n : Nat) : Int) := by
    have : IntKind.u64.wrap (-(n : Int)) = (-(n : Int)) % 18446744073709551616 := by simp [IntKind.wrap, IntKind.bits, IntKind.signed]
    rw [this]; omega
  rw [e]
  have := u64_and_nat (18446744073709551616 - n) 31 (by omega) (by omega)
  have e2 : (18446744073709551616 - n) &&& 31 = 32 - n := by
    have := Nat.and_two_pow_sub_one_eq_mod (18446744073709551616 - n) 5
    simp only [Nat.reducePow, Nat.reduceSub] at this
    rw [this]; omega
  rw [e2] at this
  exact this
set_option maxHeartbeats 400000 in
theorem rot_any (x: UInt32) (n : Int) (h1 : 1 ≤ n) (h2 : n ≤ 31) (w : World) :
    Calls Tryz.prog 187 #[.int .u32 (iu32 x), .int .i64 (-n)] w fun e w' => e = .returned (.int .u32 (iu32 (Sha.rotr x n.toNat))) ∧ w = w' := by
  obtain ⟨n, rfl⟩ := Int.eq_ofNat_of_zero_le (show 0 ≤ n by omega)
  have e1 := u32_shr_w x n (by omega)
  have e2 := u32_shl_w x (32 - n) (by omega)
  have e3 : (32 - (n : Int)).toNat = 32 - n := by omega
  have e5 : 32 - (32 - n) = n := by omega
  have e6 : (32 : Int) - ((32 - n : Nat) : Int) = (n : Int) := by omega
  have e4 := u64_and31 n (by omega) (by omega)
  go_enter Tryz.func187, Tryz.ntmps187
  go_wp2
  go_ret
  exact ⟨ret_int (by rw [UInt32.or_comm]; rfl), rfl⟩
set_option maxHeartbeats 400000 in
theorem turned_any (x: UInt32) (n : Int) (h1 : 1 ≤ n) (h2 : n ≤ 31) (w : World) :
    Calls Tryz.prog 180 #[.int .u32 (iu32 x), .int .i64 n] w fun e w' => e = .returned (.int .u32 (iu32 (Sha.rotr x n.toNat))) ∧ w = w' := by
  go_enter Tryz.func180, Tryz.ntmps180
  go_wp2_with fail
  refine (rot_any x n h1 h2 _).mono ?_
  rintro e w' ⟨rfl, rfl⟩
  go_wp2
  go_ret
  exact ⟨rfl, rfl⟩
end Go.Proofs.YtfoegmjpfkmggaaGreatDoor

/- What the blocks hold in which both texts mix 64 bytes in: plain facts on worlds. No condition. -/
namespace Go.Proofs.YtfoegmjpfkmggaaGreatDoor
open Go.RowKit
def wcell (m : Nat → UInt32) (t i : Nat) : Value := .int .u32 (if i < t then iu32 (Sha.wd m i) else 0)
def zero64 : Array Value := arr 64 fun _ => .int .u32 0
def zero8 : Array Value := arr 8 fun _ => .int .u32 0
def karr : Array Value := arr 64 fun i => .int .u32 (iu32 (Sha.kt i))
def st8 (s : Sha.St) : Array Value := #[.int .u32 (iu32 s.a), .int .u32 (iu32 s.b), .int .u32 (iu32 s.c), .int .u32 (iu32 s.d), .int .u32 (iu32 s.e), .int .u32 (iu32 s.f), .int .u32 (iu32 s.g), .int .u32 (iu32 s.h)]
theorem st8_arr (s : Sha.St) : st8 s = arr 8 fun i => .int .u32 (iu32 (Sha.get s i)) := rfl
/-- The eight words, of which the first t have been added to. -/
def sum8 (s x : Sha.St) (t : Nat) : Array Value := arr 8 fun i => .int .u32 (iu32 (if i < t then Sha.get s i + Sha.get x i else Sha.get s i))
theorem sum8_zero (s x : Sha.St) : st8 s = sum8 s x 0 := by rw [st8_arr]; exact arr_congr fun i _ => by simp
theorem sum8_get (s x : Sha.St) (t : Nat) (h : t < 8) : (sum8 s x t)[t]? = some (.int .u32 (iu32 (Sha.get s t))) := by rw [sum8, arr_at _ h]; simp
theorem st8_get (x : Sha.St) (t : Nat) (h : t < 8) : (st8 x)[t]? = some (.int .u32 (iu32 (Sha.get x t))) := by rw [st8_arr, arr_at _ h]
theorem sum8_set (s x : Sha.St) (t : Nat) : (sum8 s x t).setIfInBounds t (.int .u32 (iu32 (Sha.get s t + Sha.get x t))) = sum8 s x (t + 1) := by
  unfold sum8
  rw [arr_set]
  refine arr_congr fun i _ => ?_
  by_cases e : i = t
  · subst e; simp
  · rw [if_neg e]
    by_cases e2 : i < t
    · rw [if_pos e2, if_pos (by omega)]
    · rw [if_neg e2, if_neg (by omega)]
theorem sum8_all (s x : Sha.St) : sum8 s x 8 = st8 (Sha.add s x) := by
  rw [st8_arr]
  refine arr_congr fun i hi => ?_
  rw [if_pos hi]
  match i, hi with
  | 0, _ => rfl
  | 1, _ => rfl
  | 2, _ => rfl
  | 3, _ => rfl
  | 4, _ => rfl
  | 5, _ => rfl
  | 6, _ => rfl
  | 7, _ => rfl
theorem st8_size (s : Sha.St) : (st8 s).size = 8 := rfl
theorem karr_size : karr.size = 64 := arr_size _ _
theorem zero8_size : zero8.size = 8 := arr_size _ _
theorem zero64_size : zero64.size = 64 := arr_size _ _
theorem st8_one (s : Sha.St) : (st8 s).all (·.oneCell') = true := by simp [st8, Value.oneCell']
theorem size8 : (Tryz.prog.info? 232).map (·.size) = some 8 := by kernel_rfl
theorem alloc64 (w : World) : (zeroValue 233).run Tryz.prog w = .ok (.agg zero64) w := by
  have h : (Tryz.prog.info? 233).map (fun i => (i.zero, i.size)) = some (some (.agg zero64), 64) := by kernel_rfl
  exact (zero_of_info h).1 w
/-- What the function's own blocks hold: the words, the constants, the result's place, the schedule. -/
structure BInv (T : TypeId) (w0 wr : World) (hs : Sha.St) (m : Nat → UInt32) (t : Nat) : Prop where
  ww : Blk wr (w0.heap.size + 1 + 1 + 1) 233 (arr 64 (wcell m t))
  hh : Blk wr w0.heap.size T (st8 hs)
  kk : Blk wr (w0.heap.size + 1) 233 karr
  zz : Blk wr (w0.heap.size + 1 + 1) T zero8
  bel : Below w0.heap.size w0 wr
theorem BInv.drewN {T : TypeId} {w0 wr : World} {hs : Sha.St} {m : Nat → UInt32} {t : Nat} (h : BInv T w0 wr hs m t) (k : Nat) : BInv T w0 (wr.drewN k) hs m t :=
  ⟨h.ww, h.hh, h.kk, h.zz, ⟨h.bel.os, h.bel.tape, h.bel.output, h.bel.size, h.bel.block⟩⟩
theorem BInv.store {T : TypeId} {w0 wr : World} {hs : Sha.St} {m : Nat → UInt32} {t : Nat} (h : BInv T w0 wr hs m t) (x : UInt32) (hx : Sha.wd m t = x) :
    BInv T w0 (wr.setCell ⟨w0.heap.size + 1 + 1 + 1, t, none⟩ (.int .u32 (iu32 x))).drew hs m (t + 1) := by
  refine ⟨?_, h.hh.off (by omega) _, h.kk.off (by omega) _, h.zz.off (by omega) _, (h.bel.set_ (by omega) _).drew⟩
  have hs := h.ww.set_ t (.int .u32 (iu32 x))
  rw [arr_set] at hs
  refine hs.sub (arr_congr fun i hi => ?_)
  unfold wcell
  by_cases e : i = t
  · subst e; rw [if_pos rfl, if_pos (by omega), hx]
  · rw [if_neg e]; by_cases e2 : i < t
    · rw [if_pos e2, if_pos (by omega)]
    · rw [if_neg e2, if_neg (by omega)]
theorem BInv.get {T : TypeId} {w0 wr : World} {hs : Sha.St} {m : Nat → UInt32} {t : Nat} (h : BInv T w0 wr hs m t) {i : Nat} (hi : i < t) (h64 : i < 64) :
    wr.cell? ⟨w0.heap.size + 1 + 1 + 1, i, none⟩ = some (.int .u32 (iu32 (Sha.wd m i))) := by
  rw [h.ww.cell i, arr_at _ h64, wcell, if_pos hi]
theorem BInv.get' {T : TypeId} {w0 wr : World} {hs : Sha.St} {m : Nat → UInt32} {t : Nat} (h : BInv T w0 wr hs m t) {i : Nat} (h64 : i < 64) :
    wr.cell? ⟨w0.heap.size + 1 + 1 + 1, i, none⟩ = some (wcell m t i) := by
  rw [h.ww.cell i, arr_at _ h64]
theorem BInv.new (T : TypeId) (w : World) (hs : Sha.St) (m : Nat → UInt32) : BInv T w ((((w.alloc (.cells (st8 hs) T)).alloc (.cells karr 233)).alloc (.cells #[.int .u32 0, .int .u32 0, .int .u32 0, .int .u32 0, .int .u32 0, .int .u32 0, .int .u32 0, .int .u32 0] T)).alloc (.cells zero64 233)) hs m 0 := by
  refine ⟨?_, ?_, ?_, ?_, ?_⟩
  · exact Blk.new' _ _ _ (by simp)
  · exact ((Blk.new' _ _ _ rfl).alloc _).alloc _ |>.alloc _
  · exact ((Blk.new' _ _ _ (by simp)).alloc _).alloc _
  · exact ((Blk.new' _ _ _ (by simp)).alloc _)
  · exact (((Below.refl _ _).alloc (by simp) _).alloc (by simp) _ |>.alloc (by simp; omega) _).alloc (by simp; omega) _
theorem BInv.alloc {T : TypeId} {w0 wr : World} {hs : Sha.St} {m : Nat → UInt32} {t : Nat} (h : BInv T w0 wr hs m t) (o : Obj) : BInv T w0 (wr.alloc o) hs m t :=
  ⟨h.ww.alloc o, h.hh.alloc o, h.kk.alloc o, h.zz.alloc o, h.bel.alloc (by have := h.hh.lt; omega) o⟩
theorem BInv.upd {T : TypeId} {w0 wr w' : World} {hs : Sha.St} {m : Nat → UInt32} {t g : Nat} (h : BInv T w0 wr hs m t) (u : Upd g wr w') (hg : w0.heap.size + 1 + 1 + 1 < g) : BInv T w0 w' hs m t :=
  ⟨h.ww.upd u (by omega), h.hh.upd u (by omega), h.kk.upd u (by omega), h.zz.upd u (by omega), h.bel.upd u (by omega)⟩
theorem zero8_new (T : TypeId) (w : World) : Blk (w.alloc (.cells #[.int .u32 0, .int .u32 0, .int .u32 0, .int .u32 0, .int .u32 0, .int .u32 0, .int .u32 0, .int .u32 0] T)) w.heap.size T zero8 := Blk.new _ _ _
theorem quiet_left {P : Program} {f : FuncId} {args : Array Value} {w : World} {n : Nat} {v : Value}
    (h : Calls P f args (w.drewN n) fun e w' => e = .returned v ∧ w.drewN n = w') : Calls P f args (w.drewN n) fun e w'' => e = .returned v ∧ ∃ m, w'' = w.drewN m :=
  h.mono fun _ _ ⟨he, hm⟩ => ⟨he, n, hm.symm⟩

end Go.Proofs.YtfoegmjpfkmggaaGreatDoor

/- The program's mixing in of a block answers what the plain function says. Condition: there are 64 bytes. -/
namespace Go.Proofs.YtfoegmjpfkmggaaGreatDoor
open Go.RowKit
set_option maxHeartbeats 1000000 in
set_option maxRecDepth 100000 in
theorem block_any (hs : Sha.St) (b off n c : Nat) (bs : List UInt8) (hn : n = bs.length) (h64 : 64 ≤ n)
   (w : World) (hbl : b < w.heap.size) (hb : ∀ j, j < n → w.cell? ⟨b, off + j, none⟩ = some (.int .u8 (iu8 (bs.getD j 0)))) :
    Calls Tryz.prog 158 #[.agg (st8 hs), .slice (some ⟨b, off, none⟩) n c, .agg karr] w fun e w' => e = .returned (.agg (st8 (Sha.blk hs bs 0))) ∧ Below w.heap.size w w' := by
  have a64 := alloc64
  have HN := Lib.hid hn; clear hn
  have HB := Lib.hid hb; clear hb
  go_enter Tryz.func158, Tryz.ntmps158
  go_wp2
  go_loopw [19] (fun i wr => ∃ t : Nat, t ≤ 16 ∧ i = .int .i64 t ∧ BInv 232 w wr hs (Sha.word bs 0) t) (fun i _ => 16 - (intOf i).toNat)
  case atStart => exact ⟨0, by omega, rfl, BInv.new _ w hs _⟩
  case round =>
    obtain ⟨t, ht, rfl, hI⟩ := hrel
    by_cases hlt : t < 16
    · obtain ⟨x0, h0⟩ : ∃ x, x = bs.getD (4 * t) 0 := ⟨_, rfl⟩
      obtain ⟨x1, h1⟩ : ∃ x, x = bs.getD (4 * t + 1) 0 := ⟨_, rfl⟩
      obtain ⟨x2, h2⟩ : ∃ x, x = bs.getD (4 * t + 2) 0 := ⟨_, rfl⟩
      obtain ⟨x3, h3⟩ : ∃ x, x = bs.getD (4 * t + 3) 0 := ⟨_, rfl⟩
      have c0 := (hI.bel.cell (p := ⟨b, off + 4 * t, none⟩) hbl).trans (HB.out (4 * t) (by omega))
      have c1 := (hI.bel.cell (p := ⟨b, off + (4 * t + 1), none⟩) hbl).trans (HB.out (4 * t + 1) (by omega))
      have c2 := (hI.bel.cell (p := ⟨b, off + (4 * t + 2), none⟩) hbl).trans (HB.out (4 * t + 2) (by omega))
      have c3 := (hI.bel.cell (p := ⟨b, off + (4 * t + 3), none⟩) hbl).trans (HB.out (4 * t + 3) (by omega))
      rw [← h0] at c0; rw [← h1] at c1; rw [← h2] at c2; rw [← h3] at c3
      have HW := Lib.hid (show Sha.wd (Sha.word bs 0) t = Sha.be x0 x1 x2 x3 by rw [Sha.wd_lo _ hlt, h0, h1, h2, h3]; simp [Sha.word])
      clear h0 h1 h2 h3
      have c4 := hI.get' (i := t) (by omega)
      have c5 := hI.ww.frozen t
      go_wp2
      refine wp_region_tail 35 (by kernel_rfl) (by kernel_rfl) ?_
      simp only [List.take_succ_cons, List.take_zero, List.drop_succ_cons, List.drop_zero]
      repeat (go_big_quiet_step (fail))
      refine wpQuiet_nil ?_
      go_wp2
      go_roundw
      case rel => exact ⟨t + 1, by omega, by go_num, hI.store _ HW.out⟩
      case measure => simp [intOf]; omega
    · obtain rfl : t = 16 := by omega
      clear ht hlt
      go_wp2
      go_loopw [9] (fun i wr => ∃ t : Nat, 16 ≤ t ∧ t ≤ 64 ∧ i = .int .i64 t ∧ BInv 232 w wr hs (Sha.word bs 0) t) (fun i _ => 64 - (intOf i).toNat)
      case atStart => exact ⟨16, by omega, by omega, rfl, hI⟩
      case round =>
        clear hI
        obtain ⟨t, ht1, ht2, rfl, hI⟩ := hrel
        by_cases hlt : t < 64
        · go_wp2
          obtain ⟨y2, h2⟩ : ∃ y, y = Sha.wd (Sha.word bs 0) (t - 2) := ⟨_, rfl⟩
          obtain ⟨y7, h7⟩ : ∃ y, y = Sha.wd (Sha.word bs 0) (t - 7) := ⟨_, rfl⟩
          obtain ⟨y15, h15⟩ : ∃ y, y = Sha.wd (Sha.word bs 0) (t - 15) := ⟨_, rfl⟩
          obtain ⟨y16, h16⟩ : ∃ y, y = Sha.wd (Sha.word bs 0) (t - 16) := ⟨_, rfl⟩
          have HW := Lib.hid (show Sha.wd (Sha.word bs 0) t = Sha.s1 y2 + y7 + Sha.s0 y15 + y16 by rw [h2, h7, h15, h16]; exact Sha.wd_hi _ ht1)
          have c15 := hI.get (i := t - 15) (by omega) (by omega)
          rw [← h15] at c15
          have H2 := Lib.hid h2; have H7 := Lib.hid h7; have H15 := Lib.hid h15; have H16 := Lib.hid h16
          clear h2 h7 h15 h16
          go_quiet ((go_at_call 180; exact quiet_left (turned_any _ _ (by omega) (by omega) _)))
          go_wp2
          have hI1 := hI.drewN nq
          clear hI c15
          generalize wr.drewN nq = w1 at hI1 ⊢
          have c2 := hI1.get (i := t - 2) (by omega) (by omega)
          rw [← H2.out] at c2
          go_quiet ((go_at_call 180; exact quiet_left (turned_any _ _ (by omega) (by omega) _)))
          go_wp2
          have hI2 := hI1.drewN nq
          clear hI1 c2
          generalize w1.drewN nq = w2 at hI2 ⊢
          have c7 := hI2.get (i := t - 7) (by omega) (by omega)
          have c16 := hI2.get (i := t - 16) (by omega) (by omega)
          rw [← H7.out] at c7
          rw [← H16.out] at c16
          have c0 := hI2.get' hlt
          have cf := hI2.ww.frozen t
          refine wp_region_tail 15 (by kernel_rfl) (by kernel_rfl) ?_
          simp only [List.take_succ_cons, List.take_zero, List.drop_succ_cons, List.drop_zero]
          repeat (go_big_quiet_step (fail))
          refine wpQuiet_nil ?_
          go_wp2
          go_roundw
          case rel => exact ⟨t + 1, by omega, by omega, by go_num, hI2.store _ (HW.out)⟩
          case measure => simp [intOf]; omega
        · obtain rfl : t = 64 := by omega
          clear ht1 ht2 hlt
          have hX := hI.ww.lt
          have hz8 := zero8_new 232 wr
          go_wp2_with (first
            | (refine wpList_load_blk (o := ⟨some 111, _, _, _, _, _⟩) hI.hh (by rfl) _ _ (by rfl) (by rfl) _ Tryz.underlying232 (by rfl) size8 (st8_size _) ?_)
            | (show wpList _ _ _ ((⟨none, _, _, _, _, _⟩ : Oper) :: _) _ _; (refine wpList_store_blk (o := ⟨none, _, _, _, _, _⟩) hz8 (by rfl) _ _ _ (by rfl) (by rfl) (st8 hs) (by rfl) size8 zero8_size (st8_size _) (st8_one _) ?_; intro w3 hx3 hu3; have hI3 := (hI.alloc _).upd hu3 (by omega); clear hI hu3 hz8)))
          generalize wr.heap.size = X at hX hx3 ⊢
          go_loopw [112] (fun i wr => ∃ t : Nat, t ≤ 64 ∧ i = .int .i64 t ∧ BInv 232 w wr hs (Sha.word bs 0) 64 ∧ Blk wr X 232 (st8 (Sha.rounds (Sha.word bs 0) hs t))) (fun i _ => 64 - (intOf i).toNat)
          case atStart => exact ⟨0, by omega, rfl, hI3, hx3⟩
          case round =>
            clear hI3 hx3
            obtain ⟨t, ht, rfl, hI, hx⟩ := hrel
            by_cases hlt : t < 64
            · obtain ⟨s, hs'⟩ : ∃ s, s = Sha.rounds (Sha.word bs 0) hs t := ⟨_, rfl⟩
              rw [← hs'] at hx
              obtain ⟨k, hk'⟩ : ∃ k, k = Sha.kt t := ⟨_, rfl⟩
              obtain ⟨y, hy'⟩ : ∃ k, k = Sha.wd (Sha.word bs 0) t := ⟨_, rfl⟩
              have HS := Lib.hid (show Sha.rounds (Sha.word bs 0) hs (t + 1) = Sha.round k y s by rw [hs', hk', hy']; rfl)
              have HK := Lib.hid hk'
              have HY := Lib.hid hy'
              clear hs' hk' hy'
              have r0 : wr.cell? ⟨X, 0, none⟩ = some (.int .u32 (iu32 s.a)) := hx.cell 0
              have r4 : wr.cell? ⟨X, 4, none⟩ = some (.int .u32 (iu32 s.e)) := hx.cell 4
              go_wp2
              go_quiet (fail)
              go_wp2
              replace hI := hI.drewN nq
              replace hx := hx.drewN nq
              clear r0 r4
              generalize wr.drewN nq = w1 at hI hx ⊢
              have r7 : w1.cell? ⟨X, 7, none⟩ = some (.int .u32 (iu32 s.h)) := hx.cell 7
              have r5 : w1.cell? ⟨X, 5, none⟩ = some (.int .u32 (iu32 s.f)) := hx.cell 5
              have r6 : w1.cell? ⟨X, 6, none⟩ = some (.int .u32 (iu32 s.g)) := hx.cell 6
              have rw := hI.get (i := t) hlt hlt
              have rk : w1.cell? ⟨w.heap.size + 1, t, none⟩ = some (.int .u32 (iu32 (Sha.kt t))) := by rw [hI.kk.cell t]; exact arr_at _ hlt
              rw [← HY.out] at rw
              rw [← HK.out] at rk
              go_quiet ((go_at_call 180; exact quiet_left (turned_any _ _ (by omega) (by omega) _)))
              go_wp2
              replace hI := hI.drewN nq
              replace hx := hx.drewN nq
              clear r7 r5 r6 rw rk
              generalize w1.drewN nq = w2 at hI hx ⊢
              have r1 : w2.cell? ⟨X, 1, none⟩ = some (.int .u32 (iu32 s.b)) := hx.cell 1
              have r2 : w2.cell? ⟨X, 2, none⟩ = some (.int .u32 (iu32 s.c)) := hx.cell 2
              go_quiet ((go_at_call 180; exact quiet_left (turned_any _ _ (by omega) (by omega) _)))
              replace hI := hI.drewN nq
              replace hx := hx.drewN nq
              clear r1 r2
              generalize w2.drewN nq = w3 at hI hx ⊢
              have r1 : w3.cell? ⟨X, 1, none⟩ = some (.int .u32 (iu32 s.b)) := hx.cell 1
              have r2 : w3.cell? ⟨X, 2, none⟩ = some (.int .u32 (iu32 s.c)) := hx.cell 2
              have r3 : w3.cell? ⟨X, 3, none⟩ = some (.int .u32 (iu32 s.d)) := hx.cell 3
              have r5 : w3.cell? ⟨X, 5, none⟩ = some (.int .u32 (iu32 s.f)) := hx.cell 5
              have r6 : w3.cell? ⟨X, 6, none⟩ = some (.int .u32 (iu32 s.g)) := hx.cell 6
              go_wp2_with (show wpList _ _ _ ((⟨none, _, _, _, _, _⟩ : Oper) :: _) _ _; ((refine wpList_store_blk (o := ⟨none, _, _, _, _, _⟩) hx (by rfl) _ _ _ (by rfl) (by rfl) (st8 (Sha.round k y s)) (by first | rfl | refine Eq.trans (b := Value.agg #[.int .u32 ((iu32 _ + iu32 _) % 4294967296), _, _, _, .int .u32 ((iu32 _ + iu32 _) % 4294967296), _, _, _]) rfl ?_; simp only [u32_add_w]; rfl) size8 (st8_size _) (st8_size _) (st8_one _) ?_; intro w4 hx4 hu4; have hI4 := hI.upd hu4 (by omega); clear hI hx hu4 r1 r2 r3 r5 r6)))
              go_roundw
              case rel => exact ⟨t + 1, by omega, by go_num, hI4, by rw [HS.out]; exact hx4⟩
              case measure => simp [intOf]; omega
            · obtain rfl : t = 64 := by omega
              obtain ⟨xs, hxs⟩ : ∃ s, s = Sha.rounds (Sha.word bs 0) hs 64 := ⟨_, rfl⟩
              rw [← hxs] at hx
              have HX := Lib.hid (show Sha.blk hs bs 0 = Sha.add hs xs by rw [hxs]; rfl)
              clear hxs ht hlt
              have hh0 := hI.hh.sub (sum8_zero hs xs)
              go_wp2
              go_loopw [192] (fun i wr => ∃ t : Nat, t ≤ 8 ∧ i = .int .i64 t ∧ Blk wr w.heap.size 232 (sum8 hs xs t) ∧ Blk wr (w.heap.size + 1 + 1) 232 zero8 ∧ Blk wr X 232 (st8 xs) ∧ Below w.heap.size w wr) (fun i _ => 8 - (intOf i).toNat)
              case atStart => exact ⟨0, by omega, rfl, hh0, hI.zz, hx, hI.bel⟩
              case round =>
                clear hI hx hh0
                obtain ⟨t, ht, rfl, hh, hz, hx, hbel⟩ := hrel
                by_cases hlt : t < 8
                · have c0 := (hh.cell t).trans (sum8_get hs xs t hlt)
                  have c1 := (hx.cell t).trans (st8_get xs t hlt)
                  have cf := hh.frozen t
                  go_wp2
                  refine wp_region_tail 8 (by kernel_rfl) (by kernel_rfl) ?_
                  simp only [List.take_succ_cons, List.take_zero, List.drop_succ_cons, List.drop_zero]
                  repeat (go_big_quiet_step (fail))
                  refine wpQuiet_nil ?_
                  go_wp2
                  go_roundw
                  case rel =>
                    refine ⟨t + 1, by omega, by go_num, ?_, hz.off (by omega) _, hx.off (by omega) _, (hbel.set_ (by omega) _).drew⟩
                    have := hh.set_ t (.int .u32 (iu32 (Sha.get hs t + Sha.get xs t)))
                    rw [sum8_set] at this
                    first | exact this | (rw [← u32_add_w] at this; exact this)
                  case measure => simp [intOf]; omega
                · obtain rfl : t = 8 := by omega
                  rw [sum8_all] at hh
                  go_wp2_with (first
                    | (show wpList _ _ _ ((⟨some 204, _, _, _, _, _⟩ : Oper) :: _) _ _; (refine wpList_load_blk (o := ⟨some 204, _, _, _, _, _⟩) hh (by rfl) _ _ (by rfl) (by rfl) _ Tryz.underlying232 (by rfl) size8 (st8_size _) ?_))
                    | (show wpList _ _ _ ((⟨none, _, _, _, _, _⟩ : Oper) :: _) _ _; (refine wpList_store_blk (o := ⟨none, _, _, _, _, _⟩) hz (by rfl) _ _ _ (by rfl) (by rfl) (st8 (Sha.add hs xs)) (by rfl) size8 zero8_size (st8_size _) (st8_one _) ?_; intro w5 hz5 hu5; have hbel5 := hbel.upd hu5 (by omega); clear hbel hh hz hx hu5)))
                  refine bodyPost_ret (results_cell_row (by rfl) _ _ _ _ _ _ _ (by rfl) hz5 Tryz.underlying232 (by rfl) size8) rfl ⟨?_, hbel5⟩
                  rw [HX.out]
end Go.Proofs.YtfoegmjpfkmggaaGreatDoor

/- What the blocks hold in which both texts make a seal: plain facts on worlds. No condition. -/
namespace Go.Proofs.YtfoegmjpfkmggaaGreatDoor
open Go.RowKit
theorem size64 : (Tryz.prog.info? 233).map (·.size) = some 64 := by kernel_rfl
theorem karr_one : karr.all (·.oneCell') = true := by kernel_rfl

def lenOf : Value → Nat
  | .slice _ n _ => n
  | _ => 0
def zero16 : Array Value := arr 16 fun _ => .int .u8 0
theorem size16 : (Tryz.prog.info? 150).map (·.size) = some 16 := by kernel_rfl
theorem alloc16 (w : World) : (zeroValue 150).run Tryz.prog w = .ok (.agg zero16) w := by
  have h : (Tryz.prog.info? 150).map (fun i => (i.zero, i.size)) = some (some (.agg zero16), 16) := by kernel_rfl
  exact (zero_of_info h).1 w
/-- What the call's own blocks hold: the words, the constants. -/
structure SInv (T : TypeId) (w0 wr : World) (H K : Nat) (s : Sha.St) : Prop where
  hh : Blk wr H T (st8 s)
  kk : Blk wr K 233 karr
  rr : Blk wr w0.heap.size 150 zero16
  h1 : w0.heap.size < H
  h2 : H < K
  bel : Below w0.heap.size w0 wr
theorem SInv.below {T : TypeId} {w0 wr w' : World} {H K : Nat} {s : Sha.St} (h : SInv T w0 wr H K s) (hb : Below wr.heap.size wr w') : SInv T w0 w' H K s :=
  ⟨h.hh.below hb h.hh.lt, h.kk.below hb h.kk.lt, h.rr.below hb h.rr.lt, h.h1, h.h2, h.bel.trans (hb.mono h.bel.size)⟩
theorem SInv.stored {T : TypeId} {w0 wr w' : World} {H K : Nat} {s s' : Sha.St} (h : SInv T w0 wr H K s) (hb : Blk w' H T (st8 s')) (u : Upd H wr w') : SInv T w0 w' H K s' :=
  ⟨hb, h.kk.upd u (by have := h.h2; omega), h.rr.upd u (by have := h.h1; omega), h.h1, h.h2, h.bel.upd u (by have := h.h1; omega)⟩

theorem SInv.grown {T : TypeId} {w0 wr w' : World} {H K : Nat} {s : Sha.St} {row : Option Nat} (h : SInv T w0 wr H K s) (hg : wr.grownBy w' row) (hr : ∀ k, row = some k → K < k) : SInv T w0 w' H K s := by
  have hne : ∀ k, k ≤ K → some k ≠ row := fun k hk e => by have := hr k e.symm; omega
  have h1 := h.h1
  have h2 := h.h2
  exact ⟨(hg.block _ h.hh.lt (hne _ (by omega))).trans h.hh, (hg.block _ h.kk.lt (hne _ (by omega))).trans h.kk, (hg.block _ h.rr.lt (hne _ (by omega))).trans h.rr, h.h1, h.h2,
    h.bel.grown hg h.bel.size (fun k hk => by have := hr k hk; omega)⟩
theorem SInv.alloc {T : TypeId} {w0 wr : World} {H K : Nat} {s : Sha.St} (h : SInv T w0 wr H K s) (o : Obj) : SInv T w0 (wr.alloc o) H K s := h.below ((Below.refl _ _).alloc (Nat.le_refl _) o)
/-- The 16 bytes, of which the first 4 i have been laid. -/
def darr (x : Sha.St) (i : Nat) : Array Value := arr 16 fun k => if k < 4 * i then u8v (Sha.outAt x k) else .int .u8 0
theorem darr_zero (x : Sha.St) : zero16 = darr x 0 := arr_congr fun i _ => by simp
theorem darr_all (x : Sha.St) : darr x 4 = ((Sha.out x).map u8v).toArray := by
  unfold Sha.out
  rw [List.map_map, arr_list]
  exact arr_congr fun i h => by simp [h]
theorem byte_eq (y : UInt32) (i : Nat) : iu32 y / 2 ^ (24 - 8 * i) % 256 = iu8 (Sha.byte y i) := by
  rw [Sha.byte, iu8_ofNat_mod]; unfold iu32; simp
theorem darr_set (x : Sha.St) (i : Nat) (y : UInt32) (hy : y = Sha.get x i) :
    ((((darr x i).setIfInBounds (4 * i) (.int .u8 (iu8 (Sha.byte y 0)))).setIfInBounds (4 * i + 1) (.int .u8 (iu8 (Sha.byte y 1)))).setIfInBounds (4 * i + 2) (.int .u8 (iu8 (Sha.byte y 2)))).setIfInBounds (4 * i + 3) (.int .u8 (iu8 (Sha.byte y 3))) = darr x (i + 1) := by
  unfold darr
  rw [arr_set, arr_set, arr_set, arr_set]
  refine arr_congr fun k _ => ?_
  have hv : ∀ r, r < 4 → u8v (Sha.outAt x (4 * i + r)) = .int .u8 (iu8 (Sha.byte y r)) := fun r hr => by
    have e1 : (4 * i + r) / 4 = i := by omega
    have e2 : (4 * i + r) % 4 = r := by omega
    unfold Sha.outAt u8v
    rw [e1, e2, hy]
  by_cases h3 : k = 4 * i + 3
  · rw [if_pos h3, if_pos (by omega), h3, hv 3 (by omega)]
  rw [if_neg h3]
  by_cases h2 : k = 4 * i + 2
  · rw [if_pos h2, if_pos (by omega), h2, hv 2 (by omega)]
  rw [if_neg h2]
  by_cases h1 : k = 4 * i + 1
  · rw [if_pos h1, if_pos (by omega), h1, hv 1 (by omega)]
  rw [if_neg h1]
  by_cases h0 : k = 4 * i
  · have := hv 0 (by omega)
    rw [if_pos h0, if_pos (by omega), h0]; exact this.symm
  rw [if_neg h0]
  by_cases hk : k < 4 * i
  · rw [if_pos hk, if_pos (by omega)]
  · rw [if_neg hk, if_neg (by omega)]
theorem SInv.off {T : TypeId} {w0 wr : World} {H K D i : Nat} {s : Sha.St} (h : SInv T w0 wr H K s) (hD : K < D) (u : Value) : SInv T w0 (wr.setCell ⟨D, i, none⟩ u) H K s :=
  ⟨h.hh.off (by have := h.h2; omega) u, h.kk.off (by omega) u, h.rr.off (by have := h.h1; have := h.h2; omega) u, h.h1, h.h2, h.bel.set_ (by have := h.h1; have := h.h2; omega) u⟩
end Go.Proofs.YtfoegmjpfkmggaaGreatDoor

/- The program's seal of bytes answers what the plain function says. Condition: the bytes can be read and their room is at most 2^47 - 4096. -/
namespace Go.Proofs.YtfoegmjpfkmggaaGreatDoor
open Go.RowKit
set_option maxHeartbeats 400000 in
set_option maxRecDepth 100000 in
theorem constants_any (w : World) : Calls Tryz.prog 157 #[] w fun e w' => e = .returned (.agg karr) ∧ Below w.heap.size w w' := by
  have a64 := alloc64
  have hz := Blk.new w 233 zero64
  go_enter Tryz.func157, Tryz.ntmps157
  go_wp2_with (first | (show wpList _ _ _ ((⟨some 1, .build _ _, _, _, _, _⟩ : Oper) :: _) _ _; (refine wpList_run (o := ⟨some 1, .build _ _, _, _, _, _⟩) (.agg karr) (by rfl) (by kernel_rfl) ?_)) | (show wpList _ _ _ ((⟨none, _, _, _, _, _⟩ : Oper) :: _) _ _; ((refine wpList_store_blk (o := ⟨none, _, _, _, _, _⟩) hz (by rfl) _ _ _ (by rfl) (by rfl) karr (by kernel_rfl) size64 zero64_size karr_size karr_one ?_; intro w1 h1 hu1))))
  refine bodyPost_ret (results_cell_row (by rfl) _ _ _ _ _ _ _ (by rfl) h1 Tryz.underlying233 (by rfl) size64) rfl ⟨rfl, ((Below.refl _ _).alloc (Nat.le_refl _) _).upd hu1 (Nat.le_refl _)⟩
/-- What holds ahead of each block of the padded rest. -/
def PadRel (w : World) (H K : Nat) (l : List UInt8) (v : Value) (wr : World) : Prop :=
  ∃ (j : Nat) (M : List UInt8) (A' : Option Addr) (c' : Nat), 64 * j ≤ (Sha.pad l).length ∧ M = (Sha.pad l).drop (64 * j) ∧ M.length ≤ c' ∧ c' ≤ maxLen ∧ v = .slice A' M.length c' ∧ Bytes wr A' M ∧ (∀ ad, A' = some ad → K < ad.block) ∧ SInv 232 w wr H K (Sha.blks (Sha.pad l) Sha.init j)
set_option maxHeartbeats 1000000 in
set_option maxRecDepth 100000 in
theorem sum_any (A : Option Addr) (c : Nat) (l : List UInt8) (hc : l.length ≤ c) (hc2 : l.length ≤ 140737488351232 ∧ c ≤ 9223372036854775807) (w : World) (hb : Bytes w A l) :
    Calls Tryz.prog 118 #[.slice A l.length c] w fun e w' => e = .returned (.agg ((Sha.sum l).map u8v).toArray) ∧ Below w.heap.size w w' := by
  have a64 := alloc64
  have a16 := alloc16
  have hz8 : Blk ((w.alloc (.cells zero16 150)).alloc (.cells #[.int .u32 0, .int .u32 0, .int .u32 0, .int .u32 0, .int .u32 0, .int .u32 0, .int .u32 0, .int .u32 0] 232)) (w.heap.size + 1) 232 zero8 := Blk.new' _ _ _ (by simp)
  have hz16 : Blk ((w.alloc (.cells zero16 150)).alloc (.cells #[.int .u32 0, .int .u32 0, .int .u32 0, .int .u32 0, .int .u32 0, .int .u32 0, .int .u32 0, .int .u32 0] 232)) w.heap.size 150 zero16 := (Blk.new _ _ _).alloc _
  have hbz : Below w.heap.size w ((w.alloc (.cells zero16 150)).alloc (.cells #[.int .u32 0, .int .u32 0, .int .u32 0, .int .u32 0, .int .u32 0, .int .u32 0, .int .u32 0, .int .u32 0] 232)) := ((Below.refl _ _).alloc (Nat.le_refl _) _).alloc (by simp) _
  go_enter Tryz.func118, Tryz.ntmps118
  go_wp2_with (first
    | (show wpList _ _ _ ((⟨some 11, .build _ _, _, _, _, _⟩ : Oper) :: _) _ _; refine wpList_run (o := ⟨some 11, .build _ _, _, _, _, _⟩) (.agg (st8 Sha.init)) (by rfl) (by kernel_rfl) ?_)
    | (show wpList _ _ _ ((⟨none, .store _ (.tmp 3) (.tmp 11), _, _, _, _⟩ : Oper) :: _) _ _; go_must (refine wpList_store_blk (o := ⟨none, _, _, _, _, _⟩) hz8 (by rfl) _ _ _ (by rfl) (by rfl) (st8 Sha.init) (by rfl) size8 zero8_size (st8_size _) (st8_one _) ?_; intro w1 h1 hu1; replace hz16 := hz16.upd hu1 (by omega); replace hbz := hbz.upd hu1 (by omega); clear hu1 hz8)))
  refine (constants_any _).mono ?_
  rintro e w2 ⟨rfl, hb2⟩
  have hlt2 := (h1.below hb2 h1.lt).lt
  have hk64 := Blk.new w2 233 zero64
  replace h1 := (h1.below hb2 h1.lt).alloc (.cells zero64 233)
  replace hz16 := (hz16.below hb2 hz16.lt).alloc (.cells zero64 233)
  replace hbz := (hbz.trans (hb2.mono hbz.size)).alloc (by omega) (.cells zero64 233)
  go_wp2_with (show wpList _ _ _ ((⟨none, .store _ (.tmp 4) (.tmp 12), _, _, _, _⟩ : Oper) :: _) _ _; go_must (refine wpList_store_blk (o := ⟨none, _, _, _, _, _⟩) hk64 (by rfl) _ _ _ (by rfl) (by rfl) karr (by rfl) size64 zero64_size karr_size karr_one ?_; intro w3 h3 hu3; have hI : SInv 232 w w3 (w.heap.size + 1) w2.heap.size Sha.init := ⟨h1.upd hu3 (by omega), h3, hz16.upd hu3 (by omega), by omega, hlt2, hbz.upd hu3 (by omega)⟩; clear hu3 h1 hz16 hbz hk64 h3))
  clear hb2 hlt2
  generalize w2.heap.size = K at hI ⊢
  generalize hH : w.heap.size + 1 = H at hI ⊢
  clear hH
  go_loopw [0] (fun v wr => ∃ (t : Nat) (l' : List UInt8) (A' : Option Addr) (c' : Nat), 64 * t ≤ l.length ∧ l' = l.drop (64 * t) ∧ l'.length ≤ c' ∧ c' ≤ c ∧ v = .slice A' l'.length c' ∧ Bytes w A' l' ∧ SInv 232 w wr H K (Sha.blks l Sha.init t)) (fun v _ => lenOf v)
  case atStart => exact ⟨0, l, A, c, by omega, by simp, hc, Nat.le_refl _, rfl, hb, hI⟩
  case round =>
    clear hI
    obtain ⟨t, l', A', c', ht, hl', hc', hcc, rfl, hb', hI⟩ := hrel
    have HL := Lib.hid hl'
    have hlen : l'.length + 64 * t = l.length := by rw [hl']; simp; omega
    have HN := Lib.hid hlen
    clear hl' hlen
    by_cases h64 : 64 ≤ l'.length
    · obtain ⟨b, off, rfl, hbl, hcell⟩ := hb'.at_ (by omega)
      have HB := Lib.hid hb'; clear hb'
      have HC := Lib.hid hcell; clear hcell
      go_wp2
      have hst : ∀ w', Below wr.heap.size wr w' → Calls Tryz.prog 158 #[.agg (st8 (Sha.blks l Sha.init t)), .slice (some ⟨b, off, none⟩) l'.length c', .agg karr] w' fun e w'' => e = .returned (.agg (st8 (Sha.blk (Sha.blks l Sha.init t) l' 0))) ∧ Below wr.heap.size wr w'' := by
        intro w' hw'
        have hI' := hI.below hw'
        refine (block_any _ b off _ c' l' rfl h64 w' (by have := hI'.bel.size; omega) (fun j hj => ?_)).mono fun e w'' h => ⟨h.1, hw'.trans (h.2.mono hw'.size)⟩
        rw [hI'.bel.cell (p := ⟨b, off + j, none⟩) hbl]; exact HC.out j hj
      refine wp_region_mix (Below wr.heap.size wr) [1, 4, 5] [0, 2, 3] 6 [7] (by kernel_rfl) (by kernel_rfl) (fun c a a' w h q => ⟨h ▸ q.1, q.2⟩) (Below.refl _ _).drew ?_
      dsimp only [List.filterMap, List.getElem?_cons_zero, List.getElem?_cons_succ]
      repeat (go_big_quiet_step (fail))
      refine wpQuiet_nil ?_
      refine wpQuiet_load_blk (fun w' hw' => (hI.below hw').hh) (by rfl) _ _ (by rfl) (by rfl) _ Tryz.underlying232 (by rfl) size8 (st8_size _) ?_
      simp only [Act.put, List.setIfInBounds_toArray, List.set_cons_zero, List.set_cons_succ]
      refine wpQuiet_load_blk (fun w' hw' => (hI.below hw').kk) (by rfl) _ _ (by rfl) (by rfl) _ Tryz.underlying233 (by rfl) size64 karr_size ?_
      simp only [Act.put, List.setIfInBounds_toArray, List.set_cons_zero, List.set_cons_succ]
      refine wpQuiet_call Tryz.call158 (by rfl) _ _ (by rfl) _ (by rfl) _ hst ?_
      simp only [Act.put, List.setIfInBounds_toArray, List.set_cons_zero, List.set_cons_succ]
      refine wpQuiet_nil ?_
      intro w5 hw5
      replace hI := hI.below hw5
      clear hw5 hst
      go_wp2_with (show wpList _ _ _ ((⟨none, .store _ (.tmp 3) (.tmp 21), _, _, _, _⟩ : Oper) :: _) _ _; go_must (refine wpList_store_blk (o := ⟨none, _, _, _, _, _⟩) hI.hh (by rfl) _ _ _ (by rfl) (by rfl) (st8 (Sha.blk (Sha.blks l Sha.init t) l' 0)) (by rfl) size8 (st8_size _) (st8_size _) (st8_one _) ?_; intro w6 h6 hu6; have hI6 := hI.stored h6 hu6; clear hu6 hI h6))
      go_roundw
      case rel =>
        have hlen := HN.out
        refine ⟨t + 1, l'.drop 64, _, c' - 64, by omega, ?_, by simp; omega, by omega, ?_, HB.out.drop (k := 64) (cap := c') (by omega), ?_⟩
        · rw [HL.out, List.drop_drop]; congr 1
        · rw [List.length_drop]; rfl
        · have : Sha.blk (Sha.blks l Sha.init t) l' 0 = Sha.blks l Sha.init (t + 1) := by rw [HL.out, Sha.blk_drop]; rfl
          rw [← this]; exact hI6
      case measure => simp [lenOf]; omega
    · have hz : Sha.zeros l'.length = Sha.zeros l.length := by rw [← HN.out, Sha.zeros_add]
      have HZ := Lib.hid hz; clear hz
      have hb7 := Bytes.below hb' hI.bel
      clear hb'
      have hKlt := hI.kk.lt
      go_wp2_with (first
        | (show wpList _ _ _ ((⟨some 25, _, _, _, _, _⟩ : Oper) :: _) _ _; go_must (refine wpList_append_bytes (o := ⟨some 25, _, _, _, _, _⟩) (by rfl) _ _ _ (by rfl) (K + 1) _ Tryz.underlying39 u8info (.slice none 0 0) [] [] (by rfl) (OwnsC.nil _ _ _ _) A' c' l' (by rfl) hb7 (by simp; omega) hKlt ?_; intro v1 w7 sp1 ho1 hg1 ha1 hn1; replace hI := hI.grown hg1 (fun k hk => by simp [Value.ownBlock] at hk); clear hb7 hn1 hg1; replace ho1 := ho1.alloc (.cells #[.int .u8 128] 5); have hlit : Bytes (w7.alloc (.cells #[.int .u8 128] 5)) (some ⟨w7.heap.size, 0, none⟩) [128] := bytes_lit w7 _ [128]))
        | (show wpList _ _ _ ((⟨some 27, _, _, _, _, _⟩ : Oper) :: _) _ _; go_must (refine wpList_append_bytes (o := ⟨some 27, _, _, _, _, _⟩) (by rfl) _ _ _ (by rfl) (K + 1) _ Tryz.underlying39 u8info v1 ([] ++ l') sp1 (by rfl) ho1 (some ⟨w7.heap.size, 0, none⟩) 1 [128] (by rfl) hlit (by simp; omega) (by have := hI.kk.lt; simp; omega) ?_; intro v2 w8 sp2 ho2 hg2 _ _; replace hI := (hI.alloc (.cells #[.int .u8 128] 5)).grown hg2 (fun k hk => (OwnsC.lt ho1 k hk).1); clear hlit ho1 hg2 ha1)))
      have ho3 : OwnB 5 w8 (K + 1) v2 (l' ++ 128 :: List.replicate 0 0) sp2 := by simpa using ho2
      clear ho2
      go_loopw [6] (fun v wr => ∃ (i : Nat) (L sp : List UInt8), i ≤ Sha.zeros l.length ∧ L = l' ++ 128 :: List.replicate i 0 ∧ OwnB 5 wr (K + 1) v L sp ∧ SInv 232 w wr H K (Sha.blks l Sha.init t)) (fun v _ => 300 - lenOf v)
      case atStart => exact ⟨0, _, _, by omega, rfl, ho3, hI⟩
      case round =>
        clear hI ho3
        obtain ⟨i, L, sp, hi, hL, ho, hI⟩ := hrel
        obtain ⟨A2, c2, rfl, hc1, hc3, hr1, _⟩ := OwnsC.reads ho
        have hLlen : L.length = l'.length + 1 + i := by rw [hL]; simp; omega
        have HL2 := Lib.hid hL
        have HO := Lib.hid ho
        have hzl := Sha.zeros_lt l.length
        have hz := HZ.out
        have hl64 : l'.length < 64 := by omega
        by_cases hlt : i < Sha.zeros l.length
        · have ht1 : (((L.length : Nat) : Int) % 64 != 56) = true := by rw [bne_iff_ne]; have := Sha.zeros_not hl64 (by rw [hz]; exact hlt); rw [← hLlen] at this; omega
          have hKlt := hI.kk.lt
          have hLle : L.length ≤ 200 := by omega
          have HLl := Lib.hid hLlen
          clear hL hLlen hz hr1
          replace ho := ho.alloc (.cells #[.int .u8 0] 5)
          have hlit : Bytes (wr.alloc (.cells #[.int .u8 0] 5)) (some ⟨wr.heap.size, 0, none⟩) [0] := bytes_lit wr _ [0]
          go_wp2_with (show wpList _ _ _ ((⟨some 34, _, _, _, _, _⟩ : Oper) :: _) _ _; refine wpList_append_bytes (o := ⟨some 34, _, _, _, _, _⟩) (by rfl) _ _ _ (by rfl) (K + 1) _ Tryz.underlying39 u8info (.slice A2 L.length c2) L sp (by rfl) ho (some ⟨wr.heap.size, 0, none⟩) 1 [0] (by rfl) hlit (by simp; omega) (by simp; omega) ?_; intro v3 w9 sp3 ho3 hg3 _ _; have hI3 := (hI.alloc (.cells #[.int .u8 0] 5)).grown hg3 (fun k hk => (OwnsC.lt ho k hk).1); clear hlit ho hg3 hI)
          obtain ⟨A3, c3, rfl, _⟩ := OwnsC.reads ho3
          go_roundw
          case rel => exact ⟨i + 1, _, _, by omega, by rw [HL2.out]; simp [List.replicate_succ'], ho3, hI3⟩
          case measure => simp [lenOf]; omega
        · obtain rfl : i = Sha.zeros l.length := by omega
          have ht1 : (((L.length : Nat) : Int) % 64 != 56) = false := by
            have := Sha.zeros_is hl64
            rw [hz, ← hLlen] at this
            have h2 : ((L.length : Nat) : Int) % 64 = 56 := by omega
            rw [h2]; rfl
          have hLle : L.length ≤ 200 := by omega
          clear hL hLlen hz hr1
          go_wp2
          go_loopw [6, 7] (fun v i wr => ∃ (k : Nat) (sp : List UInt8) (E : List UInt8), k ≤ 8 ∧ i = .int .i64 (56 - 8 * (k : Int)) ∧ E = (Sha.eight (l.length * 8)).take k ∧ OwnB 5 wr (K + 1) v (L ++ E) sp ∧ SInv 232 w wr H K (Sha.blks l Sha.init t)) (fun _ i _ => (intOf i + 8).toNat)
          case atStart => exact ⟨0, _, [], by omega, by simp, rfl, by simpa using HO.out, hI⟩
          case round =>
            clear hI ho
            obtain ⟨k, sp, E, hk, rfl, hE, ho, hI⟩ := hrel
            by_cases hk8 : k < 8
            · have HE := Lib.hid hE
              obtain ⟨A3, c3, rfl, _, _, hr3, _⟩ := OwnsC.reads ho
              obtain ⟨x, hx⟩ : ∃ x, x = UInt8.ofNat (l.length * 8 / 2 ^ (56 - 8 * k) % 256) := ⟨_, rfl⟩
              have HX := Lib.hid hx
              have eb : ((l.length : Int) * 8 / 2 ^ (56 - 8 * k) % 256) = iu8 x := by rw [hx]; exact (iu8_ofNat_mod _).symm
              have hEl : (L ++ E).length = L.length + k := by rw [hE]; simp [Sha.eight_length]; omega
              obtain ⟨M, hM⟩ : ∃ M, M = L ++ E := ⟨_, rfl⟩
              rw [← hM] at ho hEl ⊢
              have HM := Lib.hid hM
              have hMle : M.length ≤ 208 := by omega
              have HEl := Lib.hid hEl
              have hKlt2 := hI.kk.lt
              have hlit : Bytes (wr.alloc (.cells #[.int .u8 (iu8 x)] 5)) (some ⟨wr.heap.size, 0, none⟩) [x] := bytes_lit wr _ [x]
              replace ho := OwnB.alloc ho (.cells #[.int .u8 (iu8 x)] 5)
              clear hE hx hEl hM hr3
              go_wp2_with (show wpList _ _ _ ((⟨some 47, _, _, _, _, _⟩ : Oper) :: _) _ _; refine wpList_append_bytes (o := ⟨some 47, _, _, _, _, _⟩) (by rfl) _ _ _ (by rfl) (K + 1) _ Tryz.underlying39 u8info (.slice A3 M.length c3) M sp (by rfl) ho (some ⟨wr.heap.size, 0, none⟩) 1 [x] (by rfl) hlit (by simp; omega) (by simp; omega) ?_; intro v3 w9 sp3 ho3 hg3 _ _; have hI3 := (hI.alloc (.cells #[.int .u8 (iu8 x)] 5)).grown hg3 (fun k hk => (OwnsC.lt ho k hk).1); clear hlit ho hg3 hI)
              go_roundw
              case rel => exact ⟨k + 1, sp3, E ++ [x], by omega, by go_num, by rw [HE.out, HX.out, Sha.eight_take _ _ hk8], by rw [HM.out, List.append_assoc] at ho3; exact ho3, hI3⟩
              case measure => simp [intOf]; omega
            · obtain rfl : k = 8 := by omega
              obtain ⟨A4, c4, rfl, hc4, hc5, hr4, _⟩ := OwnsC.reads ho
              have hge : ∀ ad, A4 = some ad → K < ad.block := fun ad hd => by
                have := (OwnsC.lt ho ad.block (by rw [hd]; rfl)).1
                omega
              have hM0 : L ++ E = (Sha.pad l).drop (64 * t) := by
                rw [hE, List.take_of_length_le (by rw [Sha.eight_length]; omega), HL2.out, HL.out, Sha.pad, Sha.tail, List.drop_append_of_le_length ht]
                simp
              have hS0 : Sha.blks l Sha.init t = Sha.blks (Sha.pad l) Sha.init t := (Sha.blks_append l _ _ t ht).symm
              rw [hS0] at hI
              have hr5 : Bytes wr A4 (L ++ E) := hr4
              obtain ⟨M, hM⟩ : ∃ M, M = L ++ E := ⟨_, rfl⟩
              rw [hM0] at hM
              rw [hM0, ← hM] at hr5
              rw [hM0, ← hM] at hc4 ⊢
              have HM := Lib.hid hM
              clear hr4 ho hE hM hM0 hS0
              go_wp2
              go_loopw [6] (fun v wr => PadRel w H K l v wr) (fun v _ => lenOf v)
              case atStart => exact ⟨t, M, A4, c4, by rw [Sha.pad_length]; omega, HM.out, hc4, hc5, rfl, hr5, hge, hI⟩
              case round =>
                clear hI hr5 hge
                obtain ⟨j, M, A5, c5, hj, hM, hc6, hc7, rfl, hb5, hge, hI⟩ := hrel
                have hMl : M.length + 64 * j = (Sha.pad l).length := by rw [hM, List.length_drop]; omega
                have hp := Sha.pad_mod l
                have hpl : (Sha.pad l).length ≤ 140737488351400 := by rw [Sha.pad_length]; omega
                by_cases hpos : 0 < M.length
                · have h64' : 64 ≤ M.length := by omega
                  obtain ⟨b, off, rfl, hbl, hcell⟩ := hb5.at_ hpos
                  have HM2 := Lib.hid hM
                  have HMl := Lib.hid hMl
                  have HB := Lib.hid hb5
                  have HG := Lib.hid hge
                  have HC := Lib.hid hcell
                  have hMle : M.length ≤ 140737488351400 := by omega
                  clear hM hMl hb5 hge hcell hp
                  go_wp2_with (first
                    | (show wpList _ _ _ ((⟨some 53, _, _, _, _, _⟩ : Oper) :: _) _ _; refine wpList_load_blk (o := ⟨some 53, _, _, _, _, _⟩) hI.hh (by rfl) _ _ (by rfl) (by rfl) _ Tryz.underlying232 (by rfl) size8 (st8_size _) ?_)
                    | (show wpList _ _ _ ((⟨some 55, _, _, _, _, _⟩ : Oper) :: _) _ _; refine wpList_load_blk (o := ⟨some 55, _, _, _, _, _⟩) hI.kk (by rfl) _ _ (by rfl) (by rfl) _ Tryz.underlying233 (by rfl) size64 karr_size ?_)
                    | fail)
                  refine (block_any _ b off _ c5 M rfl h64' _ hbl HC.out).mono ?_
                  rintro e w9 ⟨rfl, hb9⟩
                  replace hI := hI.below hb9
                  have hb6 := Bytes.below HB.out hb9
                  have HB6 := Lib.hid hb6
                  clear hb6
                  go_wp2_with (show wpList _ _ _ ((⟨none, .store _ (.tmp 3) (.tmp 56), _, _, _, _⟩ : Oper) :: _) _ _; refine wpList_store_blk (o := ⟨none, _, _, _, _, _⟩) hI.hh (by rfl) _ _ _ (by rfl) (by rfl) (st8 (Sha.blk (Sha.blks (Sha.pad l) Sha.init j) M 0)) (by rfl) size8 (st8_size _) (st8_size _) (st8_one _) ?_; intro w6 h6 hu6; have hI6 := hI.stored h6 hu6; have hb7 := HB6.out.upd hu6 (fun ad hd => by have h1 := HG.out ad hd; have h2 := hI.h2; omega); have HB7 := Lib.hid hb7; clear hb7 hu6 hI h6)
                  all_goals
                    go_roundw
                    case rel =>
                      have hlen := HMl.out
                      unfold PadRel
                      refine ⟨j + 1, M.drop 64, _, c5 - 64, by omega, ?_, by simp; omega, by omega, ?_, HB7.out.drop (k := 64) (cap := c5) (by omega), block_cut HG.out, ?_⟩
                      · rw [HM2.out, List.drop_drop]; congr 1
                      · rw [List.length_drop]; simp [Addr.add_lit, *]
                      · have : Sha.blk (Sha.blks (Sha.pad l) Sha.init j) M 0 = Sha.blks (Sha.pad l) Sha.init (j + 1) := by rw [HM2.out, Sha.blk_drop]; rfl
                        rw [← this]; exact hI6
                    case measure => simp [lenOf]; omega
                · have hM0 : M.length = 0 := by omega
                  have HS := Lib.hid (show j = (Sha.pad l).length / 64 by omega)
                  clear hM hMl hp hpl hb5 hge
                  obtain ⟨x, hx⟩ : ∃ x, x = Sha.blks (Sha.pad l) Sha.init j := ⟨_, rfl⟩
                  rw [← hx] at hI
                  have HX := Lib.hid (show Sha.sum l = Sha.out x by rw [hx, HS.out]; rfl)
                  clear hx
                  have hD : Blk (wr.alloc (.cells zero16 150)) wr.heap.size 150 (darr x 0) := (Blk.new _ _ _).sub (darr_zero x)
                  have hKD := hI.kk.lt
                  have hI2 := hI.alloc (.cells zero16 150)
                  go_wp2
                  generalize wr.heap.size = D at hD hKD ⊢
                  go_loopw [59] (fun v wr => ∃ i : Nat, i ≤ 4 ∧ v = .int .i64 i ∧ SInv 232 w wr H K x ∧ Blk wr D 150 (darr x i)) (fun v _ => 4 - (intOf v).toNat)
                  case atStart => exact ⟨0, by omega, rfl, hI2, hD⟩
                  case round =>
                    clear hI hI2 hD
                    obtain ⟨i, hi, rfl, hI, hD⟩ := hrel
                    by_cases hi4 : i < 4
                    · obtain ⟨y, hy⟩ : ∃ y, y = Sha.get x i := ⟨_, rfl⟩
                      have cy := (hI.hh.cell i).trans (st8_get x i (by omega))
                      rw [← hy] at cy
                      have HY := Lib.hid hy; clear hy
                      have b0 : iu32 y / 16777216 % 256 = iu8 (Sha.byte y 0) := byte_eq y 0
                      have b1 : iu32 y / 65536 % 256 = iu8 (Sha.byte y 1) := byte_eq y 1
                      have b2 : iu32 y / 256 % 256 = iu8 (Sha.byte y 2) := byte_eq y 2
                      have b3 : iu32 y % 256 = iu8 (Sha.byte y 3) := by have := byte_eq y 3; simpa using this
                      have d0 := (hD.cell (4 * i)).trans (arr_at _ (show 4 * i < 16 by omega))
                      have d1 := (hD.cell (4 * i + 1)).trans (arr_at _ (show 4 * i + 1 < 16 by omega))
                      have d2 := (hD.cell (4 * i + 2)).trans (arr_at _ (show 4 * i + 2 < 16 by omega))
                      have d3 := (hD.cell (4 * i + 3)).trans (arr_at _ (show 4 * i + 3 < 16 by omega))
                      have f0 := hD.frozen (4 * i)
                      have f1 := hD.frozen (4 * i + 1)
                      have f2 := hD.frozen (4 * i + 2)
                      have f3 := hD.frozen (4 * i + 3)
                      go_wp2
                      go_roundw
                      case rel =>
                        refine ⟨i + 1, by omega, by go_num, ?_, ?_⟩
                        · exact (((hI.off hKD _).off hKD _).off hKD _).off hKD _
                        · have h1 := (((hD.set_ (4 * i) (.int .u8 (iu8 (Sha.byte y 0)))).set_ (4 * i + 1) (.int .u8 (iu8 (Sha.byte y 1)))).set_ (4 * i + 2) (.int .u8 (iu8 (Sha.byte y 2)))).set_ (4 * i + 3) (.int .u8 (iu8 (Sha.byte y 3)))
                          rw [darr_set x i y HY.out] at h1
                          exact h1
                      case measure => simp [intOf]; omega
                    · obtain rfl : i = 4 := by omega
                      rw [darr_all] at hD
                      go_wp2_with (first
                        | (show wpList _ _ _ ((⟨some 91, _, _, _, _, _⟩ : Oper) :: _) _ _; refine wpList_load_blk (o := ⟨some 91, _, _, _, _, _⟩) hD (by rfl) _ _ (by rfl) (by rfl) _ Tryz.underlying150 (by rfl) size16 (by simp [Sha.out]) ?_)
                        | (show wpList _ _ _ ((⟨none, .store _ (.tmp 2) (.tmp 91), _, _, _, _⟩ : Oper) :: _) _ _; refine wpList_store_blk (o := ⟨none, _, _, _, _, _⟩) hI.rr (by rfl) _ _ _ (by rfl) (by rfl) ((Sha.out x).map u8v).toArray (by rfl) size16 (arr_size _ _) (by simp [Sha.out]) (u8_all _) ?_; intro w6 h6 hu6; have hbel := hI.bel.upd hu6 (Nat.le_refl _); clear hu6 hI hD))
                      refine bodyPost_ret (results_cell_row (by rfl) _ _ _ _ _ _ _ (by rfl) h6 Tryz.underlying150 (by rfl) (size16.trans (by simp [Sha.out]))) rfl ⟨?_, hbel⟩
                      rw [HX.out]
end Go.Proofs.YtfoegmjpfkmggaaGreatDoor

/- What the functions of the layer of seals answer: the seal compared, bytes sealed, bytes opened; the program's and the document's. Conditions: the bytes can be read; they are at most 2^47 - 5000. -/
namespace Go
open Go.RowKit
theorem u8v_cell : Extern.Stop.cell = u8v := funext fun _ => rfl
theorem wpList_eql_bytes {P : Program} {w : World} {Q : Exit → Act → World → Prop} {ops : Array Oper} {rest : List Oper} {o : Oper} {a : Act} (hgd : o.guard = none) (t e r : TypeId) (x y : Operand) (ho : o.op = .binOp .eql t x y r) (n : Nat)
    (ht : P.underlying t = some (.array n e)) (he : P.underlying e = some (.int .u8)) (hsz : (P.info? e).map (·.size) = some 1) (hm : P.eqGuardType P.depth t = false)
    (l l' : List UInt8) (hx : a.eval x = .agg (l.map u8v).toArray) (hy : a.eval y = .agg (l'.map u8v).toArray) (hl : l.length = n) (hl' : l'.length = n)
    (h : wpList P ops Q rest (a.put o.dst (.bool (decide (l = l')))) w) : wpList P ops Q (o :: rest) a w := by
  refine wpList_run (.bool (decide (l = l'))) hgd ?_ h
  obtain ⟨i, hi, hs⟩ := Option.map_eq_some_iff.1 hsz
  have hsz' : ∀ w, (sizeOf e).run P w = .ok 1 w := fun w => by simp [sizeOf, typeInfo, hi, hs]
  have h1 := run_eql_bytes (P := P) w t e n ht he hsz' l l' hl hl'
  rw [u8v_cell] at h1
  have h2 : (l == l') = decide (l = l') := by by_cases h : l = l' <;> simp [h]
  rw [h2] at h1
  unfold execOp
  simp only [ho, hx, hy, Sem.run_bind, run_eqGuard_agg w .eql t x y _ _ hm, h1, Result.andThen_ok, Sem.run_pure]
/-- A load of a whole array out of the middle of a block. -/
theorem wpQuiet_load_mid {P : Program} {ops : Array Oper} {C : World → Prop} {Q : Act → Prop} {rest : List Oper} {o : Oper} {a : Act} {b off : Nat} {cs : List Value} (hb : ∀ w, C w → w.rangeAt b off cs) (hgd : o.guard = none) (ty : TypeId) (x : Operand) (ho : o.op = .load ty x)
    (hx : a.eval x = .pointer (some ⟨b, off, none⟩)) (d : TypeDesc) (hu : P.underlying ty = some d) (hd : d.isRow = true) {n : Nat} (hi : (P.info? ty).map (·.size) = some n) (hn : cs.length = n)
    (h : wpQuiet P ops C Q rest (a.put o.dst (.agg cs.toArray))) : wpQuiet P ops C Q (o :: rest) a := by
  refine wpQuiet_step fun K hK => ?_
  rw [if_pos (by simp [Region.wanted, hgd])]
  refine ⟨_, fun w hw => ?_, hK _ h⟩
  unfold Oper.quietAt execOp
  simp only [ho, hx, Instr.loadAt, Instr.sureAddr, Sem.run_bind, Sem.run_pure, Result.andThen_ok, run_loadVar_mid w b off ty cs d (hb w hw) hu hd (hn ▸ hi)]
  exact ⟨rfl, rfl⟩
/-- A slice as a pointer to an array. -/
theorem wpQuiet_array {P : Program} {ops : Array Oper} {C : World → Prop} {Q : Act → Prop} {rest : List Oper} {o : Oper} {a : Act} (hgd : o.guard = none) (t : TypeId) (x : Operand) (ho : o.op = .sliceToArrayPointer t x)
    (m : Nat) (e : TypeId) (hu : P.underlying t = some (.array m e)) (A : Option Addr) (n c : Nat) (hx : a.eval x = .slice A n c) (hmn : m ≤ n)
    (h : wpQuiet P ops C Q rest (a.put o.dst (.pointer A))) : wpQuiet P ops C Q (o :: rest) a := by
  refine wpQuiet_step fun K hK => ?_
  rw [if_pos (by simp [Region.wanted, hgd])]
  refine ⟨_, fun w hw => ?_, hK _ h⟩
  unfold Oper.quietAt execOp
  have hn : ¬ n < m := by omega
  simp only [ho, hx, Instr.arrayAt, Sem.run_bind, run_underlying hu, hn, if_false, Sem.run_pure, Result.andThen_ok]
  exact ⟨rfl, rfl⟩
namespace Proofs.YtfoegmjpfkmggaaGreatDoor
theorem nosel : Tryz.prog.eqGuardType Tryz.prog.depth 150 = false := by kernel_rfl
theorem Sha.sum_length (l : List UInt8) : (Sha.sum l).length = 16 := by simp [Sha.sum, Sha.out]
set_option maxHeartbeats 400000 in
theorem right_seal_any (A : Option Addr) (n c : Nat) (l s : List UInt8) (hn : n = l.length) (hc : l.length ≤ c) (hc2 : l.length ≤ 140737488351232 ∧ c ≤ 9223372036854775807) (hs : s.length = 16) (w : World) (hb : Bytes w A l) :
    Calls Tryz.prog 134 #[.slice A n c, .agg (s.map u8v).toArray] w fun e w' => e = .returned (.bool (decide (Sha.sum l = s))) ∧ Below w.heap.size w w' := by
  subst hn
  have hg : Blk (w.alloc (.cells (s.map u8v).toArray 150)) w.heap.size 150 (s.map u8v).toArray := Blk.new _ _ _
  have h0 : Below w.heap.size w (w.alloc (.cells (s.map u8v).toArray 150)) := (Below.refl _ _).alloc (Nat.le_refl _) _
  go_enter Tryz.func134, Tryz.ntmps134
  go_wp2_with fail
  generalize hw1 : w.alloc (.cells (s.map u8v).toArray 150) = w1 at hg h0 ⊢
  have hsz : w1.heap.size = w.heap.size + 1 := by rw [← hw1]; simp
  clear hw1
  have hs16 := Sha.sum_length l
  have hst : ∀ w', Below w1.heap.size w1 w' → Calls Tryz.prog 118 #[.slice A l.length c] w' fun e w'' => e = .returned (.agg ((Sha.sum l).map u8v).toArray) ∧ Below w1.heap.size w1 w'' := fun w' hw' =>
    (sum_any A c l hc hc2 w' (Bytes.below (Bytes.below hb h0) hw')).mono fun e w'' h => ⟨h.1, hw'.trans (h.2.mono hw'.size)⟩
  generalize hS : Sha.sum l = S at hst hs16
  refine wp_region_mix (Below w1.heap.size w1) [0] [1, 2] 3 [4] (by kernel_rfl) (by kernel_rfl) (fun c a a' w h q => ⟨h ▸ q.1, q.2⟩) (Below.refl _ _).drew ?_
  dsimp only [List.filterMap, List.getElem?_cons_zero, List.getElem?_cons_succ]
  repeat (go_big_quiet_step (fail))
  refine wpQuiet_nil ?_
  refine wpQuiet_call Tryz.call118 (by rfl) _ _ (by rfl) _ (by rfl) _ hst ?_
  simp only [Act.put, List.setIfInBounds_toArray, List.set_cons_zero, List.set_cons_succ]
  refine wpQuiet_load_blk (fun w' hw' => hg.below hw' hg.lt) (by rfl) _ _ (by rfl) (by rfl) _ Tryz.underlying150 (by rfl) size16 (by simp [hs]) ?_
  simp only [Act.put, List.setIfInBounds_toArray, List.set_cons_zero, List.set_cons_succ]
  refine wpQuiet_nil ?_
  intro w5 hw5
  go_wp2_with (show wpList _ _ _ ((⟨some 8, _, _, _, _, _⟩ : Oper) :: _) _ _; refine wpList_eql_bytes (o := ⟨some 8, _, _, _, _, _⟩) (by rfl) _ _ _ _ _ (by rfl) 16 Tryz.underlying150 Tryz.underlying5 size1 nosel S s (by rfl) (by rfl) hs16 hs ?_)
  go_ret
  exact ⟨by rw [hS]; rfl, h0.trans (hw5.mono (by omega))⟩
/-- What the bytes are when they are opened: the error's number, and what is told. -/
def Sha.opened (l : List UInt8) : Int × List UInt8 := if l.length < 16 then (4, []) else if Sha.sum (l.drop 16) = l.take 16 then (0, l.drop 16) else (12, [])
end Proofs.YtfoegmjpfkmggaaGreatDoor
end Go

/- The small functions of the layer of blocks: may a ref be one; may a block; a number laid, a number read. Conditions: numbers are Go's, lists can be read. -/
namespace Go.Proofs.YtfoegmjpfkmggaaGreatDoor
open Go.RowKit
set_option maxHeartbeats 400000 in
theorem place_any (a s : Int) (w : World) : Calls Tryz.prog 169 #[.agg #[.int .i64 a, .int .i64 s]] w fun e w' => e = .returned (.bool (refOk (a, s, ()))) ∧ Below w.heap.size w w' := by
  go_enter Tryz.func169, Tryz.ntmps169
  go_wp2
  all_goals
    go_ret
    refine ⟨?_, (Below.refl _ _).alloc (Nat.le_refl _) _⟩
    unfold refOk
    simp [*]
    try omega
set_option maxHeartbeats 1000000 in
theorem number_any (A : Option Addr) (c p : Nat) (l : List UInt8) (hp : p + 4 ≤ l.length) (hl : l.length ≤ 2000) (w : World) (hb : Bytes w A l) :
    Calls Tryz.prog 141 #[.slice A l.length c, .int .i64 p] w fun e w' => e = .returned (.int .i64 (at4 l p)) ∧ Below w.heap.size w w' := by
  obtain ⟨b, off, rfl, hbl, hc⟩ := hb.at_ (by omega)
  have d0 := hc p (by omega)
  have d1 := hc (p + 1) (by omega)
  have d2 := hc (p + 2) (by omega)
  have d3 := hc (p + 3) (by omega)
  clear hc hb
  unfold at4
  generalize l.getD p 0 = x0 at d0 ⊢
  generalize l.getD (p + 1) 0 = x1 at d1 ⊢
  generalize l.getD (p + 2) 0 = x2 at d2 ⊢
  generalize l.getD (p + 3) 0 = x3 at d3 ⊢
  go_enter Tryz.func141, Tryz.ntmps141
  go_wp2
  go_quiet (fail)
  rw [or4]
  go_wp2
  go_ret
  exact ⟨rfl, below_drewN (Below.refl _ _) _⟩
/-- A list of refs can be read. -/
def Refs (w : World) (A : Option Addr) (l : List RefT) : Prop :=
  0 < l.length → ∃ b off, A = some ⟨b, off, none⟩ ∧ b < w.heap.size ∧ ∀ i, (h : i < l.length) → w.cell? ⟨b, off + i * 2, none⟩ = some (.int .i64 l[i].1) ∧ w.cell? ⟨b, off + i * 2 + 1, none⟩ = some (.int .i64 l[i].2.1)
theorem Refs.below {w w' : World} {A : Option Addr} {l : List RefT} (h : Refs w A l) (hb : Below w.heap.size w w') : Refs w' A l := fun hp => by
  obtain ⟨b, off, e, hlt, hc⟩ := h hp
  exact ⟨b, off, e, Nat.lt_of_lt_of_le hlt hb.size, fun i hi => ⟨(hb.cell (p := ⟨b, off + i * 2, none⟩) hlt).trans (hc i hi).1, (hb.cell (p := ⟨b, off + i * 2 + 1, none⟩) hlt).trans (hc i hi).2⟩⟩
instance {w w' : World} {A : Option Addr} {l : List RefT} : KeepsTo w w' (Refs w A l) (Refs w' A l) := ⟨fun hb h => h.below hb⟩
theorem size_ref : (Tryz.prog.info? 113).map (·.size) = some 2 := by kernel_rfl
/-- What the look at a block answers. -/
def GB.code (b : GBT) : Int := if GB.ok b then 0 else 2
theorem GB.code_ok {b : GBT} (h : GB.ok b = true) : GB.code b = 0 := by unfold GB.code; rw [if_pos h]
theorem GB.code_no {b : GBT} (h : GB.ok b = false) : GB.code b = 2 := by unfold GB.code; rw [if_neg (by rw [h]; simp)]
/-- Ahead of each ref that is looked at. -/
def CheckRel (w : World) (l : List RefT) (v : Value) (wr : World) : Prop :=
  ∃ i : Nat, i ≤ l.length ∧ v = .int .i64 (i : Int) ∧ (∀ j, (h : j < i) → (h2 : j < l.length) → refOk l[j] = true) ∧ Below w.heap.size w wr
set_option maxHeartbeats 1000000 in
set_option maxRecDepth 100000 in
theorem check_any (k ra rs : Int) (A B : Option Addr) (c d : Nat) (l : List RefT) (body : List UInt8) (hl : l.length ≤ 1000) (hb : body.length ≤ 5000) (w : World) (hr : Refs w A l) :
    Calls Tryz.prog 142 #[.agg #[.int .i64 k, .int .i64 ra, .int .i64 rs, .slice A l.length c, .slice B body.length d]] w fun e w' => e = .returned (.int .i64 (GB.code (k, (ra, rs, ()), l, body, ()))) ∧ Below w.heap.size w w' := by
  have hB0 : Below w.heap.size w (w.alloc (.cells #[.int .i64 k, .int .i64 ra, .int .i64 rs, .slice A l.length c, .slice B body.length d] 116)) := (Below.refl _ _).alloc (Nat.le_refl _) _
  have hr0 := Refs.below hr hB0
  by_cases h1 : k < 1
  · have hok : Hid (GB.ok (k, (ra, rs, ()), l, body, ()) = false) := Lib.hid (by unfold GB.ok; simp; omega)
    go_enter Tryz.func142, Tryz.ntmps142
    go_wp2
    go_ret
    exact ⟨ret_int (GB.code_no hok.out).symm, hB0⟩
  by_cases h2 : 15 < k
  · have hok : Hid (GB.ok (k, (ra, rs, ()), l, body, ()) = false) := Lib.hid (by unfold GB.ok; simp; omega)
    go_enter Tryz.func142, Tryz.ntmps142
    go_wp2
    go_ret
    exact ⟨ret_int (GB.code_no hok.out).symm, hB0⟩
  go_enter Tryz.func142, Tryz.ntmps142
  go_wp2_with fail
  have hg := Blk.new w 116 #[.int .i64 k, .int .i64 ra, .int .i64 rs, .slice A l.length c, .slice B body.length d]
  generalize w.alloc (.cells #[.int .i64 k, .int .i64 ra, .int .i64 rs, .slice A l.length c, .slice B body.length d] 116) = w1 at hg hB0 hr0 ⊢
  refine (place_any ra rs w1).mono ?_
  rintro e w2 ⟨rfl, hbx⟩
  (replace hr0 := keep hbx hr0; replace hg := keep hbx hg; replace hB0 := hB0.trans (hbx.mono hB0.size); clear hbx)
  have d2 := hg.cell 2
  have d3 := hg.cell 3
  have d4 := hg.cell 4
  cases hplace : refOk (ra, rs, ())
  · have hok : Hid (GB.ok (k, (ra, rs, ()), l, body, ()) = false) := Lib.hid (by unfold GB.ok; simp [hplace])
    clear hplace
    go_wp2
    go_ret
    exact ⟨ret_int (GB.code_no hok.out).symm, hB0⟩
  by_cases h3 : 16 < l.length
  · have hok : Hid (GB.ok (k, (ra, rs, ()), l, body, ()) = false) := Lib.hid (by unfold GB.ok; simp; omega)
    clear hplace
    go_wp2
    go_ret
    exact ⟨ret_int (GB.code_no hok.out).symm, hB0⟩
  by_cases h4 : 860 < body.length
  · have hok : Hid (GB.ok (k, (ra, rs, ()), l, body, ()) = false) := Lib.hid (by unfold GB.ok; simp; omega)
    clear hplace
    go_wp2
    go_ret
    exact ⟨ret_int (GB.code_no hok.out).symm, hB0⟩
  have hok : Hid (GB.ok (k, (ra, rs, ()), l, body, ()) = l.all refOk) := Lib.hid (by unfold GB.ok; simp [hplace]; omega)
  clear hplace
  clear d2 d3 d4
  have d2 : w2.cell? ⟨w.heap.size, 3, none⟩ = some (.slice A l.length c) := hg.at_ 3 (by simp)
  have d3 : w2.cell? ⟨w.heap.size, 4, none⟩ = some (.slice B body.length d) := hg.at_ 4 (by simp)
  go_wp2_with fail
  go_loopw [34] (fun v wr => CheckRel w l v wr) (fun v _ => l.length - (intOf v).toNat)
  case atStart => exact ⟨0, by omega, rfl, fun j h => absurd h (by omega), hB0⟩
  case round =>
    clear d2 d3 hg hr0 hB0
    obtain ⟨i, hi, rfl, hall, hBr⟩ := hrel
    have HA := Lib.hid hall
    clear hall
    by_cases hlt : i < l.length
    · have hrr := Refs.below hr hBr
      obtain ⟨b, off, rfl, hbl, hcells⟩ := hrr (by omega)
      obtain ⟨d1, d2⟩ := hcells i hlt
      have hR := Lib.hid (show l[i] = (l[i].1, l[i].2.1, ()) from rfl)
      generalize hx : l[i].1 = x at d1 hR
      generalize hy : l[i].2.1 = y at d2 hR
      clear hx hy hcells hrr
      go_wp2_with (first
        | ((with_reducible show wpList _ _ _ ((⟨some 40, _, _, _, _, _⟩ : Oper) :: _) _ _); refine wpList_load_mid (o := ⟨some 40, _, _, _, _, _⟩) (range2 (b := b) (off := off + i * 2) (u := .int .i64 x) (v := .int .i64 y) (d1) (d2)) (by rfl) _ _ (by rfl) (by rfl) _ Tryz.underlying113 (by rfl) size_ref (by rfl) ?_)
        | fail)
      have hbz := (Below.refl wr.heap.size wr).alloc (Nat.le_refl _) (.cells #[.int .i64 x, .int .i64 y] 113)
      generalize wr.alloc (.cells #[.int .i64 x, .int .i64 y] 113) = w4 at hbz ⊢
      refine (place_any x y w4).mono ?_
      rintro e w5 ⟨rfl, hbx⟩
      have hB5 := (hBr.trans (hbz.mono hBr.size)).trans (hbx.mono (by have := hBr.size; have := hbz.size; omega))
      clear d1 d2 hbz hbx hbl
      cases hpl : refOk (x, y, ())
      · have hno : Hid (GB.ok (k, (ra, rs, ()), l, body, ()) = false) := Lib.hid (by
          rw [hok.out]
          refine List.all_eq_false.2 ⟨l[i], List.getElem_mem hlt, ?_⟩
          rw [hR.out, hpl]; simp)
        clear hpl
        go_wp2
        go_ret
        exact ⟨ret_int (GB.code_no hno.out).symm, hB5⟩
      · have hPL := Lib.hid hpl
        clear hpl
        go_wp2
        go_roundw
        case rel => exact ⟨i + 1, by omega, by go_num, fun j hj h2 => by
          rcases Nat.lt_or_ge j i with h | h
          · exact HA.out j h h2
          · obtain rfl : j = i := by omega
            rw [hR.out]; exact hPL.out, hB5⟩
        case measure => simp [intOf]; omega
    · obtain rfl : i = l.length := by omega
      have hyes : Hid (GB.ok (k, (ra, rs, ()), l, body, ()) = true) := Lib.hid (by
        rw [hok.out]
        exact List.all_eq_true.2 fun r hr => by
          obtain ⟨j, hj, rfl⟩ := List.mem_iff_getElem.1 hr
          exact HA.out j hj hj)
      go_wp2
      go_ret
      exact ⟨ret_int (GB.code_ok hyes.out).symm, hBr⟩
end Go.Proofs.YtfoegmjpfkmggaaGreatDoor

/- Four bytes of a number laid at a place of a list. Plain facts. -/
namespace Go.Proofs.YtfoegmjpfkmggaaGreatDoor
open Go.RowKit
def put4 (L : List UInt8) (off n : Nat) : List UInt8 := L.take off ++ (le4 n ++ L.drop (off + 4))
def put4r (L : List UInt8) (off n j : Nat) : List UInt8 := L.take off ++ ((le4 n).take j ++ L.drop (off + j))
theorem put4r_zero (L : List UInt8) (off n : Nat) : put4r L off n 0 = L := by unfold put4r; simp
theorem put4r_length (L : List UInt8) (off n j : Nat) (h : off + 4 ≤ L.length) (hj : j ≤ 4) : (put4r L off n j).length = L.length := by
  unfold put4r; rw [List.length_append, List.length_append, List.length_take, List.length_take, List.length_drop, le4_length]; omega
theorem put4r_set (L : List UInt8) (off n j : Nat) (h : off + 4 ≤ L.length) (hj : j < 4) (b : UInt8) (hb : b = (le4 n).getD j 0) :
    ((put4r L off n j).map u8v).toArray.setIfInBounds (off + j) (.int .u8 (iu8 b)) = ((put4r L off n (j + 1)).map u8v).toArray := by
  apply Array.ext'
  simp only [List.setIfInBounds_toArray]
  have e : Value.int .u8 (iu8 b) = u8v b := rfl
  rw [e, ← List.map_set]
  congr 1
  subst hb
  unfold put4r
  have h1 : (L.take off).length = off := by rw [List.length_take]; omega
  rw [List.set_append_right _ _ (by omega), h1, Nat.add_sub_cancel_left]
  congr 1
  have h2 : ((le4 n).take j).length = j := by rw [List.length_take, le4_length]; omega
  rw [List.set_append_right _ _ (by omega), h2, Nat.sub_self]
  have hd : L.drop (off + j) = L[off + j]'(by omega) :: L.drop (off + (j + 1)) := by
    rw [List.drop_eq_getElem_cons (by omega)]; rfl
  rw [hd, List.set_cons_zero]
  have ht : (le4 n).take (j + 1) = (le4 n).take j ++ [(le4 n).getD j 0] := by
    rw [List.take_succ_eq_append_getElem (by rw [le4_length]; omega)]
    congr 2
    simp [List.getD, show j < (le4 n).length by rw [le4_length]; omega]
  rw [ht]; simp
theorem le4_v0 (n : Nat) : (n : Int) % 256 = iu8 ((le4 n).getD 0 0) := by show _ = iu8 (UInt8.ofNat (n % 256)); rw [iu8_ofNat_mod]
theorem le4_v1 (n : Nat) : (n : Int) / 256 % 256 = iu8 ((le4 n).getD 1 0) := by show _ = iu8 (UInt8.ofNat (n / 256 % 256)); rw [iu8_ofNat_mod]; omega
theorem le4_v2 (n : Nat) : (n : Int) / 65536 % 256 = iu8 ((le4 n).getD 2 0) := by show _ = iu8 (UInt8.ofNat (n / 65536 % 256)); rw [iu8_ofNat_mod]; omega
theorem le4_v3 (n : Nat) (h : n < 4294967296) : (n : Int) / 16777216 = iu8 ((le4 n).getD 3 0) := by show _ = iu8 (UInt8.ofNat (n / 16777216 % 256)); rw [iu8_ofNat_mod]; omega
end Go.Proofs.YtfoegmjpfkmggaaGreatDoor

/- A number laid at a cursor's front. Conditions: the cursor lies in a block of bytes, with room for four. -/
namespace Go.Proofs.YtfoegmjpfkmggaaGreatDoor
open Go.RowKit
/-- Ahead of each byte. -/
def FourRel (w : World) (g off n : Nat) (t : TypeId) (L : List UInt8) (v : Value) (wr : World) : Prop :=
  ∃ j : Nat, j ≤ 4 ∧ v = .int .i64 (j : Int) ∧ Blk wr g t ((put4r L off n j).map u8v).toArray ∧ Upd g w wr
set_option maxHeartbeats 1000000 in
theorem gbFour_any (g off len cap n : Nat) (t : TypeId) (L : List UInt8) (h4 : 4 ≤ len) (hL : off + 4 ≤ L.length) (hn : n < 4294967296) (w : World) (hb : Blk w g t (L.map u8v).toArray) :
    Calls Tryz.prog 170 #[.slice (some ⟨g, off, none⟩) len cap, .int .i64 n] w fun e w' =>
      e = .returned (.slice (some ⟨g, (if cap = 4 then off else off + 4), none⟩) (len - 4) (cap - 4)) ∧ Blk w' g t ((put4 L off n).map u8v).toArray ∧ Upd g w w' := by
  go_enter Tryz.func170, Tryz.ntmps170
  go_wp2
  go_loopw [6] (fun v wr => FourRel w g off n t L v wr) (fun v _ => 4 - (intOf v).toNat)
  case atStart => exact ⟨0, by omega, rfl, by rw [put4r_zero]; exact hb, Upd.refl _ _⟩
  case round =>
    obtain ⟨j, hj, rfl, hg, hu⟩ := hrel
    clear hb
    by_cases hlt : j < 4
    · have fz := hg.frozen (off + j)
      have hjl : off + j < (put4r L off n j).length := by rw [put4r_length L off n j hL (by omega)]; omega
      have dz : ∃ v, wr.cell? ⟨g, off + j, none⟩ = some v := ⟨_, (hg.cell (off + j)).trans (by rw [List.getElem?_toArray, List.getElem?_map, List.getElem?_eq_getElem hjl]; rfl)⟩
      obtain ⟨v, dz⟩ := dz
      have hs := put4r_set L off n j hL hlt _ rfl
      have ho := hg.set_ (off + j) (.int .u8 (iu8 ((le4 n).getD j 0)))
      rw [hs] at ho
      have HO := Lib.hid ho
      have hu' := Lib.hid (hu.set (off + j) (.int .u8 (iu8 ((le4 n).getD j 0))))
      clear hs ho hjl hg
      have hcase : j = 0 ∨ j = 1 ∨ j = 2 ∨ j = 3 := by omega
      rcases hcase with rfl | rfl | rfl | rfl
      · rw [Nat.add_zero] at fz dz
        go_wp2
        rw [le4_v0]
        exact ⟨⟨1, by omega, rfl, HO.out, hu'.out⟩, by simp [intOf]⟩
      · go_wp2
        rw [le4_v1]
        exact ⟨⟨2, by omega, rfl, HO.out, hu'.out⟩, by simp [intOf]⟩
      · go_wp2
        rw [le4_v2]
        exact ⟨⟨3, by omega, rfl, HO.out, hu'.out⟩, by simp [intOf]⟩
      · go_wp2
        rw [le4_v3 n hn]
        exact ⟨⟨4, by omega, rfl, HO.out, hu'.out⟩, by simp [intOf]⟩
    · obtain rfl : j = 4 := by omega
      have HG := Lib.hid hg
      clear hg
      go_wp2
      all_goals
        go_ret
        first
          | exact ⟨by rw [if_pos ‹_›]; rfl, HG.out, hu⟩
          | exact ⟨rfl, HG.out, hu⟩
end Go.Proofs.YtfoegmjpfkmggaaGreatDoor

/- A variable of 1,024 bytes: its noughts. No condition. -/
namespace Go.Proofs.YtfoegmjpfkmggaaGreatDoor
open Go.RowKit
def zero1024 : Array Value := arr 1024 fun _ => .int .u8 0
theorem size1024 : (Tryz.prog.info? 210).map (·.size) = some 1024 := by kernel_rfl
theorem alloc1024 (w : World) : (zeroValue 210).run Tryz.prog w = .ok (.agg zero1024) w := by
  have h : (Tryz.prog.info? 210).map (fun i => (i.zero, i.size)) = some (some (.agg zero1024), 1024) := by kernel_rfl
  exact (zero_of_info h).1 w
theorem idx5 (x0 x1 x2 x3 x4 : Value) (w : World) : (Instr.index 245 (.agg #[x0, x1, x2, x3, x4]) (.int .i64 0)).run Tryz.prog w = .ok x0 w ∧ (Instr.index 245 (.agg #[x0, x1, x2, x3, x4]) (.int .i64 1)).run Tryz.prog w = .ok x1 w ∧ (Instr.index 245 (.agg #[x0, x1, x2, x3, x4]) (.int .i64 2)).run Tryz.prog w = .ok x2 w ∧ (Instr.index 245 (.agg #[x0, x1, x2, x3, x4]) (.int .i64 3)).run Tryz.prog w = .ok x3 w ∧ (Instr.index 245 (.agg #[x0, x1, x2, x3, x4]) (.int .i64 4)).run Tryz.prog w = .ok x4 w :=
  ⟨by kernel_rfl, by kernel_rfl, by kernel_rfl, by kernel_rfl, by kernel_rfl⟩
end Go.Proofs.YtfoegmjpfkmggaaGreatDoor
