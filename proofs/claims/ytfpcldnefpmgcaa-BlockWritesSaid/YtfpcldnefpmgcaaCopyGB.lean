/- A copy of a block, as the kit makes it. Conditions: its lists can be read. -/
import Derived.Test.YtfpcldnefpmgcaaRef10D
namespace Go.Proofs.Ytfpcldnefpmgcaa
open Go.RowKit
def CopyPost (k a s : Int) (l : List RefT) (m : List UInt8) (w : World) (e : Ending) (w' : World) : Prop :=
  ∃ A2 c2 B2 d2, e = .returned (.agg #[.int .i64 k, .int .i64 a, .int .i64 s, .slice A2 l.length c2, .slice B2 m.length d2]) ∧ Refs w' A2 l ∧ Bytes w' B2 m ∧ Below w.heap.size w w'
set_option maxHeartbeats 1000000 in
theorem copyBlock_any (k a s : Int) (A B : Option Addr) (c d : Nat) (l : List RefT) (m : List UInt8) (hl : l.length ≤ 5000) (hm : m.length ≤ 140737488351300) (w : World) (hr : Refs w A l) (hb : Bytes w B m) :
    Calls Try.prog 29 #[.agg #[.int .i64 k, .int .i64 a, .int .i64 s, .slice A l.length c, .slice B m.length d]] w (CopyPost k a s l m w) := by
  have hbx := ((((Below.refl w.heap.size w).alloc (Nat.le_refl _) (.cells #[.int .i64 k, .int .i64 a, .int .i64 s, .slice A l.length c, .slice B m.length d] 45)).alloc (by simp) (.cells zeroGB 45)).alloc (by simp; omega) (.cells #[] 42))
  have hx := ((Blk.new w 45 #[.int .i64 k, .int .i64 a, .int .i64 s, .slice A l.length c, .slice B m.length d]).alloc (.cells zeroGB 45)).alloc (.cells #[] 42)
  have hz := (Blk.new' (w.alloc (.cells #[.int .i64 k, .int .i64 a, .int .i64 s, .slice A l.length c, .slice B m.length d] 45)) 45 zeroGB (n := w.heap.size + 1) (by simp)).alloc (.cells #[] 42)
  have ho : Own 42 2 (((w.alloc (.cells #[.int .i64 k, .int .i64 a, .int .i64 s, .slice A l.length c, .slice B m.length d] 45)).alloc (.cells zeroGB 45)).alloc (.cells #[] 42)) (w.heap.size + 1 + 1) (.slice (some ⟨w.heap.size + 1 + 1, 0, none⟩) 0 0) 0 [] [] := by
    have := Own.lit (e := 42) (size := 2) (base := w.heap.size + 1 + 1) ((w.alloc (.cells #[.int .i64 k, .int .i64 a, .int .i64 s, .slice A l.length c, .slice B m.length d] 45)).alloc (.cells zeroGB 45)) #[] 0 (by simp) (by simp) (by simp)
    simpa using this
  have hs1 : w.heap.size + 1 + 1 ≤ (((w.alloc (.cells #[.int .i64 k, .int .i64 a, .int .i64 s, .slice A l.length c, .slice B m.length d] 45)).alloc (.cells zeroGB 45)).alloc (.cells #[] 42)).heap.size := by simp
  unfold zeroGB at hbx hx hz ho hs1
  have HBX := Lib.hid hbx
  have HX := Lib.hid hx
  have HZ := Lib.hid hz
  have HO := Lib.hid ho
  have HS := Lib.hid hs1
  clear hbx hx hz ho hs1
  go_enter Try.func29, Try.ntmps29
  go_wp2_with (first
    | (show wpList _ _ _ ((⟨some 6, _, _, _, _, _⟩ : Oper) :: _) _ _; generalize World.alloc (World.alloc (World.alloc w _) _) _ = w1 at HBX HX HZ HO HS ⊢;
        refine wpList_append_all (o := ⟨some 6, _, _, _, _, _⟩) (by rfl) _ _ _ (by rfl) (w.heap.size + 1 + 1) 42 (.agg #[.int .i64 0, .int .i64 0]) 2 16 Try.underlying43 infoRef (by rfl) (by omega) _ 0 [] [] (by rfl) HO.out A l.length c (refCells l) (by rfl) (refCells_length l) (hr.below HBX.out).reads (refCells_one l) (by unfold maxLen; omega) (by omega) HS.out ?_;
        intro v2 w2 sp2 ho2 hg2; rw [Nat.zero_add, List.nil_append] at ho2;
        have hx2 : Blk w2 w.heap.size 45 #[.int .i64 k, .int .i64 a, .int .i64 s, .slice A l.length c, .slice B m.length d] := (hg2.block _ HX.out.lt (by simp [Value.ownBlock]; omega)).trans HX.out; have hz2 : Blk w2 (w.heap.size + 1) 45 zeroGB := (hg2.block _ HZ.out.lt (by simp [Value.ownBlock])).trans HZ.out; have hB2 := HBX.out.grown hg2 HBX.out.size (fun k hk => by simp [Value.ownBlock] at hk; omega);
        obtain ⟨A2, c2, rfl, _, _, _, _⟩ := Own.reads ho2; have d3 : w2.cell? ⟨w.heap.size, 3, none⟩ = some (.slice A l.length c) := hx2.at_ 3 rfl; have f3 := hx2.frozen 3; have d4 : w2.cell? ⟨w.heap.size, 4, none⟩ = some (.slice B m.length d) := hx2.at_ 4 rfl;
        have hx3 := Lib.hid ((hx2.set_ 3 (.slice A2 l.length c2)).sub (show _ = #[.int .i64 k, .int .i64 a, .int .i64 s, .slice A2 l.length c2, .slice B m.length d] by rfl)); have hz3 := Lib.hid (hz2.off (c := w.heap.size) (i := 3) (by omega) (.slice A2 l.length c2)); have hB3 := Lib.hid (hB2.set_ (c := w.heap.size) (i := 3) (Nat.le_refl _) (.slice A2 l.length c2)); have ho3 := Lib.hid (ho2.off (c := w.heap.size) (i := 3) (fun e => by have := (ho2.lt _ e).1; omega) (.slice A2 l.length c2));
        clear hx2 hz2 hB2 ho2 hg2 HBX HX HZ HO HS)
    | fail)
  generalize World.setCell w2 _ _ = w3 at hx3 hz3 hB3 ho3 ⊢
  clear d3 d4 f3
  have hb3 := Bytes.below hb hB3.out
  refine (copyBytes_any B _ d m rfl hm w3 hb3).mono ?_
  rintro e w4 ⟨v4, sp4, rfl, ho4, hbx⟩
  have hx4 := hx3.out.below hbx hx3.out.lt
  have hz4 := hz3.out.below hbx hz3.out.lt
  have hB4 := hB3.out.trans (hbx.mono hB3.out.size)
  have hr4 := Own.ownBelow ho3.out hbx
  have hlt4 : w.heap.size + 1 < w3.heap.size := hz3.out.lt
  clear hbx hx3 hz3 hB3 ho3 hb3
  obtain ⟨B4, c4, rfl, _, _, _⟩ := OwnB.open_ ho4
  have d4 : w4.cell? ⟨w.heap.size, 4, none⟩ = some (.slice B m.length d) := hx4.at_ 4 rfl
  have f4 := hx4.frozen 4
  have hx5 := Lib.hid ((hx4.set_ 4 (.slice B4 m.length c4)).sub (show _ = #[.int .i64 k, .int .i64 a, .int .i64 s, .slice A2 l.length c2, .slice B4 m.length c4] by rfl))
  have hz5 := Lib.hid (hz4.off (c := w.heap.size) (i := 4) (by omega) (.slice B4 m.length c4))
  have hB5 := Lib.hid (hB4.set_ (c := w.heap.size) (i := 4) (Nat.le_refl _) (.slice B4 m.length c4))
  have hr5 := Lib.hid (hr4.off (c := w.heap.size) (i := 4) (fun e => by have := (hr4.lt _ e).1; omega) (.slice B4 m.length c4))
  have ho5 := Lib.hid (Own.off ho4 (c := w.heap.size) (i := 4) (fun e => by have := (Own.lt ho4 _ e).1; omega) (.slice B4 m.length c4))
  clear hx4 hz4 hB4 hr4 ho4
  go_wp2_with (first
    | (show wpList _ _ _ ((⟨some 12, _, _, _, _, _⟩ : Oper) :: _) _ _; generalize World.setCell w4 _ _ = w5 at hx5 hz5 hB5 hr5 ho5 ⊢; clear d4 f4; (show wpList _ _ _ ((⟨some 12, _, _, _, _, _⟩ : Oper) :: _) _ _; refine wpList_load_blk (o := ⟨some 12, _, _, _, _, _⟩) (hx5.out) (by rfl) _ _ (by rfl) (by rfl) _ Try.underlying45 (by rfl) (sizeGB) (by rfl) ?_))
    | (show wpList _ _ _ ((⟨none, _, _, _, _, _⟩ : Oper) :: _) _ _; refine wpList_store_blk (o := ⟨none, _, _, _, _, _⟩) (hz5.out) (by rfl) _ _ _ (by rfl) (by rfl) (#[.int .i64 k, .int .i64 a, .int .i64 s, .slice A2 l.length c2, .slice B4 m.length c4]) (by rfl) (sizeGB) (by rfl) (by rfl) (by simp [Value.oneCell']) ?_; intro w6 hy hu)
    | fail)
  have hr6 : Own 42 2 w6 (w.heap.size + 1 + 1) (.slice A2 l.length c2) l.length (refCells l) sp2 := by
    rcases hr5.out with h | ⟨g, cap, hv, hb, hg, rest⟩
    · exact .inl h
    · exact .inr ⟨g, cap, hv, hb, hg.upd hu (by omega), rest⟩
  have ho6 : OwnB 5 w6 w3.heap.size (.slice B4 m.length c4) m sp4 := by
    rcases ho5.out with h | ⟨g, cap, hv, hb, hg, rest⟩
    · exact .inl h
    · exact .inr ⟨g, cap, hv, hb, hg.upd hu (by omega), rest⟩
  have hB6 := hB5.out.upd hu (by omega)
  refine bodyPost_ret (results_cell_row (by rfl) _ _ (w.heap.size + 1) _ _ _ _ (by rfl) hy Try.underlying45 (by rfl) sizeGB) rfl ⟨A2, c2, B4, c4, rfl, ?_, ?_, hB6⟩
  · obtain ⟨_, _, e6, _, _, hrd, _⟩ := Own.reads hr6
    cases e6
    exact Refs.of hrd
  · obtain ⟨_, _, e6, _, _, hrd⟩ := OwnB.open_ ho6
    cases e6
    exact hrd
end Go.Proofs.Ytfpcldnefpmgcaa
