/- The chapter's examples of blocks, as the closed statement asks: it answers true, and writes nothing that was there. No condition. -/
import Derived.Test.YtfpcldnefpmgcaaWake10
namespace Go
open Go.RowKit
/-- make([]T, n): the elements' noughts. -/
theorem wpList_make_zero {P : Program} (w : World) {ops : Array Oper} {rest : List Oper} {o : Oper} {a : Act} {Q : Exit → Act → World → Prop}
    (hg : o.guard = none) (l c : Operand) (t : TypeId) (hop : o.op = Op.makeSlice t l c) (e : TypeId) (z : Value) (size bytes : Nat) (h1 : P.underlying t = some (.slice e)) (h2 : (P.info? e).map (fun i => (i.zero, i.size, i.bytes)) = some (some z, size, bytes))
    (kl kc : IntKind) (n m : Nat) (hl : a.eval l = .int kl n) (hc : a.eval c = .int kc m) (hnm : n ≤ m) (hm : m ≤ 140737488400000) (hm2 : bytes * m ≤ 140737488400000) (cs : Array Value) (hcs : madeCells z.cells (m * size) = cs)
    (hK : ∀ w', Blk w' w.heap.size e cs → Below w.heap.size w w' → w'.heap.size = w.heap.size + 1 → wpList P ops Q rest (a.put o.dst (.slice (some ⟨w.heap.size, 0, none⟩) n m)) w') :
    wpList P ops Q (o :: rest) a w := by
  obtain ⟨i, hi, hzz⟩ := Option.map_eq_some_iff.1 h2
  simp only [Prod.mk.injEq] at hzz
  obtain ⟨hz, hs, hb⟩ := hzz
  have hr := run_make (P := P) w t e i _ h1 hi hz kl kc n m (by omega) (by omega) (by rw [hb]; omega) (by omega)
  rw [Int.toNat_natCast, Int.toNat_natCast, hs, hcs] at hr
  refine wpList_plain hg fun K hK' => ?_
  unfold Oper.wp
  simp only [execOp, hop, hl, hc, hr, Sem.run_bind, Result.andThen_ok, Sem.run_pure]
  exact hK' _ _ (hK _ (Blk.new w e _) ((Below.refl _ _).alloc (Nat.le_refl _) _) (by simp))
end Go
namespace Go.Proofs.Ytfpcldnefpmgcaa
open Go.RowKit
theorem check_no (k a s : Int) (A B : Option Addr) (n c m d : Nat) (l : List RefT) (body : List UInt8) (hn : n = l.length) (hm : m = body.length) (h1 : l.length ≤ 1000) (h2 : body.length ≤ 5000) (hok : GB.ok (k, (a, s, ()), l, body, ()) = false) (w : World) (hr : Refs w A l) :
    Calls Try.prog 32 #[.agg #[.int .i64 k, .int .i64 a, .int .i64 s, .slice A n c, .slice B m d]] w fun e w' => e = .returned (.int .i64 2) ∧ Below w.heap.size w w' := by
  subst hn hm
  have h := check_any k a s A B c d l body h1 h2 w hr
  rw [GB.code_no hok] at h
  exact h
def zeroRef : RefT := (0, 0, ())
theorem zeroRefs {w : World} {g : Nat} {t : TypeId} {n : Nat} (h : Blk w g t (madeCells (Value.agg #[.int .i64 0, .int .i64 0]).cells (n * 2))) : Refs w (some ⟨g, 0, none⟩) (List.replicate n zeroRef) := fun _ => by
  refine ⟨g, 0, rfl, h.lt, fun i hi => ?_⟩
  rw [List.length_replicate] at hi
  have key : ∀ j, j < n * 2 → (madeCells (Value.agg #[.int .i64 0, .int .i64 0]).cells (n * 2))[j]? = some (.int .i64 0) := fun j hj => by
    unfold madeCells
    rcases (show j % 2 = 0 ∨ j % 2 = 1 by omega) with h2 | h2 <;> simp [Value.cells, hj, h2]
  rw [h.cell, h.cell, List.getElem_replicate]
  exact ⟨key _ (by omega), key _ (by omega)⟩
/-- A list of bytes that is no block is read as none. -/
def NoRead (code : Int) (w : World) (e : Ending) (w' : World) : Prop :=
  ∃ A2 c2 B2 d2, e = .returned (.tuple #[.agg #[.int .i64 0, .int .i64 0, .int .i64 0, .slice A2 0 c2, .slice B2 0 d2], .int .i64 code]) ∧ Below w.heap.size w w'
theorem noRead_any (A : Option Addr) (n c : Nat) (raw : List UInt8) (code : Int) (hn : n = raw.length) (hc : n ≤ c) (hc2 : c ≤ 9223372036854775807) (w : World) (hb : Bytes w A raw) (h : GB.read raw = (code, GB.none_)) :
    Calls Try.prog 36 #[.slice A n c] w (NoRead code w) := by
  refine (read_any A n c raw hn hc hc2 w hb).mono ?_
  rw [h]
  rintro e w' ⟨A2, c2, B2, d2, he, _, _, _, _, _, hB⟩
  exact ⟨A2, c2, B2, d2, he, hB⟩
set_option maxHeartbeats 1000000 in
theorem known10_any (w : World) : Calls Try.prog 10 #[] w fun e w' => e = .returned (.bool true) ∧ Below w.heap.size w w' := by
  have hB := Below.refl w.heap.size w
  go_enter Try.func10, Try.ntmps10
  go_wp2_with fail
  refine (five_any _).mono ?_
  rintro e w1 ⟨gA, gB, rfl, hr1, hb1, hga, hgb, hbx⟩
  (replace hB := hB.trans (hbx.mono hB.size); clear hbx)
  have hs1 := hB.size
  go_wp2_with fail
  refine (fiveBytes_any gA gB _ hr1 hb1).mono ?_
  rintro e w2 ⟨g, rfl, hg2, hx, hbx⟩
  (replace hB := hB.trans (hbx.mono hB.size); clear hbx)
  have hge : w.heap.size ≤ g := by omega
  clear hr1 hb1 hga hgb hg2 hs1
  go_wp2_with fail
  refine (awake10_any _).mono ?_
  rintro e w3 ⟨rfl, hbx⟩
  (replace hx := keep hbx hx; replace hB := hB.trans (hbx.mono hB.size); clear hbx)
  go_wp2_with fail
  refine (noRead_any (some ⟨g, 0, none⟩) 1023 1024 (fiveBytes.take 1023) 4 (by rw [List.length_take, fiveBytes_length]; rfl) (by omega) (by omega) _ (hx.bytes.take 1023) five_short).mono ?_
  rintro e w4 ⟨A4, c4, B4, d4, rfl, hbx⟩
  (replace hx := keep hbx hx; replace hB := hB.trans (hbx.mono hB.size); clear hbx)
  have hx4 := hx.alloc (.cells #[.int .i64 0, .int .i64 0, .int .i64 0, .slice A4 0 c4, .slice B4 0 d4] 45)
  have hB4 := hB.alloc hB.size (.cells #[.int .i64 0, .int .i64 0, .int .i64 0, .slice A4 0 c4, .slice B4 0 d4] 45)
  have d900 : (w4.alloc (.cells #[.int .i64 0, .int .i64 0, .int .i64 0, .slice A4 0 c4, .slice B4 0 d4] 45)).cell? ⟨g, 900, none⟩ = some (.int .u8 0) := hx4.at_ 900 (five_cell 900 0 five_at.2.2.2.2.2.2.2)
  have f900 := hx4.frozen 900
  have hx5 := (hx4.set_ 900 (.int .u8 1)).sub (show _ = ((fiveBytes.set 900 1).map u8v).toArray by simp [List.map_set, u8v]; rfl)
  have hB5 := hB4.set_ (c := g) (i := 900) hge (.int .u8 1)
  have hxor : bits BinOp.xor IntKind.u8 0 1 = 1 := by rfl
  clear hx hB hx4 hB4
  go_wp2_with fail
  generalize (w4.alloc (.cells #[.int .i64 0, .int .i64 0, .int .i64 0, .slice A4 0 c4, .slice B4 0 d4] 45)).setCell ⟨g, 900, none⟩ (.int .u8 1) = w5 at hx5 hB5 ⊢
  clear d900 f900
  go_wp2_with fail
  refine (noRead_any (some ⟨g, 0, none⟩) 1024 1024 (fiveBytes.set 900 1) 12 (by rw [List.length_set, fiveBytes_length]) (by omega) (by omega) _ hx5.bytes five_turned).mono ?_
  rintro e w6 ⟨A6, c6, B6, d6, rfl, hbx⟩
  (replace hB5 := hB5.trans (hbx.mono hB5.size); clear hbx)
  clear hx5 hxor
  have hbx0 := (Below.refl w6.heap.size w6).alloc (Nat.le_refl _) (.cells #[.int .i64 0, .int .i64 0, .int .i64 0, .slice A6 0 c6, .slice B6 0 d6] 45)
  replace hB5 := hB5.trans (hbx0.mono hB5.size)
  clear hbx0
  go_wp2_with fail
  refine (five_any _).mono ?_
  rintro e w7 ⟨gA7, gB7, rfl, hr7, hb7, _, _, hbx⟩
  (replace hB5 := hB5.trans (hbx.mono hB5.size); clear hbx)
  go_wp2_with fail
  refine (five_any _).mono ?_
  rintro e w8 ⟨gA8, gB8, rfl, hr8, hb8, _, _, hbx⟩
  (replace hr7 := keep hbx hr7; replace hb7 := keep hbx hb7; replace hB5 := hB5.trans (hbx.mono hB5.size); clear hbx)
  go_wp2_with fail
  refine (five_any _).mono ?_
  rintro e w9 ⟨gA9, gB9, rfl, hr9, hb9, _, _, hbx⟩
  (replace hr7 := keep hbx hr7; replace hb7 := keep hbx hb7; replace hr8 := keep hbx hr8; replace hb8 := keep hbx hb8; replace hB5 := hB5.trans (hbx.mono hB5.size); clear hbx)
  go_wp2_with fail
  refine (five_any _).mono ?_
  rintro e w10 ⟨gA0, gB0, rfl, hr0, hb0, _, _, hbx⟩
  (replace hr7 := keep hbx hr7; replace hb7 := keep hbx hb7; replace hr8 := keep hbx hr8; replace hb8 := keep hbx hb8; replace hr9 := keep hbx hr9; replace hb9 := keep hbx hb9; replace hB5 := hB5.trans (hbx.mono hB5.size); clear hbx)
  obtain ⟨C7, e7⟩ : ∃ C : Array Value, C = #[.int .i64 0, .int .i64 5, .int .i64 7, .slice (some ⟨gA7, 0, none⟩) 1 1, .slice (some ⟨gB7, 0, none⟩) 2 2] := ⟨_, rfl⟩
  obtain ⟨C8, e8⟩ : ∃ C : Array Value, C = #[.int .i64 1, .int .i64 0, .int .i64 7, .slice (some ⟨gA8, 0, none⟩) 1 1, .slice (some ⟨gB8, 0, none⟩) 2 2] := ⟨_, rfl⟩
  obtain ⟨C9, e9⟩ : ∃ C : Array Value, C = #[.int .i64 1, .int .i64 5, .int .i64 7, .slice (some ⟨gA9, 0, none⟩) 1 1, .slice (some ⟨gB9, 0, none⟩) 2 2] := ⟨_, rfl⟩
  obtain ⟨C0, e0⟩ : ∃ C : Array Value, C = #[.int .i64 1, .int .i64 5, .int .i64 7, .slice (some ⟨gA0, 0, none⟩) 1 1, .slice (some ⟨gB0, 0, none⟩) 2 2] := ⟨_, rfl⟩
  have hbx := ((((Below.refl w10.heap.size w10).alloc (Nat.le_refl _) (.cells C7 45)).alloc (by simp) (.cells C8 45)).alloc (by simp; omega) (.cells C9 45)).alloc (by simp; omega) (.cells C0 45)
  have hy7 := (((Blk.new w10 45 C7).alloc (.cells C8 45)).alloc (.cells C9 45)).alloc (.cells C0 45)
  have hy8 := ((Blk.new' (w10.alloc (.cells C7 45)) 45 C8 (n := w10.heap.size + 1) (by simp)).alloc (.cells C9 45)).alloc (.cells C0 45)
  have hy9 := (Blk.new' ((w10.alloc (.cells C7 45)).alloc (.cells C8 45)) 45 C9 (n := w10.heap.size + 1 + 1) (by simp)).alloc (.cells C0 45)
  have hy0 := Blk.new' (((w10.alloc (.cells C7 45)).alloc (.cells C8 45)).alloc (.cells C9 45)) 45 C0 (n := w10.heap.size + 1 + 1 + 1) (by simp)
  clear hb7 hb8 hb9 hb0
  subst e7 e8 e9 e0
  replace hbx := Lib.hid hbx
  go_wp2_with (first
    | (show wpList _ _ _ ((⟨some 46, _, _, _, _, _⟩ : Oper) :: _) _ _; generalize World.alloc (World.alloc (World.alloc (World.alloc w10 _) _) _) _ = wq at hy7 hy8 hy9 hy0 hbx ⊢; have hq := hbx.out; clear hbx;
        (show wpList _ _ _ ((⟨some 46, _, _, _, _, _⟩ : Oper) :: _) _ _; refine wpList_make_bytes (o := ⟨some 46, _, _, _, _, _⟩) _ (by rfl) _ _ _ (by rfl) _ Try.underlying22 u8info .i64 .i64 _ _ (861) (861) (by rfl) (by rfl) (by first | rfl | omega) (by first | rfl | omega) (by omega) (by omega) ?_; intro w11 h11 hbx hs11; (replace hy7 := keep hbx hy7; replace hy8 := keep hbx hy8; replace hy9 := keep hbx hy9; replace hy0 := keep hbx hy0; replace hq := hq.trans (hbx.mono hq.size)); clear hbx h11 hs11; have d4 : w11.cell? ⟨w10.heap.size + 1 + 1, 4, none⟩ = some (.slice (some ⟨gB9, 0, none⟩) 2 2) := hy9.at_ 4 rfl; have f4 := hy9.frozen 4;
          replace hq := hq.set_ (c := w10.heap.size + 1 + 1) (i := 4) (by omega) (.slice (some ⟨wq.heap.size, 0, none⟩) 861 861); replace hy7 := hy7.off (c := w10.heap.size + 1 + 1) (i := 4) (by omega) (.slice (some ⟨wq.heap.size, 0, none⟩) 861 861); replace hy8 := hy8.off (c := w10.heap.size + 1 + 1) (i := 4) (by omega) (.slice (some ⟨wq.heap.size, 0, none⟩) 861 861); replace hy0 := hy0.off (c := w10.heap.size + 1 + 1) (i := 4) (by omega) (.slice (some ⟨wq.heap.size, 0, none⟩) 861 861);
          replace hy9 := (hy9.set_ 4 (.slice (some ⟨wq.heap.size, 0, none⟩) 861 861)).sub (show _ = #[.int .i64 1, .int .i64 5, .int .i64 7, .slice (some ⟨gA9, 0, none⟩) 1 1, .slice (some ⟨wq.heap.size, 0, none⟩) 861 861] by rfl)))
    | (show wpList _ _ _ ((⟨some 48, _, _, _, _, _⟩ : Oper) :: _) _ _; generalize World.setCell w11 _ _ = w12 at hy7 hy8 hy9 hy0 hq ⊢; clear d4 f4; have hl := hy0.lt;
        refine wpList_make_zero w12 (o := ⟨some 48, _, _, _, _, _⟩) (by rfl) _ _ _ (by rfl) 42 (.agg #[.int .i64 0, .int .i64 0]) 2 16 Try.underlying43 infoRef .i64 .i64 17 17 (by rfl) (by rfl) (by omega) (by omega) (by omega) _ rfl ?_; intro w13 h13 hbx hs13; (replace hy7 := keep hbx hy7; replace hy8 := keep hbx hy8; replace hy9 := keep hbx hy9; replace hy0 := keep hbx hy0; replace hq := hq.trans (hbx.mono hq.size)); clear hbx hs13;
          have d3 : w13.cell? ⟨w10.heap.size + 1 + 1 + 1, 3, none⟩ = some (.slice (some ⟨gA0, 0, none⟩) 1 1) := hy0.at_ 3 rfl; have f3 := hy0.frozen 3;
          have hz := zeroRefs <| h13.off (c := w10.heap.size + 1 + 1 + 1) (i := 3) (by omega) (.slice (some ⟨w12.heap.size, 0, none⟩) 17 17);
          replace hq := hq.set_ (c := w10.heap.size + 1 + 1 + 1) (i := 3) (by omega) (.slice (some ⟨w12.heap.size, 0, none⟩) 17 17); replace hy7 := hy7.off (c := w10.heap.size + 1 + 1 + 1) (i := 3) (by omega) (.slice (some ⟨w12.heap.size, 0, none⟩) 17 17); replace hy8 := hy8.off (c := w10.heap.size + 1 + 1 + 1) (i := 3) (by omega) (.slice (some ⟨w12.heap.size, 0, none⟩) 17 17); replace hy9 := hy9.off (c := w10.heap.size + 1 + 1 + 1) (i := 3) (by omega) (.slice (some ⟨w12.heap.size, 0, none⟩) 17 17);
          replace hy0 := (hy0.set_ 3 (.slice (some ⟨w12.heap.size, 0, none⟩) 17 17)).sub (show _ = #[.int .i64 1, .int .i64 5, .int .i64 7, .slice (some ⟨w12.heap.size, 0, none⟩) 17 17, .slice (some ⟨gB0, 0, none⟩) 2 2] by rfl); clear h13 hl)
    | (show wpList _ _ _ ((⟨some 57, _, _, _, _, _⟩ : Oper) :: _) _ _; generalize World.setCell w13 _ _ = w14 at hy7 hy8 hy9 hy0 hq hz ⊢; clear d3 f3; (show wpList _ _ _ ((⟨some 57, _, _, _, _, _⟩ : Oper) :: _) _ _; refine wpList_want (by rfl) ?_; refine wpList_load_blk (o := ⟨some 57, _, _, _, _, _⟩) (hy7) (by rfl) _ _ (by rfl) (by rfl) _ Try.underlying45 (by rfl) (sizeGB) (by rfl) ?_); clear hy7)
    | fail)
  refine (check_no 0 5 7 (some ⟨gA7, 0, none⟩) (some ⟨gB7, 0, none⟩) 1 1 2 2 [(2, 3, ())] [97, 98] rfl rfl (by simp) (by simp) (by decide +kernel) w14 (hr7.below hq)).mono ?_
  rintro e w15 ⟨rfl, hbx⟩
  (replace hy8 := keep hbx hy8; replace hy9 := keep hbx hy9; replace hy0 := keep hbx hy0; replace hz := keep hbx hz; replace hq := hq.trans (hbx.mono hq.size); clear hbx hr7)
  go_wp2_with (first | (show wpList _ _ _ ((⟨some 62, _, _, _, _, _⟩ : Oper) :: _) _ _; refine wpList_want (by rfl) ?_; refine wpList_load_blk (o := ⟨some 62, _, _, _, _, _⟩) (hy8) (by rfl) _ _ (by rfl) (by rfl) _ Try.underlying45 (by rfl) (sizeGB) (by rfl) ?_) | fail)
  refine (check_no 1 0 7 (some ⟨gA8, 0, none⟩) (some ⟨gB8, 0, none⟩) 1 1 2 2 [(2, 3, ())] [97, 98] rfl rfl (by simp) (by simp) (by decide +kernel) w15 (hr8.below hq)).mono ?_
  rintro e w16 ⟨rfl, hbx⟩
  (replace hy9 := keep hbx hy9; replace hy0 := keep hbx hy0; replace hz := keep hbx hz; replace hq := hq.trans (hbx.mono hq.size); clear hbx hr8 hy8)
  go_wp2_with (first | (show wpList _ _ _ ((⟨some 67, _, _, _, _, _⟩ : Oper) :: _) _ _; refine wpList_want (by rfl) ?_; refine wpList_load_blk (o := ⟨some 67, _, _, _, _, _⟩) (hy9) (by rfl) _ _ (by rfl) (by rfl) _ Try.underlying45 (by rfl) (sizeGB) (by rfl) ?_) | fail)
  refine (check_no 1 5 7 (some ⟨gA9, 0, none⟩) (some ⟨wq.heap.size, 0, none⟩) 1 1 861 861 [(2, 3, ())] (List.replicate 861 0) rfl (by rw [List.length_replicate]) (by simp) (by rw [List.length_replicate]; omega) (by decide +kernel) w16 (hr9.below hq)).mono ?_
  rintro e w17 ⟨rfl, hbx⟩
  (replace hy0 := keep hbx hy0; replace hz := keep hbx hz; replace hq := hq.trans (hbx.mono hq.size); clear hbx hr9 hy9)
  go_wp2_with (first | (show wpList _ _ _ ((⟨some 72, _, _, _, _, _⟩ : Oper) :: _) _ _; refine wpList_want (by rfl) ?_; refine wpList_load_blk (o := ⟨some 72, _, _, _, _, _⟩) (hy0) (by rfl) _ _ (by rfl) (by rfl) _ Try.underlying45 (by rfl) (sizeGB) (by rfl) ?_) | fail)
  refine (check_no 1 5 7 (some ⟨w12.heap.size, 0, none⟩) (some ⟨gB0, 0, none⟩) 17 17 2 2 (List.replicate 17 zeroRef) [97, 98] (by simp) rfl (by simp) (by simp) (by decide +kernel) w17 hz).mono ?_
  rintro e w18 ⟨rfl, hbx⟩
  (replace hq := hq.trans (hbx.mono hq.size); clear hbx hy0 hz)
  have hB := hB5.trans (hq.mono hB5.size)
  clear hq hB5
  go_wp2_with fail
  go_ret
  exact ⟨by simp, hB⟩
end Go.Proofs.Ytfpcldnefpmgcaa
