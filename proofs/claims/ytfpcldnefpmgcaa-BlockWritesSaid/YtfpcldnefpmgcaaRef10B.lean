/- The document's Check of a block, as a call. Conditions: the refs can be read. -/
import Derived.Test.YtfpcldnefpmgcaaRef10
namespace Go.Proofs.Ytfpcldnefpmgcaa
open Go.RowKit
/-- Ahead of each ref that is looked at. -/
def OkRel (w : World) (ok : Bool) (A : Option Addr) (l : List RefT) (c : Nat) (k ra rs : Int) (B : Option Addr) (body : List UInt8) (d : Nat) (v3 v4 : Value) (wr : World) : Prop :=
  ∃ i : Nat, i ≤ l.length ∧ v3 = .bool (ok && (l.take i).all refOk) ∧ v4 = .int .i64 (i : Int) ∧ Blk wr w.heap.size 45 #[.int .i64 k, .int .i64 ra, .int .i64 rs, .slice A l.length c, .slice B body.length d] ∧ Below w.heap.size w wr
set_option maxHeartbeats 2000000 in
theorem rcheck_any (k ra rs : Int) (A B : Option Addr) (c d : Nat) (l : List RefT) (body : List UInt8) (hl : l.length ≤ 1000) (hb : body.length ≤ 5000) (w : World) (hr : Refs w A l) :
    Calls Try.prog 33 #[.agg #[.int .i64 k, .int .i64 ra, .int .i64 rs, .slice A l.length c, .slice B body.length d]] w fun e w' => e = .returned (.int .i64 (GB.code (k, (ra, rs, ()), l, body, ()))) ∧ Below w.heap.size w w' := by
  have hB0 : Below w.heap.size w (w.alloc (.cells #[.int .i64 k, .int .i64 ra, .int .i64 rs, .slice A l.length c, .slice B body.length d] 45)) := (Below.refl _ _).alloc (Nat.le_refl _) _
  have hg := Blk.new w 45 #[.int .i64 k, .int .i64 ra, .int .i64 rs, .slice A l.length c, .slice B body.length d]
  have hr0 := Refs.below hr hB0
  by_cases h1 : k < 1
  · have hok : Hid (GB.ok (k, (ra, rs, ()), l, body, ()) = (false && l.all refOk)) := Lib.hid (by unfold GB.ok; simp; omega)
    go_enter Try.func33, Try.ntmps33
    go_wp2_with fail
    go_loopw [3, 4] (fun v3 v4 wr => OkRel w false A l c k ra rs B body d v3 v4 wr) (fun _ v _ => l.length - (intOf v).toNat)
    case atStart => exact ⟨0, by omega, by first | rfl | (simp; omega), by simp, hg, hB0⟩
    case round =>
      clear hg hr0 hB0
      obtain ⟨i, hi, rfl, rfl, hg, hBr⟩ := hrel
      have d2 : wr.cell? ⟨w.heap.size, 3, none⟩ = some (.slice A l.length c) := hg.at_ 3 (by simp)
      obtain ⟨b, hb0⟩ : ∃ b : Bool, b = (false && (l.take i).all refOk) := ⟨_, rfl⟩
      rw [← hb0]
      have HB := Lib.hid hb0
      clear hb0
      by_cases hlt : i < l.length
      · have hrr := Refs.below hr hBr
        obtain ⟨rb, off, rfl, hbl, hcells⟩ := hrr (by omega)
        obtain ⟨d1, d3⟩ := hcells i hlt
        have hR := Lib.hid (show l[i] = (l[i].1, l[i].2.1, ()) from rfl)
        have HN := Lib.hid (show (l.take (i + 1)).all refOk = ((l.take i).all refOk && refOk l[i]) by
          rw [List.take_succ_eq_append_getElem hlt, List.all_append]; simp)
        generalize hx : l[i].1 = x at d1 hR
        generalize hy : l[i].2.1 = y at d3 hR
        clear hx hy hcells hrr
        cases b with
        | false =>
          have HF : Hid ((false && (l.take (i + 1)).all refOk) = false) := Lib.hid (by rw [HN.out, ← Bool.and_assoc, ← HB.out]; rfl)
          clear HB HN hR d1 d3
          go_wp2
          go_roundw
          case rel => exact ⟨i + 1, by omega, by rw [HF.out], by go_num, hg, hBr⟩
          case measure => simp [intOf]; omega
        | true =>
          have HF : Hid ((false && (l.take (i + 1)).all refOk) = refOk (x, y, ())) := Lib.hid (by rw [HN.out, ← Bool.and_assoc, ← HB.out, hR.out]; rfl)
          clear HB HN hR
          go_wp2_with (first
            | (show wpList _ _ _ ((⟨some 43, _, _, _, _, _⟩ : Oper) :: _) _ _; refine wpList_want (by rfl) ?_; refine wpList_load_mid (o := ⟨some 43, _, _, _, _, _⟩) (range2 (b := rb) (off := off + i * 2) (u := .int .i64 x) (v := .int .i64 y) (d1) (d3)) (by rfl) _ _ (by rfl) (by rfl) _ Try.underlying42 (by rfl) size_ref (by rfl) ?_)
            | fail)
          refine (named_any x y wr).mono ?_
          rintro e w5 ⟨rfl, hbx⟩
          clear d1 d3 d2
          (replace hg := keep hbx hg; replace hBr := hBr.trans (hbx.mono hBr.size); clear hbx hbl)
          rw [← HF.out]
          go_wp2
          go_roundw
          case rel => exact ⟨i + 1, by omega, rfl, by go_num, hg, hBr⟩
          case measure => simp [intOf]; omega
      · obtain rfl : i = l.length := by omega
        have HOK := Lib.hid (show GB.ok (k, (ra, rs, ()), l, body, ()) = b by rw [HB.out, List.take_length]; exact hok.out)
        clear hr HB
        cases b with
        | false =>
          go_wp2
          go_ret
          exact ⟨ret_int (GB.code_no HOK.out).symm, hBr⟩
        | true =>
          go_wp2
          go_ret
          exact ⟨ret_int (GB.code_ok HOK.out).symm, hBr⟩
  by_cases h2 : 15 < k
  · have hok : Hid (GB.ok (k, (ra, rs, ()), l, body, ()) = (false && l.all refOk)) := Lib.hid (by unfold GB.ok; simp; omega)
    go_enter Try.func33, Try.ntmps33
    go_wp2_with fail
    go_loopw [3, 4] (fun v3 v4 wr => OkRel w false A l c k ra rs B body d v3 v4 wr) (fun _ v _ => l.length - (intOf v).toNat)
    case atStart => exact ⟨0, by omega, by first | rfl | (simp; omega), by simp, hg, hB0⟩
    case round =>
      clear hg hr0 hB0
      obtain ⟨i, hi, rfl, rfl, hg, hBr⟩ := hrel
      have d2 : wr.cell? ⟨w.heap.size, 3, none⟩ = some (.slice A l.length c) := hg.at_ 3 (by simp)
      obtain ⟨b, hb0⟩ : ∃ b : Bool, b = (false && (l.take i).all refOk) := ⟨_, rfl⟩
      rw [← hb0]
      have HB := Lib.hid hb0
      clear hb0
      by_cases hlt : i < l.length
      · have hrr := Refs.below hr hBr
        obtain ⟨rb, off, rfl, hbl, hcells⟩ := hrr (by omega)
        obtain ⟨d1, d3⟩ := hcells i hlt
        have hR := Lib.hid (show l[i] = (l[i].1, l[i].2.1, ()) from rfl)
        have HN := Lib.hid (show (l.take (i + 1)).all refOk = ((l.take i).all refOk && refOk l[i]) by
          rw [List.take_succ_eq_append_getElem hlt, List.all_append]; simp)
        generalize hx : l[i].1 = x at d1 hR
        generalize hy : l[i].2.1 = y at d3 hR
        clear hx hy hcells hrr
        cases b with
        | false =>
          have HF : Hid ((false && (l.take (i + 1)).all refOk) = false) := Lib.hid (by rw [HN.out, ← Bool.and_assoc, ← HB.out]; rfl)
          clear HB HN hR d1 d3
          go_wp2
          go_roundw
          case rel => exact ⟨i + 1, by omega, by rw [HF.out], by go_num, hg, hBr⟩
          case measure => simp [intOf]; omega
        | true =>
          have HF : Hid ((false && (l.take (i + 1)).all refOk) = refOk (x, y, ())) := Lib.hid (by rw [HN.out, ← Bool.and_assoc, ← HB.out, hR.out]; rfl)
          clear HB HN hR
          go_wp2_with (first
            | (show wpList _ _ _ ((⟨some 43, _, _, _, _, _⟩ : Oper) :: _) _ _; refine wpList_want (by rfl) ?_; refine wpList_load_mid (o := ⟨some 43, _, _, _, _, _⟩) (range2 (b := rb) (off := off + i * 2) (u := .int .i64 x) (v := .int .i64 y) (d1) (d3)) (by rfl) _ _ (by rfl) (by rfl) _ Try.underlying42 (by rfl) size_ref (by rfl) ?_)
            | fail)
          refine (named_any x y wr).mono ?_
          rintro e w5 ⟨rfl, hbx⟩
          clear d1 d3 d2
          (replace hg := keep hbx hg; replace hBr := hBr.trans (hbx.mono hBr.size); clear hbx hbl)
          rw [← HF.out]
          go_wp2
          go_roundw
          case rel => exact ⟨i + 1, by omega, rfl, by go_num, hg, hBr⟩
          case measure => simp [intOf]; omega
      · obtain rfl : i = l.length := by omega
        have HOK := Lib.hid (show GB.ok (k, (ra, rs, ()), l, body, ()) = b by rw [HB.out, List.take_length]; exact hok.out)
        clear hr HB
        cases b with
        | false =>
          go_wp2
          go_ret
          exact ⟨ret_int (GB.code_no HOK.out).symm, hBr⟩
        | true =>
          go_wp2
          go_ret
          exact ⟨ret_int (GB.code_ok HOK.out).symm, hBr⟩
  go_enter Try.func33, Try.ntmps33
  go_wp2_with (first | (show wpList _ _ _ ((⟨some 15, _, _, _, _, _⟩ : Oper) :: _) _ _; refine wpList_want (by rfl) ?_; refine wpList_load_mid (o := ⟨some 15, _, _, _, _, _⟩) (range2 (b := w.heap.size) (off := 1) (u := .int .i64 ra) (v := .int .i64 rs) (hg.at_ 1 rfl) (hg.at_ 2 rfl)) (by rfl) _ _ (by rfl) (by rfl) _ Try.underlying42 (by rfl) size_ref (by rfl) ?_) | fail)
  refine (named_any ra rs _).mono ?_
  rintro e w2 ⟨rfl, hbx⟩
  (replace hr0 := keep hbx hr0; replace hg := keep hbx hg; replace hB0 := hB0.trans (hbx.mono hB0.size); clear hbx)
  have d2 := hg.cell 2
  have d3 : w2.cell? ⟨w.heap.size, 3, none⟩ = some (.slice A l.length c) := hg.at_ 3 (by simp)
  have d4 : w2.cell? ⟨w.heap.size, 4, none⟩ = some (.slice B body.length d) := hg.at_ 4 (by simp)
  cases hplace : refOk (ra, rs, ())
  · have hok : Hid (GB.ok (k, (ra, rs, ()), l, body, ()) = (false && l.all refOk)) := Lib.hid (by unfold GB.ok; simp [hplace])
    clear hplace
    go_wp2_with fail
    go_loopw [3, 4] (fun v3 v4 wr => OkRel w false A l c k ra rs B body d v3 v4 wr) (fun _ v _ => l.length - (intOf v).toNat)
    case atStart => exact ⟨0, by omega, by first | rfl | (simp; omega), by simp, hg, hB0⟩
    case round =>
      clear hg hr0 hB0
      obtain ⟨i, hi, rfl, rfl, hg, hBr⟩ := hrel
      have d2 : wr.cell? ⟨w.heap.size, 3, none⟩ = some (.slice A l.length c) := hg.at_ 3 (by simp)
      obtain ⟨b, hb0⟩ : ∃ b : Bool, b = (false && (l.take i).all refOk) := ⟨_, rfl⟩
      rw [← hb0]
      have HB := Lib.hid hb0
      clear hb0
      by_cases hlt : i < l.length
      · have hrr := Refs.below hr hBr
        obtain ⟨rb, off, rfl, hbl, hcells⟩ := hrr (by omega)
        obtain ⟨d1, d3⟩ := hcells i hlt
        have hR := Lib.hid (show l[i] = (l[i].1, l[i].2.1, ()) from rfl)
        have HN := Lib.hid (show (l.take (i + 1)).all refOk = ((l.take i).all refOk && refOk l[i]) by
          rw [List.take_succ_eq_append_getElem hlt, List.all_append]; simp)
        generalize hx : l[i].1 = x at d1 hR
        generalize hy : l[i].2.1 = y at d3 hR
        clear hx hy hcells hrr
        cases b with
        | false =>
          have HF : Hid ((false && (l.take (i + 1)).all refOk) = false) := Lib.hid (by rw [HN.out, ← Bool.and_assoc, ← HB.out]; rfl)
          clear HB HN hR d1 d3
          go_wp2
          go_roundw
          case rel => exact ⟨i + 1, by omega, by rw [HF.out], by go_num, hg, hBr⟩
          case measure => simp [intOf]; omega
        | true =>
          have HF : Hid ((false && (l.take (i + 1)).all refOk) = refOk (x, y, ())) := Lib.hid (by rw [HN.out, ← Bool.and_assoc, ← HB.out, hR.out]; rfl)
          clear HB HN hR
          go_wp2_with (first
            | (show wpList _ _ _ ((⟨some 43, _, _, _, _, _⟩ : Oper) :: _) _ _; refine wpList_want (by rfl) ?_; refine wpList_load_mid (o := ⟨some 43, _, _, _, _, _⟩) (range2 (b := rb) (off := off + i * 2) (u := .int .i64 x) (v := .int .i64 y) (d1) (d3)) (by rfl) _ _ (by rfl) (by rfl) _ Try.underlying42 (by rfl) size_ref (by rfl) ?_)
            | fail)
          refine (named_any x y wr).mono ?_
          rintro e w5 ⟨rfl, hbx⟩
          clear d1 d3 d2
          (replace hg := keep hbx hg; replace hBr := hBr.trans (hbx.mono hBr.size); clear hbx hbl)
          rw [← HF.out]
          go_wp2
          go_roundw
          case rel => exact ⟨i + 1, by omega, rfl, by go_num, hg, hBr⟩
          case measure => simp [intOf]; omega
      · obtain rfl : i = l.length := by omega
        have HOK := Lib.hid (show GB.ok (k, (ra, rs, ()), l, body, ()) = b by rw [HB.out, List.take_length]; exact hok.out)
        clear hr HB
        cases b with
        | false =>
          go_wp2
          go_ret
          exact ⟨ret_int (GB.code_no HOK.out).symm, hBr⟩
        | true =>
          go_wp2
          go_ret
          exact ⟨ret_int (GB.code_ok HOK.out).symm, hBr⟩
  by_cases h3 : 16 < l.length
  · have hok : Hid (GB.ok (k, (ra, rs, ()), l, body, ()) = (false && l.all refOk)) := Lib.hid (by unfold GB.ok; simp; omega)
    clear hplace
    go_wp2_with fail
    go_loopw [3, 4] (fun v3 v4 wr => OkRel w false A l c k ra rs B body d v3 v4 wr) (fun _ v _ => l.length - (intOf v).toNat)
    case atStart => exact ⟨0, by omega, by first | rfl | (simp; omega), by simp, hg, hB0⟩
    case round =>
      clear hg hr0 hB0
      obtain ⟨i, hi, rfl, rfl, hg, hBr⟩ := hrel
      have d2 : wr.cell? ⟨w.heap.size, 3, none⟩ = some (.slice A l.length c) := hg.at_ 3 (by simp)
      obtain ⟨b, hb0⟩ : ∃ b : Bool, b = (false && (l.take i).all refOk) := ⟨_, rfl⟩
      rw [← hb0]
      have HB := Lib.hid hb0
      clear hb0
      by_cases hlt : i < l.length
      · have hrr := Refs.below hr hBr
        obtain ⟨rb, off, rfl, hbl, hcells⟩ := hrr (by omega)
        obtain ⟨d1, d3⟩ := hcells i hlt
        have hR := Lib.hid (show l[i] = (l[i].1, l[i].2.1, ()) from rfl)
        have HN := Lib.hid (show (l.take (i + 1)).all refOk = ((l.take i).all refOk && refOk l[i]) by
          rw [List.take_succ_eq_append_getElem hlt, List.all_append]; simp)
        generalize hx : l[i].1 = x at d1 hR
        generalize hy : l[i].2.1 = y at d3 hR
        clear hx hy hcells hrr
        cases b with
        | false =>
          have HF : Hid ((false && (l.take (i + 1)).all refOk) = false) := Lib.hid (by rw [HN.out, ← Bool.and_assoc, ← HB.out]; rfl)
          clear HB HN hR d1 d3
          go_wp2
          go_roundw
          case rel => exact ⟨i + 1, by omega, by rw [HF.out], by go_num, hg, hBr⟩
          case measure => simp [intOf]; omega
        | true =>
          have HF : Hid ((false && (l.take (i + 1)).all refOk) = refOk (x, y, ())) := Lib.hid (by rw [HN.out, ← Bool.and_assoc, ← HB.out, hR.out]; rfl)
          clear HB HN hR
          go_wp2_with (first
            | (show wpList _ _ _ ((⟨some 43, _, _, _, _, _⟩ : Oper) :: _) _ _; refine wpList_want (by rfl) ?_; refine wpList_load_mid (o := ⟨some 43, _, _, _, _, _⟩) (range2 (b := rb) (off := off + i * 2) (u := .int .i64 x) (v := .int .i64 y) (d1) (d3)) (by rfl) _ _ (by rfl) (by rfl) _ Try.underlying42 (by rfl) size_ref (by rfl) ?_)
            | fail)
          refine (named_any x y wr).mono ?_
          rintro e w5 ⟨rfl, hbx⟩
          clear d1 d3 d2
          (replace hg := keep hbx hg; replace hBr := hBr.trans (hbx.mono hBr.size); clear hbx hbl)
          rw [← HF.out]
          go_wp2
          go_roundw
          case rel => exact ⟨i + 1, by omega, rfl, by go_num, hg, hBr⟩
          case measure => simp [intOf]; omega
      · obtain rfl : i = l.length := by omega
        have HOK := Lib.hid (show GB.ok (k, (ra, rs, ()), l, body, ()) = b by rw [HB.out, List.take_length]; exact hok.out)
        clear hr HB
        cases b with
        | false =>
          go_wp2
          go_ret
          exact ⟨ret_int (GB.code_no HOK.out).symm, hBr⟩
        | true =>
          go_wp2
          go_ret
          exact ⟨ret_int (GB.code_ok HOK.out).symm, hBr⟩
  by_cases h4 : 860 < body.length
  · have hok : Hid (GB.ok (k, (ra, rs, ()), l, body, ()) = (false && l.all refOk)) := Lib.hid (by unfold GB.ok; simp; omega)
    clear hplace
    go_wp2_with fail
    go_loopw [3, 4] (fun v3 v4 wr => OkRel w false A l c k ra rs B body d v3 v4 wr) (fun _ v _ => l.length - (intOf v).toNat)
    case atStart => exact ⟨0, by omega, by first | rfl | (simp; omega), by simp, hg, hB0⟩
    case round =>
      clear hg hr0 hB0
      obtain ⟨i, hi, rfl, rfl, hg, hBr⟩ := hrel
      have d2 : wr.cell? ⟨w.heap.size, 3, none⟩ = some (.slice A l.length c) := hg.at_ 3 (by simp)
      obtain ⟨b, hb0⟩ : ∃ b : Bool, b = (false && (l.take i).all refOk) := ⟨_, rfl⟩
      rw [← hb0]
      have HB := Lib.hid hb0
      clear hb0
      by_cases hlt : i < l.length
      · have hrr := Refs.below hr hBr
        obtain ⟨rb, off, rfl, hbl, hcells⟩ := hrr (by omega)
        obtain ⟨d1, d3⟩ := hcells i hlt
        have hR := Lib.hid (show l[i] = (l[i].1, l[i].2.1, ()) from rfl)
        have HN := Lib.hid (show (l.take (i + 1)).all refOk = ((l.take i).all refOk && refOk l[i]) by
          rw [List.take_succ_eq_append_getElem hlt, List.all_append]; simp)
        generalize hx : l[i].1 = x at d1 hR
        generalize hy : l[i].2.1 = y at d3 hR
        clear hx hy hcells hrr
        cases b with
        | false =>
          have HF : Hid ((false && (l.take (i + 1)).all refOk) = false) := Lib.hid (by rw [HN.out, ← Bool.and_assoc, ← HB.out]; rfl)
          clear HB HN hR d1 d3
          go_wp2
          go_roundw
          case rel => exact ⟨i + 1, by omega, by rw [HF.out], by go_num, hg, hBr⟩
          case measure => simp [intOf]; omega
        | true =>
          have HF : Hid ((false && (l.take (i + 1)).all refOk) = refOk (x, y, ())) := Lib.hid (by rw [HN.out, ← Bool.and_assoc, ← HB.out, hR.out]; rfl)
          clear HB HN hR
          go_wp2_with (first
            | (show wpList _ _ _ ((⟨some 43, _, _, _, _, _⟩ : Oper) :: _) _ _; refine wpList_want (by rfl) ?_; refine wpList_load_mid (o := ⟨some 43, _, _, _, _, _⟩) (range2 (b := rb) (off := off + i * 2) (u := .int .i64 x) (v := .int .i64 y) (d1) (d3)) (by rfl) _ _ (by rfl) (by rfl) _ Try.underlying42 (by rfl) size_ref (by rfl) ?_)
            | fail)
          refine (named_any x y wr).mono ?_
          rintro e w5 ⟨rfl, hbx⟩
          clear d1 d3 d2
          (replace hg := keep hbx hg; replace hBr := hBr.trans (hbx.mono hBr.size); clear hbx hbl)
          rw [← HF.out]
          go_wp2
          go_roundw
          case rel => exact ⟨i + 1, by omega, rfl, by go_num, hg, hBr⟩
          case measure => simp [intOf]; omega
      · obtain rfl : i = l.length := by omega
        have HOK := Lib.hid (show GB.ok (k, (ra, rs, ()), l, body, ()) = b by rw [HB.out, List.take_length]; exact hok.out)
        clear hr HB
        cases b with
        | false =>
          go_wp2
          go_ret
          exact ⟨ret_int (GB.code_no HOK.out).symm, hBr⟩
        | true =>
          go_wp2
          go_ret
          exact ⟨ret_int (GB.code_ok HOK.out).symm, hBr⟩
  · have hok : Hid (GB.ok (k, (ra, rs, ()), l, body, ()) = (true && l.all refOk)) := Lib.hid (by unfold GB.ok; simp [hplace]; omega)
    clear hplace
    go_wp2_with fail
    go_loopw [3, 4] (fun v3 v4 wr => OkRel w true A l c k ra rs B body d v3 v4 wr) (fun _ v _ => l.length - (intOf v).toNat)
    case atStart => exact ⟨0, by omega, by first | rfl | (simp; omega), by simp, hg, hB0⟩
    case round =>
      clear hg hr0 hB0
      obtain ⟨i, hi, rfl, rfl, hg, hBr⟩ := hrel
      have d2 : wr.cell? ⟨w.heap.size, 3, none⟩ = some (.slice A l.length c) := hg.at_ 3 (by simp)
      obtain ⟨b, hb0⟩ : ∃ b : Bool, b = (true && (l.take i).all refOk) := ⟨_, rfl⟩
      rw [← hb0]
      have HB := Lib.hid hb0
      clear hb0
      by_cases hlt : i < l.length
      · have hrr := Refs.below hr hBr
        obtain ⟨rb, off, rfl, hbl, hcells⟩ := hrr (by omega)
        obtain ⟨d1, d3⟩ := hcells i hlt
        have hR := Lib.hid (show l[i] = (l[i].1, l[i].2.1, ()) from rfl)
        have HN := Lib.hid (show (l.take (i + 1)).all refOk = ((l.take i).all refOk && refOk l[i]) by
          rw [List.take_succ_eq_append_getElem hlt, List.all_append]; simp)
        generalize hx : l[i].1 = x at d1 hR
        generalize hy : l[i].2.1 = y at d3 hR
        clear hx hy hcells hrr
        cases b with
        | false =>
          have HF : Hid ((true && (l.take (i + 1)).all refOk) = false) := Lib.hid (by rw [HN.out, ← Bool.and_assoc, ← HB.out]; rfl)
          clear HB HN hR d1 d3
          go_wp2
          go_roundw
          case rel => exact ⟨i + 1, by omega, by rw [HF.out], by go_num, hg, hBr⟩
          case measure => simp [intOf]; omega
        | true =>
          have HF : Hid ((true && (l.take (i + 1)).all refOk) = refOk (x, y, ())) := Lib.hid (by rw [HN.out, ← Bool.and_assoc, ← HB.out, hR.out]; rfl)
          clear HB HN hR
          go_wp2_with (first
            | (show wpList _ _ _ ((⟨some 43, _, _, _, _, _⟩ : Oper) :: _) _ _; refine wpList_want (by rfl) ?_; refine wpList_load_mid (o := ⟨some 43, _, _, _, _, _⟩) (range2 (b := rb) (off := off + i * 2) (u := .int .i64 x) (v := .int .i64 y) (d1) (d3)) (by rfl) _ _ (by rfl) (by rfl) _ Try.underlying42 (by rfl) size_ref (by rfl) ?_)
            | fail)
          refine (named_any x y wr).mono ?_
          rintro e w5 ⟨rfl, hbx⟩
          clear d1 d3 d2
          (replace hg := keep hbx hg; replace hBr := hBr.trans (hbx.mono hBr.size); clear hbx hbl)
          rw [← HF.out]
          go_wp2
          go_roundw
          case rel => exact ⟨i + 1, by omega, rfl, by go_num, hg, hBr⟩
          case measure => simp [intOf]; omega
      · obtain rfl : i = l.length := by omega
        have HOK := Lib.hid (show GB.ok (k, (ra, rs, ()), l, body, ()) = b by rw [HB.out, List.take_length]; exact hok.out)
        clear hr HB
        cases b with
        | false =>
          go_wp2
          go_ret
          exact ⟨ret_int (GB.code_no HOK.out).symm, hBr⟩
        | true =>
          go_wp2
          go_ret
          exact ⟨ret_int (GB.code_ok HOK.out).symm, hBr⟩
end Go.Proofs.Ytfpcldnefpmgcaa
