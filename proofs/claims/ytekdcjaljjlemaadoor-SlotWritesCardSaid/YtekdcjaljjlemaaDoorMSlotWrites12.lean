/- What a slot's header is: what the program tells. Conditions: the bytes can be read; the slot is one. -/
import Derived.Test.YtekdcjaljjlemaaDoorMSlotWrites11
namespace Go.Proofs.YtekdcjaljjlemaaDoor
open Go.RowKit
set_option maxRecDepth 100000 in
set_option maxHeartbeats 4000000 in
theorem shead_any (A : Option Addr) (n c : Nat) (raw : List UInt8) (k : Int) (hk : 0 ≤ k ∧ k < 16) (hn : n = raw.length) (hc : n ≤ c) (hc2 : c ≤ 9223372036854775807) (w : World) (hby : Bytes w A raw) :
    Calls Tryd.prog 34 #[.slice A n c, .int .i64 k] w fun e w' => e = .returned (.tuple #[.agg (hdc (Slot.kind raw k).2), .int .i64 (Slot.kind raw k).1]) ∧ Below w.heap.size w w' := by
  have hg0 := (Blk.new w 26 #[.int .i64 0, .int .i64 0, .int .i64 0, .int .i64 0, .int .i64 0, .int .i64 0, .int .i64 0, .int .i64 0, .int .i64 0, .int .u64 0, .int .u64 0, .int .i64 0, .int .i64 0, .int .u64 0, .int .i64 0, .int .i64 0]).sub zeroHd_cells.symm
  have hB0 := Lib.hid ((Below.refl w.heap.size w).alloc (Nat.le_refl _) (.cells #[.int .i64 0, .int .i64 0, .int .i64 0, .int .i64 0, .int .i64 0, .int .i64 0, .int .i64 0, .int .i64 0, .int .i64 0, .int .u64 0, .int .u64 0, .int .i64 0, .int .i64 0, .int .u64 0, .int .i64 0, .int .i64 0] 26))
  have HNN := Lib.hid (And.intro hn (And.intro hc (And.intro hc2 hk)))
  clear hn hc hc2 hk
  go_enter Tryd.func34, Tryd.ntmps34
  go_wp2_with fail
  generalize hw1 : w.alloc (.cells #[.int .i64 0, .int .i64 0, .int .i64 0, .int .i64 0, .int .i64 0, .int .i64 0, .int .i64 0, .int .i64 0, .int .i64 0, .int .u64 0, .int .u64 0, .int .i64 0, .int .i64 0, .int .u64 0, .int .i64 0, .int .i64 0] 26) = w1 at hg0 hB0 ⊢
  clear hw1
  obtain ⟨g0, hgn⟩ : ∃ g0, g0 = w.heap.size := ⟨_, rfl⟩
  have HGE : Hid (w.heap.size ≤ g0) := Lib.hid (by omega)
  rw [← hgn] at hg0 ⊢
  clear hgn
  have hT := Bytes.below hby hB0.out
  refine (hhead_any A n c raw HNN.out.1 HNN.out.2.1 HNN.out.2.2.1 w1 hT).mono ?_
  rintro e w2 ⟨rfl, hbx⟩
  (replace hg0 := keep hbx hg0)
  have hB2 := Lib.hid (hB0.out.trans (hbx.mono hB0.out.size))
  clear hB0 hbx hT
  have h2 := (Blk.new w2 26 #[.int .i64 0, .int .i64 0, .int .i64 0, .int .i64 0, .int .i64 0, .int .i64 0, .int .i64 0, .int .i64 0, .int .i64 0, .int .u64 0, .int .u64 0, .int .i64 0, .int .i64 0, .int .u64 0, .int .i64 0, .int .i64 0]).sub zeroHd_cells.symm
  have hbx := Lib.hid ((Below.refl w2.heap.size w2).alloc (Nat.le_refl _) (.cells #[.int .i64 0, .int .i64 0, .int .i64 0, .int .i64 0, .int .i64 0, .int .i64 0, .int .i64 0, .int .i64 0, .int .i64 0, .int .u64 0, .int .u64 0, .int .i64 0, .int .i64 0, .int .u64 0, .int .i64 0, .int .i64 0] 26))
  obtain ⟨F, hH⟩ : ∃ f, f = (Hd.read raw).2 := ⟨_, rfl⟩
  obtain ⟨er, hE⟩ : ∃ f, f = (Hd.read raw).1 := ⟨_, rfl⟩
  rw [← hH, ← hE]
  have HHE := Lib.hid (And.intro hH hE)
  clear hH hE
  have hb2 := hB2.out.size
  have hgl := hg0.lt
  go_wp2_with (first
    | (show wpList _ _ _ ((⟨none, _, _, _, _, _⟩ : Oper) :: _) _ _; refine wpList_store_blk (o := ⟨none, _, _, _, _, _⟩) (h2) (by rfl) _ _ _ (by rfl) (by rfl) (hdc F) (by rfl) (sizeHd) (hdc_size _) (hdc_size _) (hdc_one _) ?_; intro w3 h3 hu3; have hx3 := hbx.out.upd hu3 (Nat.le_refl _); (replace hg0 := keep hx3 hg0); clear h2 hu3; have hB3 := Lib.hid (hB2.out.trans (hx3.mono hB2.out.size)); clear hx3 hbx hB2)
    | fail)
  refine (sunw_any k w3).mono ?_
  rintro e w4 ⟨E, rfl, hE, hEg, hEn, hEl, hbx⟩
  (replace hg0 := keep hbx hg0; replace h3 := keep hbx h3)
  have hB4 := Lib.hid (hB3.out.trans (hbx.mono hB3.out.size))
  have hT := Bytes.below hby hB4.out
  clear hbx hB3 hEg hgl hb2
  have hgl := hg0.lt
  obtain ⟨A4, n4, l4⟩ := E
  dsimp only at hEn hEl
  subst hEn
  have hun : Slot.unw k = (0, Hd.bytes (Slot.fU k) []) := by unfold Slot.unw; rw [if_neg (by have := HNN.out.2.2.2; omega)]
  rw [hun] at hEl ⊢
  dsimp only at hEl
  clear hun
  have hEb : Bytes w4 A4 l4 := Ent.Is.bytes hE
  have HEL := Lib.hid hEl
  clear hE hEl
  dsimp only [Ent.val]
  by_cases h0 : er = 0
  case neg =>
    have hrd : Hid (Slot.kind raw k = (0, Hd.none_)) := Lib.hid (Slot.kind_broken (by rw [← HHE.out.2]; exact h0))
    have hc0 : (er != 0) = true := by rw [bne_iff_ne]; exact h0
    clear h0 h3 hEb hT
    go_wp2_with (first
      | (show wpList _ _ _ ((⟨none, _, _, _, _, _⟩ : Oper) :: _) _ _; refine wpList_store_blk (o := ⟨none, _, _, _, _, _⟩) (hg0) (by rfl) _ _ _ (by rfl) (by rfl) (hdc zeroHd) (by rfl) (sizeHd) (hdc_size _) (hdc_size _) (hdc_one _) ?_; intro w9 h9 hu9)
      | fail)
    refine bodyPost_ret (results_row_tmp (by rfl) _ _ g0 _ _ _ (by rfl) h9 Tryd.underlying26 (by rfl) (by rw [hdc_size]; exact sizeHd)) rfl ⟨by rw [hrd.out]; rfl, hB4.out.upd hu9 HGE.out⟩
  subst h0
  have hread : Hid (Hd.read raw = (0, Hd.parse raw) ∧ F = Hd.parse raw) := Lib.hid (by
    rcases Hd.read_cases raw with (hx | hx) | ⟨hx, -⟩
    · have h := HHE.out.2; rw [hx] at h; simp at h
    · have h := HHE.out.2; rw [hx] at h; simp at h
    · exact ⟨hx, by rw [HHE.out.1, hx]⟩)
  go_wp2_with fail
  refine (bytesEqual_any A A4 n l4.length c l4.length raw l4 HNN.out.1 rfl w4 hT hEb).mono ?_
  rintro e w5 ⟨rfl, hw5⟩
  rw [← hw5] at hg0 h3 hB4
  clear hw5 hT hEb hgl
  have hgl := hg0.lt
  have hB5 := hB4
  clear hB4
  by_cases heq : raw = l4
  · have hrd : Hid (Slot.kind raw k = (1, Hd.none_)) := Lib.hid (by unfold Slot.kind; rw [if_neg (by rw [hread.out.1]; simp), if_pos (by rw [heq, HEL.out])])
    rw [decide_eq_true heq]
    clear heq h3
    go_wp2_with (first
      | (show wpList _ _ _ ((⟨none, _, _, _, _, _⟩ : Oper) :: _) _ _; refine wpList_store_blk (o := ⟨none, _, _, _, _, _⟩) (hg0) (by rfl) _ _ _ (by rfl) (by rfl) (hdc zeroHd) (by rfl) (sizeHd) (hdc_size _) (hdc_size _) (hdc_one _) ?_; intro w9 h9 hu9)
      | fail)
    refine bodyPost_ret (results_row_tmp (by rfl) _ _ g0 _ _ _ (by rfl) h9 Tryd.underlying26 (by rfl) (by rw [hdc_size]; exact sizeHd)) rfl ⟨by rw [hrd.out]; rfl, hB5.out.upd hu9 HGE.out⟩
  have hne : Hid (raw ≠ l4) := Lib.hid heq
  rw [decide_eq_false heq]
  clear heq
  go_wp2_with (first
    | (show wpList _ _ _ ((⟨some 30, _, _, _, _, _⟩ : Oper) :: _) _ _; refine wpList_load_blk (o := ⟨some 30, _, _, _, _, _⟩) (h3) (by rfl) _ _ (by rfl) (by rfl) _ Tryd.underlying26 (by rfl) (sizeHd) (hdc_size _) ?_)
    | fail)
  refine (sis_any F k w5).mono ?_
  rintro e w6 ⟨rfl, hbx⟩
  (replace hg0 := keep hbx hg0; replace h3 := keep hbx h3)
  have hB6 := Lib.hid (hB5.out.trans (hbx.mono hB5.out.size))
  have hgl := hg0.lt
  clear hbx hB5
  have hB5 := hB6
  clear hB6
  have hgl := hg0.lt
  have hkd : Hid (Slot.kind raw k = if Slot.is F k = true then (2, F) else (0, Hd.none_)) := Lib.hid (by
    unfold Slot.kind
    rw [if_neg (by rw [hread.out.1]; simp), if_neg (by rw [← HEL.out]; exact hne.out), ← hread.out.2])
  obtain ⟨q, hq⟩ : ∃ q, q = Slot.is F k := ⟨_, rfl⟩
  rw [← hq]
  have HQ := Lib.hid hq
  clear hq
  cases q
  · have hrd : Hid (Slot.kind raw k = (0, Hd.none_)) := Lib.hid (by rw [hkd.out, ← HQ.out]; rfl)
    clear h3
    go_wp2_with (first
      | (show wpList _ _ _ ((⟨none, _, _, _, _, _⟩ : Oper) :: _) _ _; refine wpList_store_blk (o := ⟨none, _, _, _, _, _⟩) (hg0) (by rfl) _ _ _ (by rfl) (by rfl) (hdc zeroHd) (by rfl) (sizeHd) (hdc_size _) (hdc_size _) (hdc_one _) ?_; intro w9 h9 hu9)
      | fail)
    refine bodyPost_ret (results_row_tmp (by rfl) _ _ g0 _ _ _ (by rfl) h9 Tryd.underlying26 (by rfl) (by rw [hdc_size]; exact sizeHd)) rfl ⟨by rw [hrd.out]; rfl, hB5.out.upd hu9 HGE.out⟩
  · have hrd : Hid (Slot.kind raw k = (2, F)) := Lib.hid (by rw [hkd.out, ← HQ.out]; rfl)
    go_wp2_with (first
      | (show wpList _ _ _ ((⟨some 33, _, _, _, _, _⟩ : Oper) :: _) _ _; refine wpList_load_blk (o := ⟨some 33, _, _, _, _, _⟩) (h3) (by rfl) _ _ (by rfl) (by rfl) _ Tryd.underlying26 (by rfl) (sizeHd) (hdc_size _) ?_)
      | (show wpList _ _ _ ((⟨none, _, _, _, _, _⟩ : Oper) :: _) _ _; refine wpList_store_blk (o := ⟨none, _, _, _, _, _⟩) (hg0) (by rfl) _ _ _ (by rfl) (by rfl) (hdc F) (by rfl) (sizeHd) (hdc_size _) (hdc_size _) (hdc_one _) ?_; intro w9 h9 hu9)
      | fail)
    refine bodyPost_ret (results_row_tmp (by rfl) _ _ g0 _ _ _ (by rfl) h9 Tryd.underlying26 (by rfl) (by rw [hdc_size]; exact sizeHd)) rfl ⟨by rw [hrd.out]; rfl, hB5.out.upd hu9 HGE.out⟩
end Go.Proofs.YtekdcjaljjlemaaDoor

/- bytes.Trim of noughts: nothing is left just where all bytes are noughts. Condition: the bytes can be read. -/
namespace Go.Proofs.YtekdcjaljjlemaaDoor
open Go.RowKit
def LenOf (v : Value) : Nat := match v with | .slice _ m _ => m | _ => 0
def TrimR (w : World) (A : Option Addr) (c : Nat) (l : List UInt8) (v : Value) (wr : World) : Prop :=
  ∃ m : Nat, v = .slice A m c ∧ m ≤ l.length ∧ (∀ i, m ≤ i → i < l.length → l.getD i 0 = 0) ∧ wr = w
set_option maxHeartbeats 1000000 in
theorem trimRight_any (A : Option Addr) (n c : Nat) (l : List UInt8) (hn : n = l.length) (hc : l.length ≤ c ∧ l.length ≤ 140737488351232) (w : World) (hb : Bytes w A l) :
    Calls Tryd.prog 49 #[.slice A n c, .int .u8 0] w fun e w' => ∃ m : Nat, e = .returned (.slice A m c) ∧ m ≤ l.length ∧ (∀ i, m ≤ i → i < l.length → l.getD i 0 = 0) ∧ (0 < m → l.getD (m - 1) 0 ≠ 0) ∧ w' = w := by
  subst hn
  have HC := Lib.hid hc
  clear hc
  go_enter Tryd.func49, Tryd.ntmps49
  go_wp2
  go_loopw [0] (fun v wr => TrimR w A c l v wr) (fun v _ => LenOf v)
  case atStart => exact ⟨l.length, rfl, Nat.le_refl _, fun i h1 h2 => by omega, rfl⟩
  case round =>
    obtain ⟨m, rfl, hm, hz, hwr⟩ := hrel
    subst hwr
    have HZ := Lib.hid hz
    clear hz
    by_cases h0 : m = 0
    · subst h0
      go_wp2
      go_ret
      exact ⟨0, rfl, by omega, HZ.out, fun h => by omega, rfl⟩
    · obtain ⟨p, rfl⟩ : ∃ p, m = p + 1 := ⟨m - 1, by omega⟩
      obtain ⟨b, off, rfl, hlt, hcell⟩ := hb.at_ (by omega)
      have d0 := hcell p (by omega)
      clear hcell hb
      have hpc : p + 1 ≤ c := by have := HC.out; omega
      have hpb : p + 1 ≤ 140737488351232 := by have := HC.out; omega
      have hgt : decide (((p + 1 : Nat) : Int) > 0) = true := by rw [decide_eq_true_eq]; omega
      obtain ⟨x, hx⟩ : ∃ x, x = l.getD p 0 := ⟨_, rfl⟩
      rw [← hx] at d0
      have HX := Lib.hid hx
      clear hx
      by_cases hx0 : x = 0
      · have e0 : iu8 x = 0 := by rw [hx0]; rfl
        rw [e0] at d0
        clear e0
        go_wp2
        go_roundw
        case rel =>
          refine ⟨p, rfl, by omega, fun i h1 h2 => ?_, rfl⟩
          by_cases h3 : i = p
          · rw [h3, ← HX.out, hx0]
          · exact HZ.out i (by omega) h2
        case measure => simp [LenOf]
      · have e0 : (iu8 x == 0) = false := by
          rw [beq_eq_false_iff_ne]; intro e; exact hx0 (iu8_inj (by rw [e]; rfl))
        go_wp2
        go_ret
        exact ⟨p + 1, rfl, by omega, HZ.out, fun _ => by rw [Nat.add_sub_cancel, ← HX.out]; exact hx0, rfl⟩
def TrimL (w : World) (l : List UInt8) (v : Value) (wr : World) : Prop :=
  ∃ (A : Option Addr) (c : Nat) (k : List UInt8), v = .slice A k.length c ∧ k.length ≤ c ∧ Bytes w A k ∧ (∃ z, l = List.replicate z 0 ++ k) ∧ wr = w
set_option maxHeartbeats 1000000 in
theorem trimLeft_any (A : Option Addr) (n c : Nat) (l : List UInt8) (hn : n = l.length) (hc : l.length ≤ c ∧ l.length ≤ 140737488351232) (w : World) (hb : Bytes w A l) :
    Calls Tryd.prog 48 #[.slice A n c, .int .u8 0] w fun e w' => ∃ (A2 : Option Addr) (m c2 : Nat), e = .returned (.slice A2 m c2) ∧ (m = 0 ↔ l.all (· == 0) = true) ∧ w' = w := by
  subst hn
  have HC := Lib.hid hc
  clear hc
  go_enter Tryd.func48, Tryd.ntmps48
  go_wp2
  go_loopw [0] (fun v wr => TrimL w l v wr) (fun v _ => LenOf v)
  case atStart => exact ⟨A, c, l, rfl, HC.out.1, hb, ⟨0, rfl⟩, rfl⟩
  case round =>
    obtain ⟨A2, c2, k, rfl, hm, hb2, hz, hwr⟩ := hrel
    subst hwr
    have hkl : k.length ≤ 140737488351232 := by obtain ⟨z, e⟩ := hz; have := congrArg List.length e; rw [List.length_append] at this; have := HC.out; omega
    have HZ := Lib.hid hz
    clear hz
    cases k with
    | nil =>
      go_wp2
      go_ret
      refine ⟨none, 0, 0, rfl, ?_, rfl⟩
      obtain ⟨z, e⟩ := HZ.out
      rw [e]; simp
    | cons x t =>
      have hgt : decide ((((x :: t).length : Nat) : Int) > 0) = true := by rw [decide_eq_true_eq]; simp
      obtain ⟨m, hml⟩ : ∃ m, m = (x :: t).length := ⟨_, rfl⟩
      have hm1 : 1 ≤ m := by rw [hml]; simp
      have hcut := Lib.hid hb2
      obtain ⟨b, off, rfl, hlt, hcell⟩ := hb2.at_ (by simp)
      have d0 := hcell 0 (by simp)
      rw [Nat.add_zero, show (x :: t).getD 0 0 = x from rfl] at d0
      rw [← hml] at hgt hm hkl ⊢
      have HML := Lib.hid hml
      clear hml hcell hb2 hb
      by_cases hx0 : x = 0
      · have e0 : iu8 x = 0 := by rw [hx0]; rfl
        rw [e0] at d0
        clear e0
        go_wp2_with (first
          | (show wpList _ _ _ ((⟨some 16, _, _, _, _, _⟩ : Oper) :: _) _ _; refine wpList_cut_bytes (o := ⟨some 16, _, _, _, _, _⟩) (by rfl) _ _ _ (by rfl) _ Tryd.underlying27 size1 (some ⟨b, off, none⟩) (m) (c2) .i64 (1) (by rfl) (by rfl) (x :: t) (HML.out) (hm1) (hm) (hcut.out) ?_; intro A3 hb3 _)
          | fail)
        go_roundw
        case rel =>
          refine ⟨A3, c2 - 1, t, rfl, ?_, hb3, ?_, rfl⟩
          · have := HML.out; simp at this; omega
          · obtain ⟨z, e⟩ := HZ.out
            refine ⟨z + 1, ?_⟩
            rw [e, hx0, List.replicate_succ', List.append_assoc]; rfl
        case measure => have := HML.out; simp [LenOf] at this ⊢; omega
      · have e0 : (iu8 x == 0) = false := by
          rw [beq_eq_false_iff_ne]; intro e; exact hx0 (iu8_inj (by rw [e]; rfl))
        have hm0 : ((m : Int) == 0) = false := by rw [beq_eq_false_iff_ne]; omega
        go_wp2
        go_ret
        refine ⟨some ⟨b, off, none⟩, m, c2, rfl, ?_, rfl⟩
        obtain ⟨z, e⟩ := HZ.out
        rw [e]
        constructor
        · intro h; omega
        · intro h; simp [hx0] at h
set_option maxRecDepth 100000 in
set_option maxHeartbeats 1000000 in
theorem trim_any (A : Option Addr) (n c : Nat) (l : List UInt8) (hn : n = l.length) (hc : l.length ≤ c ∧ l.length ≤ 140737488351232) (w : World) (hb : Bytes w A l) :
    Calls Tryd.prog 35 #[.slice A n c, .string ⟨#[0]⟩] w fun e w' => ∃ (A2 : Option Addr) (m c2 : Nat), e = .returned (.slice A2 m c2) ∧ (m = 0 ↔ l.all (· == 0) = true) ∧ Below w.heap.size w w' := by
  by_cases h0 : n = 0
  · have hl : l = [] := List.eq_nil_of_length_eq_zero (by omega)
    subst h0 hl
    clear hb hc hn
    go_enter Tryd.func35, Tryd.ntmps35
    go_wp2
    go_ret
    exact ⟨none, 0, 0, rfl, by simp, Below.refl _ _⟩
  · have hz0 : ((n : Int) == 0) = false := by rw [beq_eq_false_iff_ne]; omega
    have HN := Lib.hid (And.intro hn hc)
    clear hn hc h0
    go_enter Tryd.func35, Tryd.ntmps35
    go_wp2
    refine wp_region_tree (Below w.heap.size w) [] (PlanT.takes [0, 1, 2, 4, 5] (.opt 3 (.opt 6 (PlanT.takes [7] .done) .no) .no)) (by kernel_rfl) (by kernel_rfl) ((Below.refl _ _).drew) ?_
    refine wpTree_pure _ _ _ (by rfl) (by rfl) ?_
    dsimp only [List.filterMap, List.getElem?_cons_zero, List.getElem?_cons_succ]
    repeat (go_big_quiet_step (fail))
    refine wpQuiet_nil ?_
    refine wpTree_one _ rfl ?_
    go_wp2_with fail
    refine (trimRight_any A n c l HN.out.1 HN.out.2 w.drew hb).mono ?_
    rintro e w2 ⟨m, rfl, hml, hz, hnz, hw2⟩
    have hC2 : Below w.heap.size w w2 := by rw [hw2]; exact (Below.refl _ _).drew
    have hmb : m ≤ c ∧ m ≤ 140737488351232 := by have := HN.out; omega
    have HZ := Lib.hid (And.intro hml (And.intro hz hnz))
    clear hml hz hnz hw2
    go_wp2_with fail
    refine TreeQ.in_ hC2 ?_
    refine wpTree_one _ rfl ?_
    go_wp2_with fail
    have hlt : (l.take m).length = m := by rw [List.length_take]; have := HZ.out.1; omega
    refine (trimLeft_any A m c (l.take m) hlt.symm (by rw [hlt]; exact hmb) w2 ((Bytes.below hb hC2).take m)).mono ?_
    rintro e w3 ⟨A2, m2, c2, rfl, hm2, hw3⟩
    have hC3 : Below w.heap.size w w3 := by rw [hw3]; exact hC2
    have HM := Lib.hid hm2
    clear hw3 hm2 hC2 hlt hmb
    go_wp2_with fail
    refine TreeQ.in_ hC3 ?_
    refine wpTree_pure _ _ _ (by rfl) (by rfl) ?_
    dsimp only [List.filterMap, List.getElem?_cons_zero, List.getElem?_cons_succ]
    repeat (go_big_quiet_step (fail))
    refine wpQuiet_nil ?_
    refine wpTree_done ?_
    have HC3 := Lib.hid hC3
    clear hC3
    go_wp2
    go_ret
    refine ⟨A2, m2, c2, rfl, HM.out.trans ?_, HC3.out⟩
    obtain ⟨h1, h2, h3⟩ := HZ.out
    have hin := HN.out.1
    constructor
    · intro h
      have hm0 : m = 0 := by
        rcases Nat.eq_zero_or_pos m with h4 | h4
        · exact h4
        · exfalso
          refine h3 h4 ?_
          have h5 : (l.take m)[m - 1]? = some (l.getD (m - 1) 0) := by
            rw [List.getElem?_take_of_lt (by omega), List.getD_eq_getElem?_getD, List.getElem?_eq_getElem (by omega)]; rfl
          have h6 := List.all_eq_true.1 h _ (List.mem_of_getElem? h5)
          simpa using h6
      rw [List.all_eq_true]
      intro x hx
      obtain ⟨i, hi, rfl⟩ := List.getElem_of_mem hx
      have := h2 i (by omega) hi
      rw [List.getD_eq_getElem?_getD, List.getElem?_eq_getElem hi] at this
      simpa using this
    · intro h
      rw [List.all_eq_true] at h ⊢
      exact fun x hx => h x (List.mem_of_mem_take hx)
end Go.Proofs.YtekdcjaljjlemaaDoor

/- How a slot is by its bytes: what the program tells. Conditions: the bytes can be read; the slot is one. -/
namespace Go.Proofs.YtekdcjaljjlemaaDoor
open Go.RowKit
def stv (x : Int × Int × Int × Bool) : Value := .agg #[.int .i64 x.1, .int .i64 x.2.1, .int .i64 x.2.2.1, .bool x.2.2.2]
theorem sizeSt : (Tryd.prog.info? 47).map (·.size) = some 4 := by kernel_rfl
theorem st_one (a b c : Int) (d : Bool) : (#[Value.int .i64 a, .int .i64 b, .int .i64 c, .bool d] : Array Value).all (·.oneCell') = true := by simp [Value.oneCell']
theorem Slot.kind_cases (b : List UInt8) (k : Int) : (Slot.kind b k).1 = 0 ∨ (Slot.kind b k).1 = 1 ∨ (Slot.kind b k).1 = 2 := by
  unfold Slot.kind
  by_cases h1 : (Hd.read b).1 ≠ 0
  · rw [if_pos h1]; exact .inl rfl
  rw [if_neg h1]
  by_cases h2 : b = Hd.bytes (Slot.fU k) []
  · rw [if_pos h2]; exact .inr (.inl rfl)
  rw [if_neg h2]
  by_cases h3 : Slot.is (Hd.parse b) k = true
  · rw [if_pos h3]; exact .inr (.inr rfl)
  · rw [if_neg h3]; exact .inl rfl
set_option maxRecDepth 100000 in
set_option maxHeartbeats 4000000 in
theorem judge_any (A B : Option Addr) (n c m d : Nat) (h p : List UInt8) (k : Int) (hk : 0 ≤ k ∧ k < 16) (hn : n = h.length ∧ n ≤ c ∧ c ≤ 9223372036854775807) (hm : m = p.length ∧ m ≤ d ∧ m ≤ 140737488351232 ∧ d ≤ 9223372036854775807) (w : World) (hbh : Bytes w A h) (hbp : Bytes w B p) :
    Calls Tryd.prog 21 #[.slice A n c, .slice B m d, .int .i64 k] w fun e w' => e = .returned (stv (Slot.judge h p k)) ∧ Below w.heap.size w w' := by
  have hg0 := Blk.new w 47 #[.int .i64 0, .int .i64 0, .int .i64 0, .bool false]
  have hB0 := (Below.refl w.heap.size w).alloc (Nat.le_refl _) (.cells #[.int .i64 0, .int .i64 0, .int .i64 0, .bool false] 47)
  have HN := Lib.hid hn
  have HM := Lib.hid hm
  have HK := Lib.hid hk
  have hk1 : decide (k < 0) = false := by rw [decide_eq_false_iff_not]; omega
  have hk2 : decide (k ≥ 16) = false := by rw [decide_eq_false_iff_not]; omega
  clear hn hm hk
  go_enter Tryd.func21, Tryd.ntmps21
  go_wp2_with fail
  generalize w.alloc (.cells #[.int .i64 0, .int .i64 0, .int .i64 0, .bool false] 47) = w1 at hg0 hB0 ⊢
  obtain ⟨g0, hgn⟩ : ∃ g0, g0 = w.heap.size := ⟨_, rfl⟩
  have HGE : Hid (w.heap.size ≤ g0) := Lib.hid (by omega)
  rw [← hgn] at hg0 ⊢
  clear hgn hk1 hk2
  refine (sprep_any B m d p k HM.out.1 HM.out.2.1 HM.out.2.2 w1 (Bytes.below hbp hB0)).mono ?_
  have hlt1 := hg0.lt
  rintro e w2 ⟨V, rfl, ⟨sp2, ho2⟩, hbx⟩
  (replace hg0 := keep hbx hg0)
  have HB2 := Lib.hid (hB0.trans (hbx.mono hB0.size))
  clear hB0 hbx
  obtain ⟨q, hq⟩ : ∃ x, x = (Slot.prep p k).1 := ⟨_, rfl⟩
  obtain ⟨F, hF⟩ : ∃ x, x = (Slot.prep p k).2.1 := ⟨_, rfl⟩
  obtain ⟨D, hD⟩ : ∃ x, x = (Slot.prep p k).2.2 := ⟨_, rfl⟩
  rw [← hD] at ho2
  rw [← hq, ← hF]
  have HPR := Lib.hid (And.intro hq (And.intro hF hD))
  clear hq hF hD
  obtain ⟨V2, vn, vc, rfl⟩ := OwnB.slice ho2
  clear ho2
  have hgl := hg0.lt
  go_wp2_with (first
    | ((with_reducible show wpList _ _ _ ((⟨none, _, _, _, _, _⟩ : Oper) :: _) _ _); refine wpList_store_blk (o := ⟨none, _, _, _, _, _⟩) ((Blk.new w2 29 #[.int .i64 0, .int .i64 0, .int .i64 0, .int .i64 0, .int .i64 0, .int .i64 0, .int .i64 0, .int .i64 0, .int .i64 0, .int .u64 0, .int .u64 0, .int .i64 0, .int .i64 0, .int .u64 0, .int .i64 0, .int .i64 0, .slice none 0 0])) (by rfl) _ _ _ (by rfl) (by rfl) (msgc F (.slice V2 vn vc)) (by rfl) (sizeMsg) (by rfl) (msgc_size _ _) (msgc_one _ _ rfl) ?_; intro w3 h7 hu3; have hbx := ((Below.refl w2.heap.size w2).alloc (Nat.le_refl _) (.cells #[.int .i64 0, .int .i64 0, .int .i64 0, .int .i64 0, .int .i64 0, .int .i64 0, .int .i64 0, .int .i64 0, .int .i64 0, .int .u64 0, .int .u64 0, .int .i64 0, .int .i64 0, .int .u64 0, .int .i64 0, .int .i64 0, .slice none 0 0] 29)).upd hu3 (Nat.le_refl _); (replace hg0 := keep hbx hg0); have HB3 := Lib.hid (HB2.out.trans (hbx.mono HB2.out.size)); clear hbx hu3 HB2)
    | fail)
  have hbh3 := Bytes.below hbh HB3.out
  have hgl := hg0.lt
  have hgl7 := h7.lt
  refine (shead_any A n c h k HK.out HN.out.1 HN.out.2.1 HN.out.2.2 w3 hbh3).mono ?_
  rintro e w4 ⟨rfl, hbx⟩
  (replace hg0 := keep hbx hg0; replace h7 := keep hbx h7)
  have HB4 := Lib.hid (HB3.out.trans (hbx.mono HB3.out.size))
  clear hbx HB3 hbh3
  obtain ⟨kd, hkd⟩ : ∃ x, x = (Slot.kind h k).1 := ⟨_, rfl⟩
  obtain ⟨G, hG⟩ : ∃ x, x = (Slot.kind h k).2 := ⟨_, rfl⟩
  rw [← hkd, ← hG]
  have hkc := Slot.kind_cases h k
  rw [← hkd] at hkc
  have HKD := Lib.hid (And.intro hkd hG)
  clear hkd hG
  have hgl := hg0.lt
  have hgl7 := h7.lt
  have hJ0 := Lib.hid (show Slot.judge h p k = Slot.put (q, F, D) (kd, G) (decide (h = p.take 256)) (p.all (· == 0)) by
    rw [Slot.judge_in h p k HK.out, HPR.out.1, HPR.out.2.1, HPR.out.2.2, HKD.out.1, HKD.out.2])
  go_wp2_with (first
    | ((with_reducible show wpList _ _ _ ((⟨none, _, _, _, _, _⟩ : Oper) :: _) _ _); refine wpList_store_blk (o := ⟨none, _, _, _, _, _⟩) (((Blk.new w4 26 #[.int .i64 0, .int .i64 0, .int .i64 0, .int .i64 0, .int .i64 0, .int .i64 0, .int .i64 0, .int .i64 0, .int .i64 0, .int .u64 0, .int .u64 0, .int .i64 0, .int .i64 0, .int .u64 0, .int .i64 0, .int .i64 0]).sub zeroHd_cells.symm)) (by rfl) _ _ _ (by rfl) (by rfl) (hdc G) (by rfl) (sizeHd) (hdc_size _) (hdc_size _) (hdc_one _) ?_; intro w6 h9x hu6; have hbx := ((Below.refl w4.heap.size w4).alloc (Nat.le_refl _) (.cells #[.int .i64 0, .int .i64 0, .int .i64 0, .int .i64 0, .int .i64 0, .int .i64 0, .int .i64 0, .int .i64 0, .int .i64 0, .int .u64 0, .int .u64 0, .int .i64 0, .int .i64 0, .int .u64 0, .int .i64 0, .int .i64 0] 26)).upd hu6 (Nat.le_refl _); (replace hg0 := keep hbx hg0; replace h7 := keep hbx h7); have HB6 := Lib.hid (HB4.out.trans (hbx.mono HB4.out.size)); clear hbx hu6 HB4)
    | fail)
  generalize w2.heap.size = g7 at h7 hgl7 ⊢
  generalize w4.heap.size = g9 at h9x ⊢
  have hgl7 := h7.lt
  have hgl9 := h9x.lt
  have hgl := hg0.lt
  have hH5 := Bytes.below hbh HB6.out
  have hP5 := (Bytes.below hbp HB6.out).take 256
  rcases hkc with rfl | rfl | rfl
  · cases q
    · have hJ := Lib.hid (show Slot.judge h p k = (3, 0, 0, false) by rw [hJ0.out]; simp [Slot.put])
      refine wp_region_tree (Below w6.heap.size w6) [] (PlanT.takes [0, 1, 2, 3, 4, 5, 6, 8, 9] (PlanT.takes [7, 10] (PlanT.takes [11, 12, 13] .done))) (by kernel_rfl) (by kernel_rfl) ((Below.refl _ _).drew) ?_
      refine wpTree_pure _ _ _ (by rfl) (by rfl) ?_
      dsimp only [List.filterMap, List.getElem?_cons_zero, List.getElem?_cons_succ]
      repeat (go_big_quiet_step (fail))
      refine wpQuiet_nil ?_
      refine wpTree_takeL _ _ _ (by rfl) (by rfl) ((Below.refl _ _).drew) ?_
      dsimp only [List.filterMap, List.getElem?_cons_zero, List.getElem?_cons_succ]
      go_big_quiet_step (fail)
      go_big_quiet_step (fail)
      refine wpQuiet_nil ?_
      refine wpTree_pure _ _ _ (by rfl) (by rfl) ?_
      dsimp only [List.filterMap, List.getElem?_cons_zero, List.getElem?_cons_succ]
      repeat (go_big_quiet_step (fail))
      refine wpQuiet_nil ?_
      refine wpTree_done ?_
      have hC := (Below.refl w6.heap.size w6).drew
      have HB := Lib.hid (HB6.out.trans (hC.mono HB6.out.size))
      (replace hg0 := keep hC hg0; replace h7 := keep hC h7; replace h9x := keep hC h9x)
      clear HB6 hC
      clear h7 h9x hH5 hP5
      go_wp2_with (first
        | ((with_reducible show wpList _ _ _ ((⟨none, _, _, _, _, _⟩ : Oper) :: _) _ _); refine wpList_store_blk (o := ⟨none, _, _, _, _, _⟩) (hg0) (by rfl) _ _ _ (by rfl) (by rfl) (#[.int .i64 3, .int .i64 0, .int .i64 0, .bool false]) (by rfl) (sizeSt) (by rfl) (by rfl) (st_one _ _ _ _) ?_; intro w9 h9 hu9)
        | fail)
      refine bodyPost_ret (results_cell_row (by rfl) _ _ _ _ _ _ _ (by rfl) h9 Tryd.underlying47 (by rfl) sizeSt) rfl ⟨by rw [hJ.out]; rfl, HB.out.upd hu9 HGE.out⟩
    · have hJ := Lib.hid (show Slot.judge h p k = (1, F 5, F 3, true) by rw [hJ0.out]; simp [Slot.put])
      refine wp_region_tree (Below w6.heap.size w6) [] (PlanT.takes [0, 1, 2, 3, 4, 5, 6, 8, 9] (PlanT.takes [7, 10] (PlanT.takes [11, 12, 13] .done))) (by kernel_rfl) (by kernel_rfl) ((Below.refl _ _).drew) ?_
      refine wpTree_pure _ _ _ (by rfl) (by rfl) ?_
      dsimp only [List.filterMap, List.getElem?_cons_zero, List.getElem?_cons_succ]
      repeat (go_big_quiet_step (fail))
      refine wpQuiet_nil ?_
      refine wpTree_takeL _ _ _ (by rfl) (by rfl) ((Below.refl _ _).drew) ?_
      dsimp only [List.filterMap, List.getElem?_cons_zero, List.getElem?_cons_succ]
      go_big_quiet_step (fail)
      go_big_quiet_step (fail)
      refine wpQuiet_nil ?_
      refine wpTree_pure _ _ _ (by rfl) (by rfl) ?_
      dsimp only [List.filterMap, List.getElem?_cons_zero, List.getElem?_cons_succ]
      repeat (go_big_quiet_step (fail))
      refine wpQuiet_nil ?_
      refine wpTree_done ?_
      have hC := (Below.refl w6.heap.size w6).drew
      have HB := Lib.hid (HB6.out.trans (hC.mono HB6.out.size))
      (replace hg0 := keep hC hg0; replace h7 := keep hC h7; replace h9x := keep hC h9x)
      clear HB6 hC
      have d3 := h7.at_ 5 (msgc_at F _ 5 (by omega))
      have d4 := h7.at_ 3 (msgc_at F _ 3 (by omega))
      clear h7 h9x hH5 hP5
      go_wp2_with (first
        | ((with_reducible show wpList _ _ _ ((⟨none, _, _, _, _, _⟩ : Oper) :: _) _ _); refine wpList_store_blk (o := ⟨none, _, _, _, _, _⟩) (hg0) (by rfl) _ _ _ (by rfl) (by rfl) (#[.int .i64 1, .int .i64 (F 5), .int .i64 (F 3), .bool true]) (by rfl) (sizeSt) (by rfl) (by rfl) (st_one _ _ _ _) ?_; intro w9 h9 hu9)
        | fail)
      refine bodyPost_ret (results_cell_row (by rfl) _ _ _ _ _ _ _ (by rfl) h9 Tryd.underlying47 (by rfl) sizeSt) rfl ⟨by rw [hJ.out]; rfl, HB.out.upd hu9 HGE.out⟩
  · cases q
    · have hJ := Lib.hid (show Slot.judge h p k = if p.all (· == 0) = true then (4, 0, 0, false) else (2, 0, 0, false) by rw [hJ0.out]; simp [Slot.put])
      refine wp_region_tree (Below w6.heap.size w6) [] (PlanT.takes [0, 1, 2, 3, 4, 5, 6, 8, 9] (PlanT.takes [7, 10] (PlanT.takes [11, 12, 13] .done))) (by kernel_rfl) (by kernel_rfl) ((Below.refl _ _).drew) ?_
      refine wpTree_pure _ _ _ (by rfl) (by rfl) ?_
      dsimp only [List.filterMap, List.getElem?_cons_zero, List.getElem?_cons_succ]
      repeat (go_big_quiet_step (fail))
      refine wpQuiet_nil ?_
      refine wpTree_takeL _ _ _ (by rfl) (by rfl) ((Below.refl _ _).drew) ?_
      dsimp only [List.filterMap, List.getElem?_cons_zero, List.getElem?_cons_succ]
      go_big_quiet_step (fail)
      go_big_quiet_step (fail)
      refine wpQuiet_nil ?_
      refine wpTree_pure _ _ _ (by rfl) (by rfl) ?_
      dsimp only [List.filterMap, List.getElem?_cons_zero, List.getElem?_cons_succ]
      repeat (go_big_quiet_step (fail))
      refine wpQuiet_nil ?_
      refine wpTree_done ?_
      have hC := (Below.refl w6.heap.size w6).drew
      have HB := Lib.hid (HB6.out.trans (hC.mono HB6.out.size))
      (replace hg0 := keep hC hg0; replace h7 := keep hC h7; replace h9x := keep hC h9x)
      clear HB6 hC
      clear h7 h9x hH5 hP5
      go_wp2_with fail
      have hpw := Bytes.below hbp HB.out
      refine (trim_any B m d p HM.out.1 ⟨by have := HM.out; omega, by have := HM.out; omega⟩ _ hpw).mono ?_
      rintro e w7 ⟨T, tn, tc, rfl, ht, hbx⟩
      have hsz := HB.out.size
      (replace hg0 := keep hbx hg0)
      have HB7 := Lib.hid (HB.out.trans (hbx.mono hsz))
      have HT := Lib.hid ht
      clear hbx HB ht hpw
      have HB := HB7
      by_cases h0 : tn = 0
      · have hJ := Lib.hid (show Slot.judge h p k = (4, 0, 0, false) by rw [hJ.out, if_pos (HT.out.1 h0)])
        subst h0
        go_wp2_with (first
          | ((with_reducible show wpList _ _ _ ((⟨none, _, _, _, _, _⟩ : Oper) :: _) _ _); refine wpList_store_blk (o := ⟨none, _, _, _, _, _⟩) (hg0) (by rfl) _ _ _ (by rfl) (by rfl) (#[.int .i64 4, .int .i64 0, .int .i64 0, .bool false]) (by rfl) (sizeSt) (by rfl) (by rfl) (st_one _ _ _ _) ?_; intro w9 h9 hu9)
          | fail)
        refine bodyPost_ret (results_cell_row (by rfl) _ _ _ _ _ _ _ (by rfl) h9 Tryd.underlying47 (by rfl) sizeSt) rfl ⟨by rw [hJ.out]; rfl, HB.out.upd hu9 HGE.out⟩
      · have hJ := Lib.hid (show Slot.judge h p k = (2, 0, 0, false) by rw [hJ.out, if_neg (fun e => h0 (HT.out.2 e))])
        have hz : ((tn : Int) == 0) = false := by rw [beq_eq_false_iff_ne]; omega
        clear h0
        go_wp2_with (first
          | ((with_reducible show wpList _ _ _ ((⟨none, _, _, _, _, _⟩ : Oper) :: _) _ _); refine wpList_store_blk (o := ⟨none, _, _, _, _, _⟩) (hg0) (by rfl) _ _ _ (by rfl) (by rfl) (#[.int .i64 2, .int .i64 0, .int .i64 0, .bool false]) (by rfl) (sizeSt) (by rfl) (by rfl) (st_one _ _ _ _) ?_; intro w9 h9 hu9)
          | fail)
        refine bodyPost_ret (results_cell_row (by rfl) _ _ _ _ _ _ _ (by rfl) h9 Tryd.underlying47 (by rfl) sizeSt) rfl ⟨by rw [hJ.out]; rfl, HB.out.upd hu9 HGE.out⟩
    · have hJ := Lib.hid (show Slot.judge h p k = (1, F 5, F 3, true) by rw [hJ0.out]; simp [Slot.put])
      refine wp_region_tree (Below w6.heap.size w6) [] (PlanT.takes [0, 1, 2, 3, 4, 5, 6, 8, 9] (PlanT.takes [7, 10] (PlanT.takes [11, 12, 13] .done))) (by kernel_rfl) (by kernel_rfl) ((Below.refl _ _).drew) ?_
      refine wpTree_pure _ _ _ (by rfl) (by rfl) ?_
      dsimp only [List.filterMap, List.getElem?_cons_zero, List.getElem?_cons_succ]
      repeat (go_big_quiet_step (fail))
      refine wpQuiet_nil ?_
      refine wpTree_takeL _ _ _ (by rfl) (by rfl) ((Below.refl _ _).drew) ?_
      dsimp only [List.filterMap, List.getElem?_cons_zero, List.getElem?_cons_succ]
      go_big_quiet_step (fail)
      go_big_quiet_step (fail)
      refine wpQuiet_nil ?_
      refine wpTree_pure _ _ _ (by rfl) (by rfl) ?_
      dsimp only [List.filterMap, List.getElem?_cons_zero, List.getElem?_cons_succ]
      repeat (go_big_quiet_step (fail))
      refine wpQuiet_nil ?_
      refine wpTree_done ?_
      have hC := (Below.refl w6.heap.size w6).drew
      have HB := Lib.hid (HB6.out.trans (hC.mono HB6.out.size))
      (replace hg0 := keep hC hg0; replace h7 := keep hC h7; replace h9x := keep hC h9x)
      clear HB6 hC
      have d3 := h7.at_ 5 (msgc_at F _ 5 (by omega))
      have d4 := h7.at_ 3 (msgc_at F _ 3 (by omega))
      clear h7 h9x hH5 hP5
      go_wp2_with (first
        | ((with_reducible show wpList _ _ _ ((⟨none, _, _, _, _, _⟩ : Oper) :: _) _ _); refine wpList_store_blk (o := ⟨none, _, _, _, _, _⟩) (hg0) (by rfl) _ _ _ (by rfl) (by rfl) (#[.int .i64 1, .int .i64 (F 5), .int .i64 (F 3), .bool true]) (by rfl) (sizeSt) (by rfl) (by rfl) (st_one _ _ _ _) ?_; intro w9 h9 hu9)
        | fail)
      refine bodyPost_ret (results_cell_row (by rfl) _ _ _ _ _ _ _ (by rfl) h9 Tryd.underlying47 (by rfl) sizeSt) rfl ⟨by rw [hJ.out]; rfl, HB.out.upd hu9 HGE.out⟩
  · cases q
    · have hJ := Lib.hid (show Slot.judge h p k = (3, G 5, G 3, false) by rw [hJ0.out]; simp [Slot.put])
      refine wp_region_tree (Below w6.heap.size w6) [] (PlanT.takes [0, 1, 2, 3, 4, 5, 6, 8, 9] (PlanT.takes [7, 10] (PlanT.takes [11, 12, 13] .done))) (by kernel_rfl) (by kernel_rfl) ((Below.refl _ _).drew) ?_
      refine wpTree_pure _ _ _ (by rfl) (by rfl) ?_
      dsimp only [List.filterMap, List.getElem?_cons_zero, List.getElem?_cons_succ]
      repeat (go_big_quiet_step (fail))
      refine wpQuiet_nil ?_
      refine wpTree_takeL _ _ _ (by rfl) (by rfl) ((Below.refl _ _).drew) ?_
      dsimp only [List.filterMap, List.getElem?_cons_zero, List.getElem?_cons_succ]
      go_big_quiet_step (fail)
      go_big_quiet_step (fail)
      refine wpQuiet_nil ?_
      refine wpTree_pure _ _ _ (by rfl) (by rfl) ?_
      dsimp only [List.filterMap, List.getElem?_cons_zero, List.getElem?_cons_succ]
      repeat (go_big_quiet_step (fail))
      refine wpQuiet_nil ?_
      refine wpTree_done ?_
      have hC := (Below.refl w6.heap.size w6).drew
      have HB := Lib.hid (HB6.out.trans (hC.mono HB6.out.size))
      (replace hg0 := keep hC hg0; replace h7 := keep hC h7; replace h9x := keep hC h9x)
      clear HB6 hC
      have d3 := h9x.at_ 5 (hdc_at9 G 5 (by omega))
      have d4 := h9x.at_ 3 (hdc_at9 G 3 (by omega))
      clear h7 h9x hH5 hP5
      go_wp2_with (first
        | ((with_reducible show wpList _ _ _ ((⟨none, _, _, _, _, _⟩ : Oper) :: _) _ _); refine wpList_store_blk (o := ⟨none, _, _, _, _, _⟩) (hg0) (by rfl) _ _ _ (by rfl) (by rfl) (#[.int .i64 3, .int .i64 (G 5), .int .i64 (G 3), .bool false]) (by rfl) (sizeSt) (by rfl) (by rfl) (st_one _ _ _ _) ?_; intro w9 h9 hu9)
        | fail)
      refine bodyPost_ret (results_cell_row (by rfl) _ _ _ _ _ _ _ (by rfl) h9 Tryd.underlying47 (by rfl) sizeSt) rfl ⟨by rw [hJ.out]; rfl, HB.out.upd hu9 HGE.out⟩
    · have HPL := Lib.hid (show 256 = (p.take 256).length by
        obtain ⟨s, hs, _⟩ := Slot.prep_ok p k HPR.out.1.symm
        rw [List.length_take]; omega)
      have hd256 : 256 ≤ m ∧ 256 ≤ d := by
        obtain ⟨s, hs, _⟩ := Slot.prep_ok p k HPR.out.1.symm
        have := HM.out; omega
      obtain ⟨hd1, hd2⟩ := hd256
      by_cases hs : h = p.take 256
      · have hJ := Lib.hid (show Slot.judge h p k = (1, F 5, F 3, false) by rw [hJ0.out]; simp [Slot.put, hs])
        have hSb := str_beq h (p.take 256)
        rw [decide_eq_true hs] at hSb
        clear hs
        refine wp_region_tree (Below w6.heap.size w6) [] (PlanT.takes [0, 1, 2, 3, 4, 5, 6, 8, 9] (PlanT.takes [7, 10] (PlanT.takes [11, 12, 13] .done))) (by kernel_rfl) (by kernel_rfl) ((Below.refl _ _).drew) ?_
        refine wpTree_pure _ _ _ (by rfl) (by rfl) ?_
        dsimp only [List.filterMap, List.getElem?_cons_zero, List.getElem?_cons_succ]
        repeat (go_big_quiet_step (fail))
        refine wpQuiet_nil ?_
        refine wpTree_takeL _ _ _ (by rfl) (by rfl) ((Below.refl _ _).drew) ?_
        dsimp only [List.filterMap, List.getElem?_cons_zero, List.getElem?_cons_succ]
        (refine wpQuiet_want' (by rfl) ?_; refine wpQuiet_convert_str (by rfl) 27 9 5 _ (by rfl) Tryd.underlying27 Tryd.underlying5 Tryd.underlying9 (A) (n) (c) (h) (by rfl) (HN.out.1) (fun w' hw' => Bytes.below hH5 hw') ?_; simp only [Act.put, List.setIfInBounds_toArray, List.set_cons_zero, List.set_cons_succ])
        (refine wpQuiet_want' (by rfl) ?_; refine wpQuiet_convert_str (by rfl) 27 9 5 _ (by rfl) Tryd.underlying27 Tryd.underlying5 Tryd.underlying9 (B) (256) (d) (p.take 256) (by rfl) (HPL.out) (fun w' hw' => Bytes.below hP5 hw') ?_; simp only [Act.put, List.setIfInBounds_toArray, List.set_cons_zero, List.set_cons_succ])
        refine wpQuiet_nil ?_
        refine wpTree_pure _ _ _ (by rfl) (by rfl) ?_
        dsimp only [List.filterMap, List.getElem?_cons_zero, List.getElem?_cons_succ]
        repeat (go_big_quiet_step (fail))
        refine wpQuiet_nil ?_
        refine wpTree_done ?_
        have hC := (Below.refl w6.heap.size w6).drew
        have HB := Lib.hid (HB6.out.trans (hC.mono HB6.out.size))
        (replace hg0 := keep hC hg0; replace h7 := keep hC h7; replace h9x := keep hC h9x)
        clear HB6 hC
        have d3 := h7.at_ 5 (msgc_at F _ 5 (by omega))
        have d4 := h7.at_ 3 (msgc_at F _ 3 (by omega))
        clear h7 h9x hH5 hP5
        go_wp2_with (first
          | ((with_reducible show wpList _ _ _ ((⟨none, _, _, _, _, _⟩ : Oper) :: _) _ _); refine wpList_store_blk (o := ⟨none, _, _, _, _, _⟩) (hg0) (by rfl) _ _ _ (by rfl) (by rfl) (#[.int .i64 1, .int .i64 (F 5), .int .i64 (F 3), .bool false]) (by rfl) (sizeSt) (by rfl) (by rfl) (st_one _ _ _ _) ?_; intro w9 h9 hu9)
          | fail)
        refine bodyPost_ret (results_cell_row (by rfl) _ _ _ _ _ _ _ (by rfl) h9 Tryd.underlying47 (by rfl) sizeSt) rfl ⟨by rw [hJ.out]; rfl, HB.out.upd hu9 HGE.out⟩
      · have hJ1 := Lib.hid (show Slot.judge h p k = if (decide (G 5 < F 5) || (G 5 == F 5 && decide (G 3 < F 3))) = true then (1, F 5, F 3, true) else (3, G 5, G 3, false) by rw [hJ0.out]; simp [Slot.put, hs])
        have hSb := str_beq h (p.take 256)
        rw [decide_eq_false hs] at hSb
        clear hs
        refine wp_region_tree (Below w6.heap.size w6) [] (PlanT.takes [0, 1, 2, 3, 4, 5, 6, 8, 9] (PlanT.takes [7, 10] (PlanT.takes [11, 12, 13] .done))) (by kernel_rfl) (by kernel_rfl) ((Below.refl _ _).drew) ?_
        refine wpTree_pure _ _ _ (by rfl) (by rfl) ?_
        dsimp only [List.filterMap, List.getElem?_cons_zero, List.getElem?_cons_succ]
        repeat (go_big_quiet_step (fail))
        refine wpQuiet_nil ?_
        refine wpTree_takeL _ _ _ (by rfl) (by rfl) ((Below.refl _ _).drew) ?_
        dsimp only [List.filterMap, List.getElem?_cons_zero, List.getElem?_cons_succ]
        (refine wpQuiet_want' (by rfl) ?_; refine wpQuiet_convert_str (by rfl) 27 9 5 _ (by rfl) Tryd.underlying27 Tryd.underlying5 Tryd.underlying9 (A) (n) (c) (h) (by rfl) (HN.out.1) (fun w' hw' => Bytes.below hH5 hw') ?_; simp only [Act.put, List.setIfInBounds_toArray, List.set_cons_zero, List.set_cons_succ])
        (refine wpQuiet_want' (by rfl) ?_; refine wpQuiet_convert_str (by rfl) 27 9 5 _ (by rfl) Tryd.underlying27 Tryd.underlying5 Tryd.underlying9 (B) (256) (d) (p.take 256) (by rfl) (HPL.out) (fun w' hw' => Bytes.below hP5 hw') ?_; simp only [Act.put, List.setIfInBounds_toArray, List.set_cons_zero, List.set_cons_succ])
        refine wpQuiet_nil ?_
        refine wpTree_pure _ _ _ (by rfl) (by rfl) ?_
        dsimp only [List.filterMap, List.getElem?_cons_zero, List.getElem?_cons_succ]
        repeat (go_big_quiet_step (fail))
        refine wpQuiet_nil ?_
        refine wpTree_done ?_
        have hC := (Below.refl w6.heap.size w6).drew
        have HB := Lib.hid (HB6.out.trans (hC.mono HB6.out.size))
        (replace hg0 := keep hC hg0; replace h7 := keep hC h7; replace h9x := keep hC h9x)
        clear HB6 hC
        have d1 := h9x.at_ 5 (hdc_at9 G 5 (by omega))
        have d2 := h9x.at_ 3 (hdc_at9 G 3 (by omega))
        have d3 := h7.at_ 5 (msgc_at F _ 5 (by omega))
        have d4 := h7.at_ 3 (msgc_at F _ 3 (by omega))
        clear h7 h9x hH5 hP5 hSb hd1 hd2
        cases h1 : decide (G 5 < F 5)
        · cases h2 : (G 5 == F 5)
          · have hJ := Lib.hid (show Slot.judge h p k = (3, G 5, G 3, false) by rw [hJ1.out, h1, h2]; rfl)
            go_wp2_with (first
              | ((with_reducible show wpList _ _ _ ((⟨none, _, _, _, _, _⟩ : Oper) :: _) _ _); refine wpList_store_blk (o := ⟨none, _, _, _, _, _⟩) (hg0) (by rfl) _ _ _ (by rfl) (by rfl) (#[.int .i64 3, .int .i64 (G 5), .int .i64 (G 3), .bool false]) (by rfl) (sizeSt) (by rfl) (by rfl) (st_one _ _ _ _) ?_; intro w9 h9 hu9)
              | fail)
            refine bodyPost_ret (results_cell_row (by rfl) _ _ _ _ _ _ _ (by rfl) h9 Tryd.underlying47 (by rfl) sizeSt) rfl ⟨by rw [hJ.out]; rfl, HB.out.upd hu9 HGE.out⟩
          · cases h3 : decide (G 3 < F 3)
            · have hJ := Lib.hid (show Slot.judge h p k = (3, G 5, G 3, false) by rw [hJ1.out, h1, h2, h3]; rfl)
              go_wp2_with (first
                | ((with_reducible show wpList _ _ _ ((⟨none, _, _, _, _, _⟩ : Oper) :: _) _ _); refine wpList_store_blk (o := ⟨none, _, _, _, _, _⟩) (hg0) (by rfl) _ _ _ (by rfl) (by rfl) (#[.int .i64 3, .int .i64 (G 5), .int .i64 (G 3), .bool false]) (by rfl) (sizeSt) (by rfl) (by rfl) (st_one _ _ _ _) ?_; intro w9 h9 hu9)
                | fail)
              refine bodyPost_ret (results_cell_row (by rfl) _ _ _ _ _ _ _ (by rfl) h9 Tryd.underlying47 (by rfl) sizeSt) rfl ⟨by rw [hJ.out]; rfl, HB.out.upd hu9 HGE.out⟩
            · have hJ := Lib.hid (show Slot.judge h p k = (1, F 5, F 3, true) by rw [hJ1.out, h1, h2, h3]; rfl)
              go_wp2_with (first
                | ((with_reducible show wpList _ _ _ ((⟨none, _, _, _, _, _⟩ : Oper) :: _) _ _); refine wpList_store_blk (o := ⟨none, _, _, _, _, _⟩) (hg0) (by rfl) _ _ _ (by rfl) (by rfl) (#[.int .i64 1, .int .i64 (F 5), .int .i64 (F 3), .bool true]) (by rfl) (sizeSt) (by rfl) (by rfl) (st_one _ _ _ _) ?_; intro w9 h9 hu9)
                | fail)
              refine bodyPost_ret (results_cell_row (by rfl) _ _ _ _ _ _ _ (by rfl) h9 Tryd.underlying47 (by rfl) sizeSt) rfl ⟨by rw [hJ.out]; rfl, HB.out.upd hu9 HGE.out⟩
        · have hJ := Lib.hid (show Slot.judge h p k = (1, F 5, F 3, true) by rw [hJ1.out, h1]; rfl)
          go_wp2_with (first
            | ((with_reducible show wpList _ _ _ ((⟨none, _, _, _, _, _⟩ : Oper) :: _) _ _); refine wpList_store_blk (o := ⟨none, _, _, _, _, _⟩) (hg0) (by rfl) _ _ _ (by rfl) (by rfl) (#[.int .i64 1, .int .i64 (F 5), .int .i64 (F 3), .bool true]) (by rfl) (sizeSt) (by rfl) (by rfl) (st_one _ _ _ _) ?_; intro w9 h9 hu9)
            | fail)
          refine bodyPost_ret (results_cell_row (by rfl) _ _ _ _ _ _ _ (by rfl) h9 Tryd.underlying47 (by rfl) sizeSt) rfl ⟨by rw [hJ.out]; rfl, HB.out.upd hu9 HGE.out⟩
end Go.Proofs.YtekdcjaljjlemaaDoor

/- A slot's bytes of a prepare: the program's and the document's. Conditions: the body can be read; the numbers are what Go's types hold. -/
namespace Go.Proofs.YtekdcjaljjlemaaDoor
open Go.RowKit
theorem Ent.nil_is (w : World) : Ent.Is w ⟨none, 0, []⟩ := ⟨Nat.le_refl _, by simp, .inl ⟨rfl, rfl⟩⟩
theorem Ent.nil_blk (b : Nat) : ∀ g, Ent.blk ⟨none, 0, []⟩ = some g → b ≤ g := fun g h => (by cases h)
set_option maxRecDepth 100000 in
set_option maxHeartbeats 2000000 in
theorem sbytes_any (f : HdF) (A : Option Addr) (n c : Nat) (body : List UInt8) (w : World) (hn : n = body.length) (hby : Bytes w A body) (hc : n ≤ c ∧ c ≤ 9223372036854775807) (hin : Hd.in_ f) :
    Calls Tryd.prog 8 #[.agg (msgc f (.slice A n c))] w fun e w' => ∃ E : Ent, e = .returned (.tuple #[E.val, .int .i64 (Slot.bytes f body).1]) ∧ E.Is w' ∧ (∀ g, E.blk = some g → w.heap.size ≤ g) ∧ E.n = E.l.length ∧
      E.l = (Slot.bytes f body).2 ∧ Below w.heap.size w w' := by
  have hm := Blk.new w 29 (msgc f (.slice A n c))
  have hB := (Below.refl w.heap.size w).alloc (Nat.le_refl _) (.cells (msgc f (.slice A n c)) 29)
  replace hby := Bytes.below hby hB
  have HN := Lib.hid hn
  have HC := Lib.hid hc
  have HIN := Lib.hid hin
  clear hn hc hin
  go_enter Tryd.func8, Tryd.ntmps8
  go_wp2_with (first
    | (show wpList _ _ _ ((⟨some 8, _, _, _, _, _⟩ : Oper) :: _) _ _; refine wpList_load_blk (o := ⟨some 8, _, _, _, _, _⟩) (hm) (by rfl) _ _ (by rfl) (by rfl) _ Tryd.underlying29 (by rfl) (sizeMsg) (msgc_size _ _) ?_)
    | fail)
  generalize w.alloc (.cells (msgc f (.slice A n c)) 29) = w1 at hm hB hby ⊢
  generalize hs0 : w.heap.size = s0 at hm ⊢
  have HS0 := Lib.hid hs0
  clear hs0
  refine (hseal_any f A n c body w1 HN.out hby HC.out HIN.out).mono ?_
  have hlt1 := hm.lt
  rintro e w2 ⟨E, rfl, hE, hEg, hEn, hEl, hbx⟩
  (replace hm := keep hbx hm; replace hB := hB.trans (hbx.mono hB.size))
  have hsz2 := hbx.size
  clear hbx hby HIN HN HC
  rcases Msg.seal_cases f body with ⟨hs, hl3, hok⟩ | ⟨co, hco, hs⟩
  · have hbl := Hd.bytes_length (setF f 2 body.length) body
    obtain ⟨X, hX⟩ : ∃ X, X = Hd.bytes (setF f 2 body.length) body := ⟨_, rfl⟩
    rw [← hX] at hs hbl
    have HSB := Lib.hid (show Slot.bytes f body = if Slot.is f (Slot.of (f 5)) = true then (0, fillN 1280 X) else (2, []) by unfold Slot.bytes; rw [hs, if_pos rfl])
    rw [hs] at hEl ⊢
    dsimp only at hEl ⊢
    obtain ⟨A2, n2, l2⟩ := E
    dsimp only at hEn hEl
    subst hEl hEn
    have HE := Lib.hid (And.intro hE (And.intro hEg (And.intro hbl hl3)))
    dsimp only [Ent.val]
    clear hE hEg hbl hl3 hs hX hok
    go_wp2_with fail
    refine wp_region_tree (Below w2.heap.size w2) [] (PlanT.takes [0, 2, 3] (PlanT.takes [1, 4] (.opt 5 (.opt 6 (PlanT.takes [7] .done) .no) .no))) (by kernel_rfl) (by kernel_rfl) ((Below.refl _ _).drew) ?_
    refine wpTree_pure _ _ _ (by rfl) (by rfl) ?_
    dsimp only [List.filterMap, List.getElem?_cons_zero, List.getElem?_cons_succ]
    repeat (go_big_quiet_step (fail))
    refine wpQuiet_nil ?_
    refine wpTree_takeL _ _ _ (by rfl) (by rfl) ((Below.refl _ _).drew) ?_
    dsimp only [List.filterMap, List.getElem?_cons_zero, List.getElem?_cons_succ]
    (refine wpQuiet_load_mid (fun w' hw' => hd_mid hm w' hw') (by rfl) _ _ (by rfl) (by rfl) _ Tryd.underlying26 (by rfl) (sizeHd) (by rw [Array.length_toList, hdc_size]) ?_; simp only [Act.put, List.setIfInBounds_toArray, List.set_cons_zero, List.set_cons_succ])
    (refine wpQuiet_load_cell (fun w' hw' => (hm.below hw' hm.lt).at_ 5 (msgc_at f _ 5 (by omega))) (by rfl) _ _ (by rfl) (by rfl) _ Tryd.underlying3 (by rfl) ?_; simp only [Act.put, List.setIfInBounds_toArray, List.set_cons_zero, List.set_cons_succ])
    refine wpQuiet_nil ?_
    rw [Array.toArray_toList]
    refine wpTree_one _ rfl ?_
    go_wp2_with fail
    refine (sof_any (f 5) _).mono ?_
    rintro e w3 ⟨rfl, hw3⟩
    have hC3 : Below w2.heap.size w2 w3 := by rw [hw3]; exact (Below.refl _ _).drew
    clear hw3
    obtain ⟨o, ho⟩ : ∃ o, o = Slot.of (f 5) := ⟨_, rfl⟩
    rw [← ho]
    have HO := Lib.hid ho
    clear ho
    go_wp2_with fail
    refine TreeQ.in_ hC3 ?_
    refine wpTree_one _ rfl ?_
    go_wp2_with fail
    refine (sis_any f o w3).mono ?_
    rintro e w4 ⟨rfl, hbx⟩
    have hC4 := hC3.trans (hbx.mono hC3.size)
    clear hbx hC3
    obtain ⟨q, hq⟩ : ∃ q, q = Slot.is f o := ⟨_, rfl⟩
    rw [← hq]
    rw [HO.out] at hq
    have HQ := Lib.hid hq
    clear hq
    go_wp2_with fail
    refine TreeQ.in_ hC4 ?_
    refine wpTree_pure _ _ _ (by rfl) (by rfl) ?_
    dsimp only [List.filterMap, List.getElem?_cons_zero, List.getElem?_cons_succ]
    repeat (go_big_quiet_step (fail))
    refine wpQuiet_nil ?_
    refine wpTree_done ?_
    have hB4 := hB.trans (hC4.mono hB.size)
    have hm4 := hm.below hC4 hm.lt
    clear hm hB
    cases q
    · have HB := Lib.hid hB4
      clear hB4 hm4 hC4
      go_wp2
      go_ret2
      rw [HSB.out, ← HQ.out]
      exact ⟨⟨none, 0, []⟩, rfl, Ent.nil_is _, Ent.nil_blk _, rfl, rfl, HB.out⟩
    · have hX4 : Bytes w4 A2 l2 := Bytes.below (Ent.Is.bytes HE.out.1) hC4
      have hXl : l2.length ≤ 1280 := by have := HE.out.2.2; omega
      have hc4 := hC4.size
      clear hC4
      go_wp2_with (first
        | (show wpList _ _ _ ((⟨some 23, _, _, _, _, _⟩ : Oper) :: _) _ _; refine wpList_make_bytes (o := ⟨some 23, _, _, _, _, _⟩) _ (by rfl) _ _ _ (by rfl) _ Tryd.underlying27 u8info .i64 .i64 _ _ (1280) (1280) (by rfl) (by rfl) (by first | rfl | omega) (by first | rfl | omega) (by omega) (by omega) ?_; intro w5 h5 hb5 hs5; have hX5 := hX4.below hb5)
        | (show wpList _ _ _ ((⟨some 26, _, _, _, _, _⟩ : Oper) :: _) _ _; refine wpList_copy_bytes (o := ⟨some 26, _, _, _, _, _⟩) (by rfl) _ _ _ _ (by rfl) 5 Tryd.underlying27 size1 w4.heap.size 1280 1280 A2 l2.length l2.length (by rfl) (by rfl) (List.replicate 1280 0) l2 _ h5 rfl hX5 (by simpa using hXl) hXl ?_; intro w6 h6 hu6; have HBX := Lib.hid ((hB4.trans (hb5.mono hB4.size)).upd hu6 (by have := hB4.size; omega)); have H6 := Lib.hid h6; clear h5 hb5 hu6 hX5 hs5 hB4)
        | fail)
      go_ret2
      rw [HSB.out, ← HQ.out, if_pos rfl]
      have hfl := fillN_length 1280 l2 hXl
      refine ⟨⟨some ⟨w4.heap.size, 0, none⟩, 1280, fillN 1280 l2⟩, by unfold Ent.val; simp only; rw [hfl]; rfl, ⟨by simp only; omega, by simp only; omega, .inr ⟨w4.heap.size, 5, rfl, H6.out.sub ?_⟩⟩, fun g h => ?_, by simp only; omega, rfl, HBX.out⟩
      · unfold fillN; rw [List.drop_replicate]
      · unfold Ent.blk at h; simp at h; have := HS0.out; omega
  · have HSB := Lib.hid (show Slot.bytes f body = (co, []) by unfold Slot.bytes; rw [hs, if_neg hco])
    rw [hs] at hEl ⊢
    have hc0 : (co != 0) = true := by rw [bne_iff_ne]; exact hco
    dsimp only
    have HB := Lib.hid hB
    clear hE hEg hEn hEl hs hco hm hB
    go_wp2
    go_ret2
    rw [HSB.out]
    exact ⟨⟨none, 0, []⟩, rfl, Ent.nil_is _, Ent.nil_blk _, rfl, rfl, HB.out⟩
set_option maxRecDepth 100000 in
set_option maxHeartbeats 2000000 in
theorem rbytes7_any (f : HdF) (A : Option Addr) (n c : Nat) (body : List UInt8) (w : World) (hn : n = body.length) (hby : Bytes w A body) (hc : n ≤ c ∧ c ≤ 9223372036854775807) (hin : Hd.in_ f) :
    Calls Tryd.prog 9 #[.agg (msgc f (.slice A n c))] w fun e w' => ∃ v sp, e = .returned (.tuple #[v, .int .i64 (Slot.bytes f body).1]) ∧ OwnB 5 w' w.heap.size v (Slot.bytes f body).2 sp ∧ Below w.heap.size w w' := by
  have hm := Blk.new w 29 (msgc f (.slice A n c))
  have hB := (Below.refl w.heap.size w).alloc (Nat.le_refl _) (.cells (msgc f (.slice A n c)) 29)
  replace hby := Bytes.below hby hB
  have HN := Lib.hid hn
  have HC := Lib.hid hc
  have HIN := Lib.hid hin
  clear hn hc hin
  go_enter Tryd.func9, Tryd.ntmps9
  go_wp2_with (first
    | (show wpList _ _ _ ((⟨some 7, _, _, _, _, _⟩ : Oper) :: _) _ _; refine wpList_load_blk (o := ⟨some 7, _, _, _, _, _⟩) (hm) (by rfl) _ _ (by rfl) (by rfl) _ Tryd.underlying29 (by rfl) (sizeMsg) (msgc_size _ _) ?_)
    | fail)
  generalize w.alloc (.cells (msgc f (.slice A n c)) 29) = w1 at hm hB hby ⊢
  generalize hs0 : w.heap.size = s0 at hm ⊢
  have HS0 := Lib.hid hs0
  clear hs0
  refine (rhseal_any f A n c body w1 HN.out hby HC.out HIN.out).mono ?_
  have hlt1 := hm.lt
  rintro e w2 ⟨v, sp, rfl, ho, hbx⟩
  (replace hm := keep hbx hm; replace hB := hB.trans (hbx.mono hB.size))
  have hsz2 := hbx.size
  clear hbx hby HIN HN HC
  rcases Msg.seal_cases f body with ⟨hs, hl3, hok⟩ | ⟨co, hco, hs⟩
  · have hbl := Hd.bytes_length (setF f 2 body.length) body
    obtain ⟨X, hX⟩ : ∃ X, X = Hd.bytes (setF f 2 body.length) body := ⟨_, rfl⟩
    rw [← hX] at hs hbl
    have HSB := Lib.hid (show Slot.bytes f body = if Slot.is f (Slot.of (f 5)) = true then (0, fillN 1280 X) else (2, []) by unfold Slot.bytes; rw [hs, if_pos rfl])
    rw [hs] at ho ⊢
    dsimp only at ho ⊢
    obtain ⟨A2, n2, c2, rfl⟩ := OwnB.slice ho
    have hn2 : n2 = X.length := by obtain ⟨_, _, h1, _⟩ := OwnB.open_ ho; injection h1
    subst hn2
    have HE := Lib.hid (And.intro ho (And.intro hbl hl3))
    clear ho hbl hl3 hs hX hok
    go_wp2_with fail
    refine wp_region_tree (Below w2.heap.size w2) [] (PlanT.takes [0, 2, 3] (PlanT.takes [1, 4] (.opt 5 (.opt 6 (PlanT.takes [7] .done) .no) .no))) (by kernel_rfl) (by kernel_rfl) ((Below.refl _ _).drew) ?_
    refine wpTree_pure _ _ _ (by rfl) (by rfl) ?_
    dsimp only [List.filterMap, List.getElem?_cons_zero, List.getElem?_cons_succ]
    repeat (go_big_quiet_step (fail))
    refine wpQuiet_nil ?_
    refine wpTree_takeL _ _ _ (by rfl) (by rfl) ((Below.refl _ _).drew) ?_
    dsimp only [List.filterMap, List.getElem?_cons_zero, List.getElem?_cons_succ]
    (refine wpQuiet_load_mid (fun w' hw' => hd_mid hm w' hw') (by rfl) _ _ (by rfl) (by rfl) _ Tryd.underlying26 (by rfl) (sizeHd) (by rw [Array.length_toList, hdc_size]) ?_; simp only [Act.put, List.setIfInBounds_toArray, List.set_cons_zero, List.set_cons_succ])
    (refine wpQuiet_load_cell (fun w' hw' => (hm.below hw' hm.lt).at_ 5 (msgc_at f _ 5 (by omega))) (by rfl) _ _ (by rfl) (by rfl) _ Tryd.underlying3 (by rfl) ?_; simp only [Act.put, List.setIfInBounds_toArray, List.set_cons_zero, List.set_cons_succ])
    refine wpQuiet_nil ?_
    rw [Array.toArray_toList]
    refine wpTree_one _ rfl ?_
    go_wp2_with fail
    refine (rsof_any (f 5) _).mono ?_
    rintro e w3 ⟨rfl, hw3⟩
    have hC3 : Below w2.heap.size w2 w3 := by rw [hw3]; exact (Below.refl _ _).drew
    clear hw3
    obtain ⟨o, ho⟩ : ∃ o, o = Slot.of (f 5) := ⟨_, rfl⟩
    rw [← ho]
    have HO := Lib.hid ho
    clear ho
    go_wp2_with fail
    refine TreeQ.in_ hC3 ?_
    refine wpTree_one _ rfl ?_
    go_wp2_with fail
    refine (mine_any f o w3).mono ?_
    rintro e w4 ⟨rfl, hbx⟩
    have hC4 := hC3.trans (hbx.mono hC3.size)
    clear hbx hC3
    obtain ⟨q, hq⟩ : ∃ q, q = Slot.is f o := ⟨_, rfl⟩
    rw [← hq]
    rw [HO.out] at hq
    have HQ := Lib.hid hq
    clear hq
    go_wp2_with fail
    refine TreeQ.in_ hC4 ?_
    refine wpTree_pure _ _ _ (by rfl) (by rfl) ?_
    dsimp only [List.filterMap, List.getElem?_cons_zero, List.getElem?_cons_succ]
    repeat (go_big_quiet_step (fail))
    refine wpQuiet_nil ?_
    refine wpTree_done ?_
    have hB4 := hB.trans (hC4.mono hB.size)
    have hm4 := hm.below hC4 hm.lt
    clear hm hB
    cases q
    · have HB := Lib.hid hB4
      clear hB4 hm4 hC4
      go_wp2
      go_ret2
      rw [HSB.out, ← HQ.out]
      exact ⟨_, [], rfl, OwnsC.nil _ _ _ _, HB.out⟩
    · have ho4 := (HE.out.1).below hC4 (fun k hk => (OwnsC.lt HE.out.1 k hk).2)
      have hXl : X.length ≤ 1280 := by have := HE.out.2; omega
      have hs4 : w1.heap.size ≤ w4.heap.size := by have := hC4.size; omega
      have HX := Lib.hid (And.intro ho4 (And.intro hXl hs4))
      have HB4 := Lib.hid hB4
      clear hC4 ho4 hB4 hm4
      have e1 : ((1280 : Int) - (X.length : Int)) = ((1280 - X.length : Nat) : Int) := by omega
      have HE1 := Lib.hid e1
      clear e1
      go_wp2_with (first
        | (show wpList _ _ _ ((⟨some 26, _, _, _, _, _⟩ : Oper) :: _) _ _; refine wpList_append_zeros (o := ⟨some 26, _, _, _, _, _⟩) (by rfl) _ _ _ _ (by rfl) w1.heap.size _ .i64 Tryd.underlying27 Tryd.underlying3 u8info _ X sp (by rfl) HX.out.1 (1280 - X.length) (by show Value.int _ _ = _; rw [← HE1.out]) (by have := HX.out.2.1; omega) HX.out.2.2 ?_; intro v14 w14 sp14 ho14 hg14 _; have HO14 := Lib.hid ho14; have HB14 := Lib.hid (HB4.out.grown hg14 (by have := HX.out.2.2; have := HS0.out; omega) (fun k hk => by have h : w1.heap.size ≤ k := (OwnsC.lt HX.out.1 k hk).1; have := HS0.out; omega)); clear hg14 ho14)
        | fail)
      go_ret2
      rw [HSB.out, ← HQ.out, if_pos rfl]
      exact ⟨_, _, rfl, HO14.out.base_ (by have := HS0.out; omega), HB14.out⟩
  · have HSB := Lib.hid (show Slot.bytes f body = (co, []) by unfold Slot.bytes; rw [hs, if_neg hco])
    rw [hs] at ho ⊢
    have hc0 : (co != 0) = true := by rw [bne_iff_ne]; exact hco
    dsimp only
    have HB := Lib.hid hB
    clear ho hs hco hm hB
    go_wp2
    go_ret2
    rw [HSB.out]
    exact ⟨_, [], rfl, OwnsC.nil _ _ _ _, HB.out⟩
end Go.Proofs.YtekdcjaljjlemaaDoor

/- How two states of slots are compared; a prepare without a body and its slot's bytes. No condition. -/
namespace Go
theorem results_row_tmp2 {P : Program} {fn : Func} {p q r : Tmp} {ty : TypeId} (h : fn.results = #[.cell p ty, .tmp q, .tmp r]) (tmps : Array Value) (w : World) (g : Nat) (t : TypeId) (cs : Array Value) (d : TypeDesc)
    (hp : tmps.getD p undef = .pointer (some ⟨g, 0, none⟩)) (hg : Blk w g t cs)
    (hu : P.underlying ty = some d) (hd : (match d with | .struct _ | .array _ _ => true | _ => false) = true) (hi : (P.info? ty).map (·.size) = some cs.size) :
    (results fn tmps).run P w = .ok (.tuple #[.agg cs, tmps.getD q undef, tmps.getD r undef]) w := by
  have hp' : tmps[p]?.getD undef = .pointer (some ⟨g, 0, none⟩) := by simpa using hp
  simp [results, h, hp', asAddr, run_loadVar_row w g t ty cs (0, 0) d hg hu hd hi]
end Go
namespace Go.Proofs.YtekdcjaljjlemaaDoor
open Go.RowKit
theorem noselSt : Tryd.prog.eqGuardType Tryd.prog.depth 47 = false := by kernel_rfl
theorem heldSt : Tryd.prog.stoodInHeld 47 = false := by kernel_rfl
abbrev SSt := Int × Int × Int × Bool
set_option maxRecDepth 100000 in
set_option maxHeartbeats 1000000 in
theorem eqSt (w : World) (x y : SSt) : (Op.equalIn 10000 47 (stv x) (stv y)).run Tryd.prog w = .ok (decide (x = y)) w := by
  obtain ⟨a1, a2, a3, a4⟩ := x
  obtain ⟨b1, b2, b3, b4⟩ := y
  unfold stv
  have hu : Tryd.prog.underlying 47 = some (.struct (Tryd.prog.fieldsOf 47)) := by kernel_rfl
  rw [show (10000 : Nat) = 9999 + 1 from rfl, run_equalIn_struct w 9999 47 _ _ hu heldSt]
  have e : Tryd.prog.fieldsOf 47 = (match Tryd.prog.underlying 47 with | some (.struct fs) => fs | _ => #[]) := rfl
  rw [e, Tryd.underlying47]
  have ei := Tryd.underlying3
  have ej := Tryd.underlying4
  simp [Op.eqFields, part, go_sem, ei, ej]
  by_cases h1 : a1 = b1 <;> by_cases h2 : a2 = b2 <;> by_cases h3 : a3 = b3 <;> cases a4 <;> cases b4 <;> simp [h1, h2, h3]
theorem exec_eql_st {o : Oper} {ac : Act} (w : World) (x y : Operand) (r : TypeId) (ho : o.op = .binOp .eql 47 x y r) (f g : SSt) (hx : ac.eval x = stv f) (hy : ac.eval y = stv g) :
    (execOp ac.eval o).run Tryd.prog w = .ok (.value (.bool (decide (f = g)))) w := by
  have e1 := eqSt w f g
  unfold stv at hx hy e1
  unfold execOp
  simp only [ho, hx, hy, Sem.run_bind, run_eqGuard_agg w .eql 47 x y _ _ noselSt, Result.andThen_ok, run_eql_struct, e1, Sem.run_pure]
set_option maxHeartbeats 1000000 in
theorem isst_any (x : SSt) (a b c : Int) (d : Bool) (w : World) : Calls Tryd.prog 20 #[stv x, .int .i64 a, .int .i64 b, .int .i64 c, .bool d] w fun e w' => e = .returned (.bool (decide (x = (a, b, c, d)))) ∧ Below w.heap.size w w' := by
  obtain ⟨S, hS⟩ : ∃ S : Array Value, stv x = .agg S := ⟨_, rfl⟩
  have hs4 : S.size = 4 := by unfold stv at hS; injection hS with hS; rw [← hS]; rfl
  have hB := Lib.hid ((Below.refl w.heap.size w).alloc (Nat.le_refl _) (.cells S 47))
  have hg := Blk.new w 47 S
  rw [hS]
  have HS := Lib.hid hS
  clear hS
  go_enter Tryd.func20, Tryd.ntmps20
  go_wp2_with (first
    | ((with_reducible show wpList _ _ _ ((⟨some 11, _, _, _, _, _⟩ : Oper) :: _) _ _); refine wpList_load_blk (o := ⟨some 11, _, _, _, _, _⟩) (hg) (by rfl) _ _ (by rfl) (by rfl) _ Tryd.underlying47 (by rfl) (sizeSt) (hs4) ?_)
    | ((with_reducible show wpList _ _ _ ((⟨some 17, _, _, _, _, _⟩ : Oper) :: _) _ _); refine wpList_run (o := ⟨some 17, _, _, _, _, _⟩) _ (by rfl) (exec_eql_st _ _ _ _ (by rfl) x (a, b, c, d) (by rw [HS.out]; rfl) (by rfl)) ?_)
    | fail)
  go_ret
  exact ⟨rfl, hB.out⟩
/-! ### A prepare without a body -/
def fP (op vw : Int) : HdF := fun i => if i = 0 then 2 else if i = 3 then vw else if i = 5 then op else 0
theorem fP_cells (op vw : Int) : msgc (fP op vw) (.slice none 0 0) = #[.int .i64 2, .int .i64 0, .int .i64 0, .int .i64 vw, .int .i64 0, .int .i64 op, .int .i64 0, .int .i64 0, .int .i64 0, .int .u64 0, .int .u64 0, .int .i64 0, .int .i64 0, .int .u64 0, .int .i64 0, .int .i64 0, .slice none 0 0] := by rfl
def slotP (op vw : Int) : List UInt8 := fillN 1280 (Hd.bytes (fP op vw) [])
theorem fP_ok (op vw : Int) (h : 1 ≤ op ∧ op ≤ 1000 ∧ 0 ≤ vw ∧ vw ≤ 1000) : Hd.ok (fP op vw) = true ∧ Hd.in_ (fP op vw) ∧ setF (fP op vw) 2 0 = fP op vw ∧ Slot.is (fP op vw) (Slot.of op) = true := by
  refine ⟨?_, by unfold Hd.in_ fP; simp, setF_self _ _ _ rfl, ?_⟩
  · unfold Hd.ok tenI numOk fP
    simp
    omega
  · unfold Slot.is fP
    simp
    omega
theorem slotP_length (op vw : Int) : (slotP op vw).length = 1280 := fillN_length _ _ (by rw [Hd.bytes_length]; simp)
theorem slotP_take (op vw : Int) : (slotP op vw).take 256 = Hd.bytes (fP op vw) [] := by
  have hl := Hd.bytes_length (fP op vw) []
  unfold slotP
  rw [fillN_take _ _ _ (by rw [hl]; simp), List.take_of_length_le (by rw [hl]; simp)]
theorem slotP_bytes (op vw : Int) (h : 1 ≤ op ∧ op ≤ 1000 ∧ 0 ≤ vw ∧ vw ≤ 1000) : Slot.bytes (fP op vw) [] = (0, slotP op vw) := by
  obtain ⟨h1, h2, h3, h4⟩ := fP_ok op vw h
  have hs : Msg.seal_ (fP op vw) [] = (0, Hd.bytes (fP op vw) []) := by
    unfold Msg.seal_
    rw [if_neg (by simp), show (([] : List UInt8).length : Int) = 0 from rfl, h3, if_pos h1]
  unfold Slot.bytes
  rw [hs, if_pos rfl, show fP op vw 5 = op from rfl, if_pos h4]
  rfl
/-- How it is read. -/
theorem slotP_prep (op vw : Int) (h : 1 ≤ op ∧ op ≤ 1000 ∧ 0 ≤ vw ∧ vw ≤ 1000) : ∃ F, Slot.prep (slotP op vw) (Slot.of op) = (true, F, []) ∧ Slot.kind ((slotP op vw).take 256) (Slot.of op) = (2, F) ∧ Hd.same F (fP op vw) := by
  obtain ⟨h1, h2, h3, h4⟩ := fP_ok op vw h
  have ht := slotP_take op vw
  obtain ⟨e1, e2, e3⟩ := Slot.prep_bytes (slotP op vw) (fP op vw) [] (Slot.of op) ht h1 h2 rfl h4
  refine ⟨_, e1, ?_, e2⟩
  rw [e3]
  exact Slot.kind_bytes (fP op vw) [] _ h1 h2 h4
set_option maxRecDepth 100000 in
set_option maxHeartbeats 2000000 in
theorem prepare_any (op vw : Int) (h : 1 ≤ op ∧ op ≤ 1000 ∧ 0 ≤ vw ∧ vw ≤ 1000) (w : World) : Calls Tryd.prog 18 #[.int .i64 op, .int .i64 vw] w fun e w' => ∃ g t, e = .returned (.tuple #[.agg (msgc (fP op vw) (.slice none 0 0)), .slice (some ⟨g, 0, none⟩) 1280 1280, .bool true]) ∧
      w.heap.size ≤ g ∧ Blk w' g t ((slotP op vw).map u8v).toArray ∧ Below w.heap.size w w' := by
  have hg0 := ((Blk.new w 29 #[.int .i64 0, .int .i64 0, .int .i64 0, .int .i64 0, .int .i64 0, .int .i64 0, .int .i64 0, .int .i64 0, .int .i64 0, .int .u64 0, .int .u64 0, .int .i64 0, .int .i64 0, .int .u64 0, .int .i64 0, .int .i64 0, .slice none 0 0]).sub zeroMsg_cells.symm).alloc (.cells #[.int .i64 0, .int .i64 0, .int .i64 0, .int .i64 0, .int .i64 0, .int .i64 0, .int .i64 0, .int .i64 0, .int .i64 0, .int .u64 0, .int .u64 0, .int .i64 0, .int .i64 0, .int .u64 0, .int .i64 0, .int .i64 0, .slice none 0 0] 29)
  have hg1 := (Blk.new' (w.alloc (.cells #[.int .i64 0, .int .i64 0, .int .i64 0, .int .i64 0, .int .i64 0, .int .i64 0, .int .i64 0, .int .i64 0, .int .i64 0, .int .u64 0, .int .u64 0, .int .i64 0, .int .i64 0, .int .u64 0, .int .i64 0, .int .i64 0, .slice none 0 0] 29)) 29 #[.int .i64 0, .int .i64 0, .int .i64 0, .int .i64 0, .int .i64 0, .int .i64 0, .int .i64 0, .int .i64 0, .int .i64 0, .int .u64 0, .int .u64 0, .int .i64 0, .int .i64 0, .int .u64 0, .int .i64 0, .int .i64 0, .slice none 0 0] (n := w.heap.size + 1) (by simp)).sub zeroMsg_cells.symm
  have hB0 := Lib.hid (((Below.refl w.heap.size w).alloc (Nat.le_refl _) (.cells #[.int .i64 0, .int .i64 0, .int .i64 0, .int .i64 0, .int .i64 0, .int .i64 0, .int .i64 0, .int .i64 0, .int .i64 0, .int .u64 0, .int .u64 0, .int .i64 0, .int .i64 0, .int .u64 0, .int .i64 0, .int .i64 0, .slice none 0 0] 29)).alloc (by simp) (.cells #[.int .i64 0, .int .i64 0, .int .i64 0, .int .i64 0, .int .i64 0, .int .i64 0, .int .i64 0, .int .i64 0, .int .i64 0, .int .u64 0, .int .u64 0, .int .i64 0, .int .i64 0, .int .u64 0, .int .i64 0, .int .i64 0, .slice none 0 0] 29))
  have HP := Lib.hid h
  clear h
  go_enter Tryd.func18, Tryd.ntmps18
  go_wp2_with (first
    | (rw [← fP_cells]; ((with_reducible show wpList _ _ _ ((⟨none, _, _, _, _, _⟩ : Oper) :: _) _ _); refine wpList_store_blk (o := ⟨none, _, _, _, _, _⟩) (hg1) (by rfl) _ _ _ (by rfl) (by rfl) (msgc (fP op vw) (.slice none 0 0)) (by rfl) (sizeMsg) (msgc_size _ _) (msgc_size _ _) (msgc_one _ _ rfl) ?_; intro w2 h2 hu2; have hg2 := hg0.upd hu2 (by omega); have hB2 := Lib.hid (hB0.out.upd hu2 (by omega)); clear hg0 hg1 hu2 hB0))
    | ((with_reducible show wpList _ _ _ ((⟨some 15, _, _, _, _, _⟩ : Oper) :: _) _ _); refine wpList_load_blk (o := ⟨some 15, _, _, _, _, _⟩) (h2) (by rfl) _ _ (by rfl) (by rfl) _ Tryd.underlying29 (by rfl) (sizeMsg) (msgc_size _ _) ?_)
    | fail)
  have hg0 := hg2
  clear hg2
  obtain ⟨g1, hg1⟩ : ∃ x, x = w.heap.size + 1 := ⟨_, rfl⟩
  rw [← hg1] at h2 ⊢
  clear hg1
  obtain ⟨g0, hgn⟩ : ∃ x, x = w.heap.size := ⟨_, rfl⟩
  rw [← hgn] at hg0 ⊢
  have HGE : Hid (w.heap.size ≤ g0) := Lib.hid (by omega)
  clear hgn
  have hl0 := hg0.lt
  have hl1 := h2.lt
  have hin := (fP_ok op vw HP.out).2.1
  refine (sbytes_any (fP op vw) none 0 0 [] w2 rfl (nilBytes w2) ⟨Nat.le_refl _, by omega⟩ hin).mono ?_
  rintro e w3 ⟨E, rfl, hE, hEg, hEn, hEl, hbx⟩
  rw [slotP_bytes op vw HP.out] at hEl ⊢
  dsimp only at hEl
  have hlen := slotP_length op vw
  obtain ⟨X, hX⟩ : ∃ X, X = slotP op vw := ⟨_, rfl⟩
  rw [← hX] at hEl hlen ⊢
  have HX := Lib.hid hX
  clear hX hin
  obtain ⟨A3, n3, l3⟩ := E
  dsimp only at hEn hEl
  subst hEl hEn
  obtain ⟨g, t, e3, hb3, e3b⟩ := Ent.Is.blk_ hE (by dsimp only; omega)
  dsimp only at e3 hb3
  subst e3
  have hge := hEg _ e3b
  have hsz := hB2.out.size
  (replace hg0 := keep hbx hg0; replace h2 := keep hbx h2)
  have hB3 := Lib.hid (hB2.out.trans (hbx.mono hB2.out.size))
  dsimp only [Ent.val]
  rw [hlen]
  have HE := Lib.hid (And.intro hb3 (show w.heap.size ≤ g by omega))
  have hne : Hid (g ≠ g0) := Lib.hid (by omega)
  clear hE hEg e3b hbx hB2 hlen hb3 hge hsz
  go_wp2_with (first
    | ((with_reducible show wpList _ _ _ ((⟨some 19, _, _, _, _, _⟩ : Oper) :: _) _ _); refine wpList_load_blk (o := ⟨some 19, _, _, _, _, _⟩) (h2) (by rfl) _ _ (by rfl) (by rfl) _ Tryd.underlying29 (by rfl) (sizeMsg) (msgc_size _ _) ?_)
    | ((with_reducible show wpList _ _ _ ((⟨none, _, _, _, _, _⟩ : Oper) :: _) _ _); refine wpList_store_blk (o := ⟨none, _, _, _, _, _⟩) (hg0) (by rfl) _ _ _ (by rfl) (by rfl) (msgc (fP op vw) (.slice none 0 0)) (by rfl) (sizeMsg) (msgc_size _ _) (msgc_size _ _) (msgc_one _ _ rfl) ?_; intro w9 h9 hu9)
    | fail)
  refine bodyPost_ret (results_row_tmp2 (by rfl) _ _ g0 _ _ _ (by rfl) h9 Tryd.underlying29 (by rfl) (by rw [msgc_size]; exact sizeMsg)) rfl ⟨g, t, rfl, HE.out.2, ?_, hB3.out.upd hu9 HGE.out⟩
  rw [← HX.out]
  exact HE.out.1.upd hu9 hne.out
end Go.Proofs.YtekdcjaljjlemaaDoor
