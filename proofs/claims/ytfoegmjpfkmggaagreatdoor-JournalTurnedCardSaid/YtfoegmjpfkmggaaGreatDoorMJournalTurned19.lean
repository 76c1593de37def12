/- A header out of bytes, by the document: Head. Conditions: the bytes can be read. (Printed by gen/rhc.py.) -/
import Derived.Test.YtfoegmjpfkmggaaGreatDoorMJournalTurned18
namespace Go.Proofs.YtfoegmjpfkmggaaGreatDoor
open Go.RowKit
def hpt (raw : List UInt8) (k : Nat) : HdF := fun i => if i < k then Hd.parse raw i else 0
theorem hpt_succ (raw : List UInt8) (k : Nat) : hpt raw (k + 1) = setF (hpt raw k) k (Hd.parse raw k) := by
  funext i
  unfold hpt setF
  dsimp only
  by_cases h : i = k
  · subst h; rw [if_pos (by omega), if_pos rfl]
  · rw [if_neg h]
    by_cases h2 : i < k
    · rw [if_pos h2, if_pos (by omega)]
    · rw [if_neg h2, if_neg (by omega)]
theorem hdc_setT (f : HdF) (v : Int) : (hdc f).setIfInBounds 13 (.int .u64 v) = hdc (setF f 13 v) := by
  unfold hdc
  rw [arr_set]
  refine arr_congr fun j _ => ?_
  unfold hdv setF
  by_cases e : j = 13
  · subst e; rw [if_pos rfl, if_pos (by omega), if_pos rfl]
  · rw [if_neg e, if_neg e]
theorem hpt_11 (raw : List UInt8) : (hdc (hpt raw 11)).setIfInBounds 11 (.int .i64 (at4 raw 84 : Nat)) = hdc (hpt raw 12) := by
  rw [hpt_succ raw 11, ← hdc_set _ _ _ (by omega) (by omega) (by omega), show Hd.parse raw 11 = ((at4 raw 84 : Nat) : Int) by simp [Hd.parse]]
theorem hpt_12 (raw : List UInt8) : (hdc (hpt raw 12)).setIfInBounds 12 (.int .i64 (at4 raw 88 : Nat)) = hdc (hpt raw 13) := by
  rw [hpt_succ raw 12, ← hdc_set _ _ _ (by omega) (by omega) (by omega), show Hd.parse raw 12 = ((at4 raw 88 : Nat) : Int) by simp [Hd.parse]]
theorem hpt_13 (raw : List UInt8) : (hdc (hpt raw 13)).setIfInBounds 13 (.int .u64 (at8 raw 92 : Nat)) = hdc (hpt raw 14) := by
  rw [hpt_succ raw 13, ← hdc_setT, show Hd.parse raw 13 = ((at8 raw 92 : Nat) : Int) by simp [Hd.parse]]
theorem hpt_14 (raw : List UInt8) : (hdc (hpt raw 14)).setIfInBounds 14 (.int .i64 (at4 raw 100 : Nat)) = hdc (hpt raw 15) := by
  rw [hpt_succ raw 14, ← hdc_set _ _ _ (by omega) (by omega) (by omega), show Hd.parse raw 14 = ((at4 raw 100 : Nat) : Int) by simp [Hd.parse]]
theorem hpt_15 (raw : List UInt8) : (hdc (hpt raw 15)).setIfInBounds 15 (.int .i64 (at4 raw 104 : Nat)) = hdc (hpt raw 16) := by
  rw [hpt_succ raw 15, ← hdc_set _ _ _ (by omega) (by omega) (by omega), show Hd.parse raw 15 = ((at4 raw 104 : Nat) : Int) by simp [Hd.parse]]
theorem hpt_16 (raw : List UInt8) : hdc (hpt raw 16) = hdc (Hd.parse raw) := by
  unfold hdc
  refine arr_congr fun t ht => ?_
  unfold hdv
  rw [show hpt raw 16 t = Hd.parse raw t by unfold hpt; rw [if_pos ht]]
theorem hpt_z11 (raw : List UInt8) : (hdc (hpt raw 11))[11]? = some (.int .i64 0) := by
  rw [hdc_at _ 11 (by omega) (by omega) (by omega) (by omega), show hpt raw 11 11 = 0 by unfold hpt; rw [if_neg (by omega)]]
theorem hpt_z12 (raw : List UInt8) : (hdc (hpt raw 12))[12]? = some (.int .i64 0) := by
  rw [hdc_at _ 12 (by omega) (by omega) (by omega) (by omega), show hpt raw 12 12 = 0 by unfold hpt; rw [if_neg (by omega)]]
theorem hpt_z14 (raw : List UInt8) : (hdc (hpt raw 14))[14]? = some (.int .i64 0) := by
  rw [hdc_at _ 14 (by omega) (by omega) (by omega) (by omega), show hpt raw 14 14 = 0 by unfold hpt; rw [if_neg (by omega)]]
theorem hpt_z15 (raw : List UInt8) : (hdc (hpt raw 15))[15]? = some (.int .i64 0) := by
  rw [hdc_at _ 15 (by omega) (by omega) (by omega) (by omega), show hpt raw 15 15 = 0 by unfold hpt; rw [if_neg (by omega)]]
theorem hpt_z13 (raw : List UInt8) : (hdc (hpt raw 13))[13]? = some (.int .u64 0) := by
  rw [hdc_u _ 13 (by omega), show hpt raw 13 13 = 0 by unfold hpt; rw [if_neg (by omega)]]
def RhRel (w : World) (g : Nat) (raw : List UInt8) (i : Value) (wr : World) : Prop := ∃ k : Nat, k ≤ 9 ∧ i = .int .i64 (k : Int) ∧ Blk wr g 146 (arr 9 fun t => if t < k then .int .i64 (at4 raw (32 + 4 * t) : Nat) else .int .i64 0) ∧ Near [g] w wr
def RhRel2 (w : World) (g : Nat) (raw : List UInt8) (i : Value) (wr : World) : Prop := ∃ k : Nat, k ≤ 16 ∧ i = .int .i64 (k : Int) ∧ Blk wr g 150 (arr 16 fun t => if t < k then u8v (raw.getD (16 + t) 0) else .int .u8 0) ∧ Near [g] w wr
set_option maxRecDepth 100000 in
set_option maxHeartbeats 4000000 in
theorem rhead_any (A : Option Addr) (n c : Nat) (raw : List UInt8) (hn : n = raw.length) (hc : n ≤ c) (hc2 : n ≤ 140737488351232 ∧ c ≤ 9223372036854775807) (w : World) (hby : Bytes w A raw) :
    Calls Tryz.prog 44 #[.slice A n c] w fun e w' => e = .returned (.tuple #[.agg (hdc (Hd.read raw).2), .int .i64 (Hd.read raw).1]) ∧ Below w.heap.size w w' := by
  have hg0 := (Blk.new w 38 #[.int .i64 0, .int .i64 0, .int .i64 0, .int .i64 0, .int .i64 0, .int .i64 0, .int .i64 0, .int .i64 0, .int .i64 0, .int .u64 0, .int .u64 0, .int .i64 0, .int .i64 0, .int .u64 0, .int .i64 0, .int .i64 0]).sub zeroHd_cells.symm
  have hB0 : Below w.heap.size w (w.alloc (.cells #[.int .i64 0, .int .i64 0, .int .i64 0, .int .i64 0, .int .i64 0, .int .i64 0, .int .i64 0, .int .i64 0, .int .i64 0, .int .u64 0, .int .u64 0, .int .i64 0, .int .i64 0, .int .u64 0, .int .i64 0, .int .i64 0] 38)) := (Below.refl _ _).alloc (Nat.le_refl _) _
  have hby1 := Bytes.below hby hB0
  obtain ⟨g0, hgn⟩ : ∃ g0, g0 = w.heap.size := ⟨_, rfl⟩
  by_cases h1 : n = 256
  case neg =>
    have hrd : Hid (Hd.read raw = (4, Hd.none_)) := Lib.hid (by unfold Hd.read; rw [if_pos (by omega)])
    have H1 : ((n : Int) != 256) = true := by rw [bne_iff_ne]; omega
    have HB := Lib.hid hB0
    clear hn hby hby1 hB0 hgn h1
    go_enter Tryz.func44, Tryz.ntmps44
    go_wp2_with (first
      | ((with_reducible show wpList _ _ _ ((⟨none, _, _, _, _, _⟩ : Oper) :: _) _ _); refine wpList_store_blk (o := ⟨none, _, _, _, _, _⟩) (hg0) (by rfl) _ _ _ (by rfl) (by rfl) (hdc zeroHd) (by rfl) (sizeHd) (hdc_size _) (hdc_size _) (hdc_one _) ?_; intro wf hf9 hfu)
      | fail)
    refine bodyPost_ret (results_row_tmp (by rfl) _ _ w.heap.size _ _ _ (by rfl) hf9 Tryz.underlying38 (by rfl) (by rw [hdc_size]; exact sizeHd)) rfl ⟨by rw [hrd.out]; rfl, HB.out.upd hfu (Nat.le_refl _)⟩
  subst h1
  obtain ⟨b, off, rfl, hbl, -⟩ := hby.at_ (by omega)
  rw [← hgn] at hg0
  have HG := Lib.hid (And.intro hgn (And.intro hB0 (And.intro hg0 (And.intro hby1 hbl))))
  have HN := Lib.hid (And.intro hn.symm (And.intro hc hc2))
  clear hby hby1 hB0 hg0 hbl hn hc hc2
  go_enter Tryz.func44, Tryz.ntmps44
  go_wp2_with fail
  rw [← hgn]
  clear hgn
  generalize w.alloc (.cells #[.int .i64 0, .int .i64 0, .int .i64 0, .int .i64 0, .int .i64 0, .int .i64 0, .int .i64 0, .int .i64 0, .int .i64 0, .int .u64 0, .int .u64 0, .int .i64 0, .int .i64 0, .int .u64 0, .int .i64 0, .int .i64 0] 38) = w1 at HG ⊢
  refine (ropen_any (some ⟨b, off, none⟩) 256 c raw HN.out.1.symm (by rw [HN.out.1]; exact HN.out.2.1) (by rw [HN.out.1]; exact HN.out.2.2) w1 HG.out.2.2.2.1).mono ?_
  rintro e w2 ⟨v, rfl, ⟨sp, ho⟩, hb2⟩
  have hw0 : w.heap.size ≤ w1.heap.size := HG.out.2.1.size
  have hg2 := HG.out.2.2.1.below hb2 HG.out.2.2.1.lt
  have hby2 := Bytes.below HG.out.2.2.2.1 hb2
  have hB2 := HG.out.2.1.trans (hb2.mono hw0)
  have hop : Sha.opened raw = if Sha.sum (raw.drop 16) = raw.take 16 then (0, raw.drop 16) else (12, []) := by unfold Sha.opened; rw [if_neg (by rw [HN.out.1]; omega)]
  by_cases hseal : Sha.sum (raw.drop 16) = raw.take 16
  case neg =>
    rw [if_neg hseal] at hop
    rw [hop] at ho ⊢
    have hrd : Hid (Hd.read raw = (12, Hd.none_)) := Lib.hid (by unfold Hd.read; rw [if_neg (by rw [HN.out.1]; simp), if_pos hseal])
    obtain ⟨A2, c2, rfl, -, -, -⟩ := OwnB.open_ ho
    have HB := Lib.hid hB2
    clear hseal hop ho hby2 hb2 hB2 hw0
    go_wp2_with (first
      | ((with_reducible show wpList _ _ _ ((⟨none, _, _, _, _, _⟩ : Oper) :: _) _ _); refine wpList_store_blk (o := ⟨none, _, _, _, _, _⟩) (hg2) (by rfl) _ _ _ (by rfl) (by rfl) (hdc zeroHd) (by rfl) (sizeHd) (hdc_size _) (hdc_size _) (hdc_one _) ?_; intro wf hf9 hfu)
      | fail)
    refine bodyPost_ret (results_row_tmp (by rfl) _ _ g0 _ _ _ (by rfl) hf9 Tryz.underlying38 (by rfl) (by rw [hdc_size]; exact sizeHd)) rfl ⟨by rw [hrd.out]; rfl, (HB.out).upd hfu (by rw [HG.out.1]; exact Nat.le_refl _)⟩
  rw [if_pos hseal] at hop
  rw [hop] at ho ⊢
  obtain ⟨A2, c2, rfl, hc2', hc2'', hrest⟩ := OwnB.open_ ho
  have hrl : (raw.drop 16).length = 240 := by rw [List.length_drop, HN.out.1]
  have H2 := Lib.hid (And.intro hg2 (And.intro hby2 (And.intro hB2 (And.intro hrest (And.intro hseal (And.intro hrl hc2'))))))
  clear hop ho hg2 hby2 hB2 hrest hseal hc2' hc2'' hb2 hw0
  rw [hrl]
  clear hrl
  -- the nine numbers
  have z9 := Blk.new w2 146 #[.int .i64 0, .int .i64 0, .int .i64 0, .int .i64 0, .int .i64 0, .int .i64 0, .int .i64 0, .int .i64 0, .int .i64 0]
  have hb3 := (Below.refl w2.heap.size w2).alloc (Nat.le_refl _) (.cells #[.int .i64 0, .int .i64 0, .int .i64 0, .int .i64 0, .int .i64 0, .int .i64 0, .int .i64 0, .int .i64 0, .int .i64 0] 146)
  have H3 := Lib.hid (And.intro z9 hb3)
  clear z9 hb3
  have hl2 := H2.out.1.lt
  go_wp2_with fail
  obtain ⟨gl, hgl⟩ : ∃ gl, gl = w2.heap.size := ⟨_, rfl⟩
  rw [← hgl] at H3 ⊢
  have HGL := Lib.hid hgl
  clear hgl
  generalize w2.alloc (.cells #[.int .i64 0, .int .i64 0, .int .i64 0, .int .i64 0, .int .i64 0, .int .i64 0, .int .i64 0, .int .i64 0, .int .i64 0] 146) = w3 at H3 ⊢
  have hB3 : Below w2.heap.size w2 w3 := by rw [← HGL.out]; exact H3.out.2
  have HR := Lib.hid (And.intro HN.out.1 (And.intro (show ∀ w', Near [gl] w3 w' → Bytes w' (some ⟨b, off, none⟩) raw from fun w' hw' => Bytes.near (Bytes.below H2.out.2.1 hB3) hw' (fun ad e => by cases e; have h1 := HG.out.2.2.2.2; have h2 := HG.out.2.1.size; have h3 := H2.out.2.2.1.size; have h4 := HGL.out; simp; omega)) hB3))
  clear hB3
  go_loopw [7] (fun i wr => RhRel w3 gl raw i wr) (fun i _ => 9 - (intOf i).toNat)
  case atStart => exact ⟨0, Nat.zero_le _, rfl, H3.out.1, Near.refl _ _⟩
  case round =>
    obtain ⟨k, hk, rfl, hb, hnr⟩ := hrel
    by_cases hlt : k < 9
    · have e1 : wrap64 (4 * (k : Int)) = 4 * (k : Int) := by unfold wrap64; omega
      have e2 : wrap64 (32 + 4 * (k : Int)) = ((32 + 4 * k : Nat) : Int) := by unfold wrap64; omega
      have qk := hb.at_ k (v := .int .i64 0) (by rw [arr_at _ hlt, if_neg (by omega)])
      have fk := hb.frozen k
      have HX := Lib.hid (And.intro hb hnr)
      clear hb hnr
      go_wp2_with fail
      refine (rat_any (some ⟨b, off, none⟩) 256 c raw (32 + 4 * k) 4 (by omega) (by have := HR.out.1; omega) HR.out.1.symm (by omega) (by omega) wr (HR.out.2.1 _ HX.out.2)).mono ?_
      rintro e wr' ⟨rfl, hw⟩
      obtain rfl := hw.symm
      clear hw e1 e2
      rw [lpart_4]
      obtain ⟨x, hx⟩ : ∃ x, x = at4 raw (32 + 4 * k) := ⟨_, rfl⟩
      have hv : wrap64 ((x : Nat) : Int) = (x : Nat) := by have := at4_lt raw (32 + 4 * k); rw [hx]; unfold wrap64; omega
      rw [← hx]
      have HXX := Lib.hid hx
      clear hx
      go_wp2_with fail
      have hu := (Upd.refl gl wr).set k (.int .i64 (x : Nat))
      have g1 := (HX.out.1.set_ k (.int .i64 (x : Nat))).sub (show _ = arr 9 (fun t => if t < k + 1 then .int .i64 (at4 raw (32 + 4 * t) : Nat) else .int .i64 0) by
        rw [arr_set]
        apply arr_congr
        intro t ht
        by_cases e : t = k
        · subst e; rw [if_pos rfl, if_pos (by omega), HXX.out]
        · rw [if_neg e]
          by_cases h2 : t < k
          · rw [if_pos h2, if_pos (by omega)]
          · rw [if_neg h2, if_neg (by omega)])
      exact ⟨⟨k + 1, by omega, by go_num, g1, HX.out.2.trans (Near.upd hu (List.mem_singleton_self _))⟩, by simp [intOf]; omega⟩
    · obtain rfl : k = 9 := by omega
      clear hlt hk
      have cc : ∀ i, i < 9 → wr.cell? ⟨gl, i, none⟩ = some (.int .i64 (at4 raw (32 + 4 * i) : Nat)) := fun i hi => by
        rw [hb.cell, arr_at _ hi, if_pos hi]
      have q0 := cc 0 (by omega)
      have q1 := cc 1 (by omega)
      have q2 := cc 2 (by omega)
      have q3 := cc 3 (by omega)
      have q4 := cc 4 (by omega)
      have q5 := cc 5 (by omega)
      have q6 := cc 6 (by omega)
      have q7 := cc 7 (by omega)
      have q8 := cc 8 (by omega)
      have HX := Lib.hid hnr
      clear hb hnr cc
      go_wp2_with (first
        | ((with_reducible show wpList _ _ _ ((⟨none, _, _, _, _, _⟩ : Oper) :: _) _ _); refine wpList_store_blk (o := ⟨none, _, _, _, _, _⟩) ((Blk.new wr 38 #[.int .i64 0, .int .i64 0, .int .i64 0, .int .i64 0, .int .i64 0, .int .i64 0, .int .i64 0, .int .i64 0, .int .i64 0, .int .u64 0, .int .u64 0, .int .i64 0, .int .i64 0, .int .u64 0, .int .i64 0, .int .i64 0])) (by rfl) _ _ _ (by rfl) (by rfl) (hdc (hpt raw 9)) (by rfl) (sizeHd) (by rfl) (hdc_size _) (hdc_one _) ?_; intro w4 h4 hu4; refine stopped ?_)
        | fail)
      refine Stopped.mk ?_
      have hB3 : Below w2.heap.size w2 w3 := by rw [← HGL.out]; exact H3.out.2
      have hBr : Below w2.heap.size w2 wr := hB3.trans (HX.out.toBelow (fun x hx => by rw [List.mem_singleton.1 hx, HGL.out]; exact Nat.le_refl _) hB3.size)
      have hB4 : Below w2.heap.size w2 w4 := (hBr.trans (((Below.refl wr.heap.size wr).alloc (Nat.le_refl _) (.cells #[.int .i64 0, .int .i64 0, .int .i64 0, .int .i64 0, .int .i64 0, .int .i64 0, .int .i64 0, .int .i64 0, .int .i64 0, .int .u64 0, .int .u64 0, .int .i64 0, .int .i64 0, .int .u64 0, .int .i64 0, .int .i64 0] 38)).mono hBr.size)).upd hu4 hBr.size
      obtain ⟨gh, hgh⟩ : ∃ gh, gh = wr.heap.size := ⟨_, rfl⟩
      rw [← hgh] at h4 ⊢
      have HF := Lib.hid (show (∀ w', Near [gh] w4 w' → Below w2.heap.size w2 w') ∧ w2.heap.size ≤ gh from ⟨fun w' hw' => hB4.trans (hw'.toBelow (fun x hx => by rw [List.mem_singleton.1 hx, hgh]; exact hBr.size) hB4.size), by rw [hgh]; exact hBr.size⟩)
      have J0 := Lib.hid (And.intro h4 (Near.refl [gh] w4))
      have CUT : ∀ (k : Nat) (wx : World), k < 256 → Bytes wx (some ⟨b, off, none⟩) raw → Bytes wx (some ⟨b, off + k, none⟩) (raw.drop k) := fun k wx hk h => by
        have h := h.drop (k := k) (cap := c) (by have := HN.out; omega)
        rw [if_neg (by rcases HN.out with ⟨h1, h2, h3, h4⟩; intro e; omega)] at h
        simpa [Addr.add_lit] using h
      have HCUT := Lib.hid CUT
      clear hB3 hBr hB4 hgh hu4 h4 q0 q1 q2 q3 q4 q5 q6 q7 q8 HX CUT hl2 HR
      have HR := HN
      have h16 : ((raw.drop 68).take 16).length = 16 := by rw [List.length_take, List.length_drop, HN.out.1]; rfl
      have hrd := ruread_any (some ⟨b, off + 68, none⟩) (c - 68) ((raw.drop 68).take 16) h16 w4 ((HCUT.out 68 w4 (by omega) (Bytes.below H2.out.2.1 (HF.out.1 _ J0.out.2))).take 16)
      have hlo : at8 ((raw.drop 68).take 16) 0 = at8 raw 68 := by rw [at8_take _ _ _ (by omega), at8_drop]
      have hhi : at8 ((raw.drop 68).take 16) 8 = at8 raw 76 := by rw [at8_take _ _ _ (by omega), at8_drop]
      rw [hlo, hhi] at hrd
      have HRD := Lib.hid hrd
      clear hrd h16 hlo hhi
      have hc68 : ¬ c = 68 := by have := HN.out; omega
      have hc84 : 84 ≤ c := by have := HN.out; omega
      go_wp2_with fail
      refine HRD.out.mono ?_
      clear HRD
      rintro e w5 ⟨rfl, hb5⟩
      have J1 := Lib.hid (And.intro (J0.out.1.below hb5 J0.out.1.lt) (J0.out.2.trans (Near.below hb5)))
      have hh1 := J1.out.1
      clear hb5 J0 hc68 hc84
      go_wp2_with (first
        | ((with_reducible show wpList _ _ _ ((⟨none, _, _, _, _, _⟩ : Oper) :: _) _ _); refine wpList_store_in (o := ⟨none, _, _, _, _, _⟩) hh1 (by rfl) _ _ _ (by rfl) 9 (by rfl) (u128c (at8 raw 76) (at8 raw 68)) (by rfl) sizeU (by rfl) (by rw [hdc_size]; omega) (by simp [u128c, Value.oneCell']) ?_; intro w6 hh6 hu6; have J2 := Lib.hid (And.intro (hh6.sub (show _ = hdc (hpt raw 11) from rfl)) (J1.out.2.trans (Near.upd hu6 (List.mem_singleton_self _)))); clear hh6 hu6 hh1)
        | fail)
      clear J1
      go_wp2_with fail
      refine (rat_any (some ⟨b, off, none⟩) 256 c raw 84 4 (by omega) (by have := HR.out.1; omega) HR.out.1.symm (by omega) (by omega) w6 (Bytes.below H2.out.2.1 (HF.out.1 _ J2.out.2))).mono ?_
      rintro e w6' ⟨rfl, hw⟩
      obtain rfl := hw.symm
      clear hw
      rw [lpart_4]
      have hv11 : wrap64 ((at4 raw 84 : Nat) : Int) = (at4 raw 84 : Nat) := by have := at4_lt raw 84; unfold wrap64; omega
      have qc := J2.out.1.at_ 11 (v := .int .i64 0) (hpt_z11 raw)
      have qf := J2.out.1.frozen 11
      go_wp2_with fail
      have hu11 := (Upd.refl gh w6).set 11 (.int .i64 (at4 raw 84 : Nat))
      have HZ11 := Lib.hid hu11.size
      have J3 := Lib.hid (And.intro ((J2.out.1.set_ 11 (.int .i64 (at4 raw 84 : Nat))).sub (hpt_11 raw)) (J2.out.2.trans (Near.upd hu11 (List.mem_singleton_self _))))
      clear hv11 qc qf hu11
      generalize w6.setCell ⟨gh, 11, none⟩ (.int .i64 (at4 raw 84 : Nat)) = w7 at J3 HZ11 ⊢
      clear J2
      go_wp2_with fail
      refine (rat_any (some ⟨b, off, none⟩) 256 c raw 88 4 (by omega) (by have := HR.out.1; omega) HR.out.1.symm (by omega) (by omega) w7 (Bytes.below H2.out.2.1 (HF.out.1 _ J3.out.2))).mono ?_
      rintro e w7' ⟨rfl, hw⟩
      obtain rfl := hw.symm
      clear hw
      rw [lpart_4]
      have hv12 : wrap64 ((at4 raw 88 : Nat) : Int) = (at4 raw 88 : Nat) := by have := at4_lt raw 88; unfold wrap64; omega
      have qc := J3.out.1.at_ 12 (v := .int .i64 0) (hpt_z12 raw)
      have qf := J3.out.1.frozen 12
      go_wp2_with fail
      have hu12 := (Upd.refl gh w7).set 12 (.int .i64 (at4 raw 88 : Nat))
      have HZ12 := Lib.hid hu12.size
      have J4 := Lib.hid (And.intro ((J3.out.1.set_ 12 (.int .i64 (at4 raw 88 : Nat))).sub (hpt_12 raw)) (J3.out.2.trans (Near.upd hu12 (List.mem_singleton_self _))))
      clear hv12 qc qf hu12
      generalize w7.setCell ⟨gh, 12, none⟩ (.int .i64 (at4 raw 88 : Nat)) = w8 at J4 HZ12 ⊢
      clear J3
      go_wp2_with fail
      refine (rat_any (some ⟨b, off, none⟩) 256 c raw 92 8 (by omega) (by have := HR.out.1; omega) HR.out.1.symm (by omega) (by omega) w8 (Bytes.below H2.out.2.1 (HF.out.1 _ J4.out.2))).mono ?_
      rintro e w8' ⟨rfl, hw⟩
      obtain rfl := hw.symm
      clear hw
      rw [lpart_8]
      have qc := J4.out.1.at_ 13 (v := .int .u64 0) (hpt_z13 raw)
      have qf := J4.out.1.frozen 13
      go_wp2_with fail
      have hu13 := (Upd.refl gh w8).set 13 (.int .u64 (at8 raw 92 : Nat))
      have HZ13 := Lib.hid hu13.size
      have J5 := Lib.hid (And.intro ((J4.out.1.set_ 13 (.int .u64 (at8 raw 92 : Nat))).sub (hpt_13 raw)) (J4.out.2.trans (Near.upd hu13 (List.mem_singleton_self _))))
      clear qc qf hu13
      generalize w8.setCell ⟨gh, 13, none⟩ (.int .u64 (at8 raw 92 : Nat)) = w9 at J5 HZ13 ⊢
      clear J4
      go_wp2_with fail
      refine (rat_any (some ⟨b, off, none⟩) 256 c raw 100 4 (by omega) (by have := HR.out.1; omega) HR.out.1.symm (by omega) (by omega) w9 (Bytes.below H2.out.2.1 (HF.out.1 _ J5.out.2))).mono ?_
      rintro e w9' ⟨rfl, hw⟩
      obtain rfl := hw.symm
      clear hw
      rw [lpart_4]
      have hv14 : wrap64 ((at4 raw 100 : Nat) : Int) = (at4 raw 100 : Nat) := by have := at4_lt raw 100; unfold wrap64; omega
      have qc := J5.out.1.at_ 14 (v := .int .i64 0) (hpt_z14 raw)
      have qf := J5.out.1.frozen 14
      go_wp2_with fail
      have hu14 := (Upd.refl gh w9).set 14 (.int .i64 (at4 raw 100 : Nat))
      have HZ14 := Lib.hid hu14.size
      have J6 := Lib.hid (And.intro ((J5.out.1.set_ 14 (.int .i64 (at4 raw 100 : Nat))).sub (hpt_14 raw)) (J5.out.2.trans (Near.upd hu14 (List.mem_singleton_self _))))
      clear hv14 qc qf hu14
      generalize w9.setCell ⟨gh, 14, none⟩ (.int .i64 (at4 raw 100 : Nat)) = w10 at J6 HZ14 ⊢
      clear J5
      go_wp2_with fail
      refine (rat_any (some ⟨b, off, none⟩) 256 c raw 104 4 (by omega) (by have := HR.out.1; omega) HR.out.1.symm (by omega) (by omega) w10 (Bytes.below H2.out.2.1 (HF.out.1 _ J6.out.2))).mono ?_
      rintro e w10' ⟨rfl, hw⟩
      obtain rfl := hw.symm
      clear hw
      rw [lpart_4]
      have hv15 : wrap64 ((at4 raw 104 : Nat) : Int) = (at4 raw 104 : Nat) := by have := at4_lt raw 104; unfold wrap64; omega
      have qc := J6.out.1.at_ 15 (v := .int .i64 0) (hpt_z15 raw)
      have qf := J6.out.1.frozen 15
      go_wp2_with fail
      have hu15 := (Upd.refl gh w10).set 15 (.int .i64 (at4 raw 104 : Nat))
      have HZ15 := Lib.hid hu15.size
      have J7 := Lib.hid (And.intro ((J6.out.1.set_ 15 (.int .i64 (at4 raw 104 : Nat))).sub (hpt_15 raw)) (J6.out.2.trans (Near.upd hu15 (List.mem_singleton_self _))))
      clear hv15 qc qf hu15
      generalize w10.setCell ⟨gh, 15, none⟩ (.int .i64 (at4 raw 104 : Nat)) = w11 at J7 HZ15 ⊢
      clear J6
      rw [← HZ15.out]
      have za := (Blk.new w11 150 #[.int .u8 0, .int .u8 0, .int .u8 0, .int .u8 0, .int .u8 0, .int .u8 0, .int .u8 0, .int .u8 0, .int .u8 0, .int .u8 0, .int .u8 0, .int .u8 0, .int .u8 0, .int .u8 0, .int .u8 0, .int .u8 0]).sub (show _ = arr 16 (fun t => if t < 0 then u8v (raw.getD (16 + t) 0) else .int .u8 0) from rfl)
      have hb12 := (Below.refl w11.heap.size w11).alloc (Nat.le_refl _) (.cells #[.int .u8 0, .int .u8 0, .int .u8 0, .int .u8 0, .int .u8 0, .int .u8 0, .int .u8 0, .int .u8 0, .int .u8 0, .int .u8 0, .int .u8 0, .int .u8 0, .int .u8 0, .int .u8 0, .int .u8 0, .int .u8 0] 150)
      have hz12 : w2.heap.size ≤ w11.heap.size := (HF.out.1 _ J7.out.2).size
      have hgh := J7.out.1.lt
      obtain ⟨ga, hga⟩ : ∃ ga, ga = w11.heap.size := ⟨_, rfl⟩
      have hbA : Below w2.heap.size w2 (w11.alloc (.cells #[.int .u8 0, .int .u8 0, .int .u8 0, .int .u8 0, .int .u8 0, .int .u8 0, .int .u8 0, .int .u8 0, .int .u8 0, .int .u8 0, .int .u8 0, .int .u8 0, .int .u8 0, .int .u8 0, .int .u8 0, .int .u8 0] 150)) := (HF.out.1 _ J7.out.2).trans (hb12.mono hz12)
      have hhA : Blk (w11.alloc (.cells #[.int .u8 0, .int .u8 0, .int .u8 0, .int .u8 0, .int .u8 0, .int .u8 0, .int .u8 0, .int .u8 0, .int .u8 0, .int .u8 0, .int .u8 0, .int .u8 0, .int .u8 0, .int .u8 0, .int .u8 0, .int .u8 0] 150)) gh 38 (hdc (Hd.parse raw)) := ((J7.out.1.sub (hpt_16 raw)).alloc _)
      rw [← hga] at za ⊢
      have HA := Lib.hid (And.intro za (And.intro hbA (And.intro hhA (show w2.heap.size ≤ ga ∧ gh < ga from ⟨by omega, by omega⟩))))
      clear za hb12 hz12 hgh hga hbA hhA HZ11 HZ12 HZ13 HZ14 HZ15 J7 HF H3 HGL
      generalize w11.alloc (.cells #[.int .u8 0, .int .u8 0, .int .u8 0, .int .u8 0, .int .u8 0, .int .u8 0, .int .u8 0, .int .u8 0, .int .u8 0, .int .u8 0, .int .u8 0, .int .u8 0, .int .u8 0, .int .u8 0, .int .u8 0, .int .u8 0] 150) = w12 at HA ⊢
      go_loopw [10] (fun i wr => RhRel2 w12 ga raw i wr) (fun i _ => 16 - (intOf i).toNat)
      case atStart => exact ⟨0, Nat.zero_le _, rfl, HA.out.1, Near.refl _ _⟩
      case round =>
        obtain ⟨k, hk, rfl, hb, hnr⟩ := hrel
        have hbK : Below w2.heap.size w2 wr := HA.out.2.1.trans (hnr.toBelow (fun x hx => by rw [List.mem_singleton.1 hx]; exact HA.out.2.2.2.1) HA.out.2.1.size)
        by_cases hlt : k < 16
        · have e1 : wrap64 (16 + (k : Int)) = ((16 + k : Nat) : Int) := by unfold wrap64; omega
          have hraw := Bytes.below H2.out.2.1 hbK
          obtain ⟨b0, o0, e0, -, hcell⟩ := hraw.at_ (by have := HN.out.1; omega)
          cases e0
          have cb := hcell (16 + k) (by have := HN.out.1; omega)
          obtain ⟨x, hx⟩ : ∃ x, x = raw.getD (16 + k) 0 := ⟨_, rfl⟩
          rw [← hx] at cb
          have HXX := Lib.hid hx
          have qk := hb.at_ k (v := .int .u8 0) (by rw [arr_at _ hlt, if_neg (by omega)])
          have fk := hb.frozen k
          have HX := Lib.hid (And.intro hb hnr)
          clear hb hnr hraw hcell hx hbK
          go_wp2_with fail
          have hu := (Upd.refl ga wr).set k (.int .u8 (iu8 x))
          have g1 := (HX.out.1.set_ k (.int .u8 (iu8 x))).sub (show _ = arr 16 (fun t => if t < k + 1 then u8v (raw.getD (16 + t) 0) else .int .u8 0) by
            rw [arr_set]
            apply arr_congr
            intro t ht
            by_cases e : t = k
            · subst e; rw [if_pos rfl, if_pos (by omega), HXX.out]; rfl
            · rw [if_neg e]
              by_cases h2 : t < k
              · rw [if_pos h2, if_pos (by omega)]
              · rw [if_neg h2, if_neg (by omega)])
          exact ⟨⟨k + 1, by omega, by go_num, g1, HX.out.2.trans (Near.upd hu (List.mem_singleton_self _))⟩, by simp [intOf]; omega⟩
        · obtain rfl : k = 16 := by omega
          clear hlt hk
          obtain ⟨S, hS⟩ : ∃ S, S = (raw.drop 16).take 16 := ⟨_, rfl⟩
          have hSl : S.length = 16 := by rw [hS, List.length_take, List.length_drop, HN.out.1]; rfl
          have hba : Blk wr ga 150 (S.map u8v).toArray := hb.sub (by
            rw [← arr_u8 S 16 hSl]
            refine arr_congr fun t ht => ?_
            rw [if_pos ht, if_pos ht, hS, List.getD_eq_getElem?_getD, List.getD_eq_getElem?_getD, List.getElem?_take, if_pos ht, List.getElem?_drop])
          have hha := HA.out.2.2.1.near hnr (by have := HA.out.2.2.2.2; simp; omega)
          have hg9 := H2.out.1.below hbK H2.out.1.lt
          have hrs := Bytes.below H2.out.2.2.2.1 hbK
          have hBw : Below w.heap.size w wr := H2.out.2.2.1.trans (hbK.mono H2.out.2.2.1.size)
          have HE := Lib.hid (And.intro hba (And.intro hha (And.intro hg9 (And.intro hrs (And.intro hBw (And.intro hS hSl))))))
          have HBK := Lib.hid hbK
          clear hb hnr hba hha hg9 hrs hBw hS hSl hbK HA HCUT
          go_wp2_with fail
          obtain ⟨f, hf⟩ : ∃ f, f = Hd.parse raw := ⟨_, rfl⟩
          have hh := HE.out.2.1
          rw [← hf] at hh
          have HFF := Lib.hid hf
          clear hf
          have hC0 : Below wr.heap.size wr wr.drew := (Below.refl _ _).drew
          refine wp_region_tree (Below wr.heap.size wr) [] (PlanT.takes [0] (.opt 1 (PlanT.takes [2, 3, 8] (PlanT.takes [4, 5, 9] (.opt 6 (.opt 7 (PlanT.takes [10, 11] .done) .no) .no))) .no)) (by kernel_rfl) (by kernel_rfl) hC0 ?_
          refine wpTree_takeL _ _ _ (by rfl) (by rfl) (hC0) ?_
          dsimp only [List.filterMap, List.getElem?_cons_zero, List.getElem?_cons_succ]
          (refine wpQuiet_load_blk (fun w' hw' => hh.below hw' hh.lt) (by rfl) _ _ (by rfl) (by rfl) _ Tryz.underlying38 (by rfl) (sizeHd) (hdc_size _) ?_; simp only [Act.put, List.setIfInBounds_toArray, List.set_cons_zero, List.set_cons_succ])
          refine wpQuiet_nil ?_
          refine wpTree_one _ rfl ?_
          go_wp2_with fail
          refine (rhcheck_any f _).mono ?_
          rintro e w13 ⟨rfl, hb13⟩
          have hC1 : Below wr.heap.size wr w13 := hC0.trans hb13
          by_cases hok : Hd.ok f = true
          · rw [show Hd.code f = 0 by unfold Hd.code; rw [hok]; rfl]
            have HOK := Lib.hid hok
            clear hok hb13
            go_wp2_with fail
            refine TreeQ.in_ hC1 ?_
            refine wpTree_pure _ _ _ (by rfl) (by rfl) ?_
            dsimp only [List.filterMap, List.getElem?_cons_zero, List.getElem?_cons_succ]
            repeat (go_big_quiet_step (fail))
            refine wpQuiet_nil ?_
            refine wpTree_takeL _ _ _ (by rfl) (by rfl) (hC1) ?_
            dsimp only [List.filterMap, List.getElem?_cons_zero, List.getElem?_cons_succ]
            (refine wpQuiet_want' (by rfl) ?_; refine wpQuiet_load_blk (fun w' hw' => hh.below hw' hh.lt) (by rfl) _ _ (by rfl) (by rfl) _ Tryz.underlying38 (by rfl) (sizeHd) (hdc_size _) ?_; simp only [Act.put, List.setIfInBounds_toArray, List.set_cons_zero, List.set_cons_succ])
            (refine wpQuiet_want' (by rfl) ?_; refine wpQuiet_load_blk (fun w' hw' => HE.out.1.below hw' HE.out.1.lt) (by rfl) _ _ (by rfl) (by rfl) _ Tryz.underlying150 (by rfl) (size16) (by simp [HE.out.2.2.2.2.2.2]) ?_; simp only [Act.put, List.setIfInBounds_toArray, List.set_cons_zero, List.set_cons_succ])
            (refine wpQuiet_want' (by rfl) ?_; refine wpQuiet_convert_str (by rfl) 39 9 5 _ (by rfl) Tryz.underlying39 Tryz.underlying5 Tryz.underlying9 (A2) (240) (c2) (raw.drop 16) (by rfl) (H2.out.2.2.2.2.2.1.symm) (fun w' hw' => Bytes.below HE.out.2.2.2.1 hw') ?_; simp only [Act.put, List.setIfInBounds_toArray, List.set_cons_zero, List.set_cons_succ])
            refine wpQuiet_nil ?_
            refine wpTree_one _ rfl ?_
            go_wp2_with fail
            refine (rhbehind_any f S HE.out.2.2.2.2.2.2 (by rw [HFF.out]; exact Hd.parse_nat raw) (by rw [HFF.out]; exact Hd.parse_in raw) w13).mono ?_
            rintro e w14 ⟨v, sp2, rfl, ho, hb14⟩
            obtain ⟨A5, c5, rfl, -, -, hby5⟩ := OwnB.open_ ho
            have hC2 : Below wr.heap.size wr w14 := hC1.trans (hb14.mono hC1.size)
            have hR5 := Hd.rest_length f S HE.out.2.2.2.2.2.2
            have H5 := Lib.hid hby5
            clear ho hb14 hby5
            rw [hR5]
            have HR5 := Lib.hid hR5
            clear hR5
            go_wp2_with fail
            refine TreeQ.in_ hC2 ?_
            refine wpTree_one _ rfl ?_
            go_wp2_with (first
              | ((with_reducible show wpList _ _ _ ((⟨some 99, _, _, _, _, _⟩ : Oper) :: _) _ _); refine wpList_want (by rfl) ?_; refine wpList_convert_str (o := ⟨some 99, _, _, _, _, _⟩) (by rfl) 39 9 5 _ (by rfl) Tryz.underlying39 Tryz.underlying5 Tryz.underlying9 A5 240 c5 (Hd.rest f S) (by rfl) HR5.out.symm H5.out ?_)
              | fail)
            refine TreeQ.in_ hC2 ?_
            refine wpTree_pure _ _ _ (by rfl) (by rfl) ?_
            dsimp only [List.filterMap, List.getElem?_cons_zero, List.getElem?_cons_succ]
            repeat (go_big_quiet_step (fail))
            refine wpQuiet_nil ?_
            refine wpTree_done ?_
            have hh9 := hh.below hC2 hh.lt
            have hg9 := HE.out.2.2.1.below hC2 HE.out.2.2.1.lt
            have HB9 := Lib.hid (HE.out.2.2.2.2.1.trans (hC2.mono HE.out.2.2.2.2.1.size))
            rw [str_beq]
            by_cases heq : Hd.rest f S = raw.drop 16
            · rw [decide_eq_true heq]
              have hrd : Hid (Hd.read raw = (0, f)) := Lib.hid (by
                unfold Hd.read
                rw [if_neg (by rw [HN.out.1]; simp), if_neg (by rw [H2.out.2.2.2.2.1]; simp), ← HFF.out, ← HE.out.2.2.2.2.2.1, if_pos ⟨HOK.out, heq⟩])
              clear heq hC0 hC1 hC2 hh
              go_wp2_with (first
                | ((with_reducible show wpList _ _ _ ((⟨some 105, _, _, _, _, _⟩ : Oper) :: _) _ _); refine wpList_load_blk (o := ⟨some 105, _, _, _, _, _⟩) (hh9) (by rfl) _ _ (by rfl) (by rfl) _ Tryz.underlying38 (by rfl) (sizeHd) (hdc_size _) ?_)
                | ((with_reducible show wpList _ _ _ ((⟨none, _, _, _, _, _⟩ : Oper) :: _) _ _); refine wpList_store_blk (o := ⟨none, _, _, _, _, _⟩) (hg9) (by rfl) _ _ _ (by rfl) (by rfl) (hdc f) (by rfl) (sizeHd) (hdc_size _) (hdc_size _) (hdc_one _) ?_; intro wf hf9 hfu)
                | fail)
              refine bodyPost_ret (results_row_tmp (by rfl) _ _ g0 _ _ _ (by rfl) hf9 Tryz.underlying38 (by rfl) (by rw [hdc_size]; exact sizeHd)) rfl ⟨by rw [hrd.out]; rfl, (HB9.out).upd hfu (by rw [HG.out.1]; exact Nat.le_refl _)⟩
            · rw [decide_eq_false heq]
              have hrd : Hid (Hd.read raw = (4, Hd.none_)) := Lib.hid (by
                unfold Hd.read
                rw [if_neg (by rw [HN.out.1]; simp), if_neg (by rw [H2.out.2.2.2.2.1]; simp), ← HFF.out, ← HE.out.2.2.2.2.2.1, if_neg (fun h => heq h.2)])
              clear heq hC0 hC1 hC2 hh
              go_wp2_with (first
                | ((with_reducible show wpList _ _ _ ((⟨none, _, _, _, _, _⟩ : Oper) :: _) _ _); refine wpList_store_blk (o := ⟨none, _, _, _, _, _⟩) (hg9) (by rfl) _ _ _ (by rfl) (by rfl) (hdc zeroHd) (by rfl) (sizeHd) (hdc_size _) (hdc_size _) (hdc_one _) ?_; intro wf hf9 hfu)
                | fail)
              refine bodyPost_ret (results_row_tmp (by rfl) _ _ g0 _ _ _ (by rfl) hf9 Tryz.underlying38 (by rfl) (by rw [hdc_size]; exact sizeHd)) rfl ⟨by rw [hrd.out]; rfl, (HB9.out).upd hfu (by rw [HG.out.1]; exact Nat.le_refl _)⟩
          · have hrd : Hid (Hd.read raw = (4, Hd.none_)) := Lib.hid (by
              unfold Hd.read
              rw [if_neg (by rw [HN.out.1]; simp), if_neg (by rw [H2.out.2.2.2.2.1]; simp), ← HFF.out, ← HE.out.2.2.2.2.2.1, if_neg (fun h => hok h.1)])
            rw [show Hd.code f = 2 by unfold Hd.code; rw [if_neg hok]]
            have hg9 := HE.out.2.2.1.below hC1 HE.out.2.2.1.lt
            have HB9 := Lib.hid (HE.out.2.2.2.2.1.trans (hC1.mono HE.out.2.2.2.2.1.size))
            clear hok hb13
            go_wp2_with fail
            refine TreeQ.in_ hC1 ?_
            refine wpTree_pure _ _ _ (by rfl) (by rfl) ?_
            dsimp only [List.filterMap, List.getElem?_cons_zero, List.getElem?_cons_succ]
            repeat (go_big_quiet_step (fail))
            refine wpQuiet_nil ?_
            refine wpTree_takeL _ _ _ (by rfl) (by rfl) (hC1) ?_
            dsimp only [List.filterMap, List.getElem?_cons_zero, List.getElem?_cons_succ]
            go_big_quiet_step (fail)
            go_big_quiet_step (fail)
            go_big_quiet_step (fail)
            refine wpQuiet_nil ?_
            refine wpTree_one _ rfl ?_
            go_wp2_with fail
            refine TreeQ.in_ hC1 ?_
            refine wpTree_one _ rfl ?_
            go_wp2_with fail
            refine TreeQ.in_ hC1 ?_
            refine wpTree_pure _ _ _ (by rfl) (by rfl) ?_
            dsimp only [List.filterMap, List.getElem?_cons_zero, List.getElem?_cons_succ]
            repeat (go_big_quiet_step (fail))
            refine wpQuiet_nil ?_
            refine wpTree_done ?_
            clear hC0 hC1 hh
            go_wp2_with (first
              | ((with_reducible show wpList _ _ _ ((⟨none, _, _, _, _, _⟩ : Oper) :: _) _ _); refine wpList_store_blk (o := ⟨none, _, _, _, _, _⟩) (hg9) (by rfl) _ _ _ (by rfl) (by rfl) (hdc zeroHd) (by rfl) (sizeHd) (hdc_size _) (hdc_size _) (hdc_one _) ?_; intro wf hf9 hfu)
              | fail)
            refine bodyPost_ret (results_row_tmp (by rfl) _ _ g0 _ _ _ (by rfl) hf9 Tryz.underlying38 (by rfl) (by rw [hdc_size]; exact sizeHd)) rfl ⟨by rw [hrd.out]; rfl, (HB9.out).upd hfu (by rw [HG.out.1]; exact Nat.le_refl _)⟩
end Go.Proofs.YtfoegmjpfkmggaaGreatDoor

/- A message out of bytes, by the document: Open. Conditions: the bytes can be read. (Printed by gen/rhd.py.) -/
namespace Go.Proofs.YtfoegmjpfkmggaaGreatDoor
open Go.RowKit
theorem OwnsC.nearR {e : TypeId} {size base n : Nat} {w w' : World} {v : Value} {xs sp : List Value} {X : List Nat} (h : OwnsC e size w base v n xs sp) (k : Near X w w') (hX : ∀ g, v.ownBlock = some g → g ∉ X) : OwnsC e size w' base v n xs sp := by
  rcases h with h | ⟨g, cap, rfl, hb, hgg, rest⟩
  · exact .inl h
  · exact .inr ⟨g, cap, rfl, hb, hgg.near k (hX g rfl), rest⟩
set_option maxRecDepth 100000 in
set_option maxHeartbeats 4000000 in
theorem rmopen_any (A : Option Addr) (n c : Nat) (raw : List UInt8) (hn : n = raw.length) (hc : n ≤ c) (hc2 : n ≤ 140737488351232 ∧ c ≤ 9223372036854775807) (w : World) (hby : Bytes w A raw) :
    Calls Tryz.prog 86 #[.slice A n c] w fun e w' => ∃ v, e = .returned (.tuple #[.agg (msgc (Msg.read raw).2.1 v), .int .i64 (Msg.read raw).1]) ∧ (∃ sp, OwnB 5 w' w.heap.size v (Msg.read raw).2.2 sp) ∧ Below w.heap.size w w' := by
  have hg0 := (Blk.new w 41 #[.int .i64 0, .int .i64 0, .int .i64 0, .int .i64 0, .int .i64 0, .int .i64 0, .int .i64 0, .int .i64 0, .int .i64 0, .int .u64 0, .int .u64 0, .int .i64 0, .int .i64 0, .int .u64 0, .int .i64 0, .int .i64 0, .slice none 0 0]).sub zeroMsg_cells.symm
  have hB0 : Below w.heap.size w (w.alloc (.cells #[.int .i64 0, .int .i64 0, .int .i64 0, .int .i64 0, .int .i64 0, .int .i64 0, .int .i64 0, .int .i64 0, .int .i64 0, .int .u64 0, .int .u64 0, .int .i64 0, .int .i64 0, .int .u64 0, .int .i64 0, .int .i64 0, .slice none 0 0] 41)) := (Below.refl _ _).alloc (Nat.le_refl _) _
  have hby1 := Bytes.below hby hB0
  obtain ⟨g0, hgn⟩ : ∃ g0, g0 = w.heap.size := ⟨_, rfl⟩
  have HN := Lib.hid (And.intro hn (And.intro hc hc2))
  by_cases h1 : n < 256
  · have hrd : Hid (Msg.read raw = (4, Hd.none_, [])) := Lib.hid (by unfold Msg.read; rw [if_pos (by omega)])
    have HG := Lib.hid (show True ∧ Below w.heap.size w (w.alloc (.cells #[.int .i64 0, .int .i64 0, .int .i64 0, .int .i64 0, .int .i64 0, .int .i64 0, .int .i64 0, .int .i64 0, .int .i64 0, .int .u64 0, .int .u64 0, .int .i64 0, .int .i64 0, .int .u64 0, .int .i64 0, .int .i64 0, .slice none 0 0] 41)) from ⟨trivial, hB0⟩)
    have H1 : ((n : Int) < 256) := by omega
    clear hn hc hc2 hby hby1 hB0 hgn h1
    go_enter Tryz.func86, Tryz.ntmps86
    go_wp2_with (first
      | ((with_reducible show wpList _ _ _ ((⟨none, _, _, _, _, _⟩ : Oper) :: _) _ _); refine wpList_store_blk (o := ⟨none, _, _, _, _, _⟩) (hg0) (by rfl) _ _ _ (by rfl) (by rfl) (msgc zeroHd (.slice none 0 0)) (by rfl) (sizeMsg) (msgc_size _ _) (msgc_size _ _) (msgc_one _ _ rfl) ?_; intro wf hf9 hfu)
      | fail)
    refine bodyPost_ret (results_row_tmp (by rfl) _ _ w.heap.size _ _ _ (by rfl) hf9 Tryz.underlying41 (by rfl) (by rw [msgc_size]; exact sizeMsg)) rfl ?_
    rw [hrd.out]
    exact ⟨_, rfl, ⟨[], OwnsC.nil _ _ _ _⟩, (HG.out.2).upd hfu (Nat.le_refl _)⟩
  have H1 : ¬ ((n : Int) < 256) := by omega
  obtain ⟨b, off, rfl, hbl, -⟩ := hby.at_ (by omega)
  rw [← hgn] at hg0
  have HG := Lib.hid (And.intro hgn (And.intro hB0 (And.intro hg0 (And.intro hby1 (And.intro hbl (show 256 ≤ n by omega))))))
  have hcc : 256 ≤ c := by omega
  clear hby hby1 hB0 hg0 hbl hn hc hc2 h1
  go_enter Tryz.func86, Tryz.ntmps86
  go_wp2_with fail
  rw [← hgn]
  clear hgn H1
  generalize w.alloc (.cells #[.int .i64 0, .int .i64 0, .int .i64 0, .int .i64 0, .int .i64 0, .int .i64 0, .int .i64 0, .int .i64 0, .int .i64 0, .int .u64 0, .int .u64 0, .int .i64 0, .int .i64 0, .int .u64 0, .int .i64 0, .int .i64 0, .slice none 0 0] 41) = w1 at HG ⊢
  have hT : (raw.take 256).length = 256 := by rw [List.length_take]; have := HN.out.1; have := HG.out.2.2.2.2.2; omega
  refine (rhead_any (some ⟨b, off, none⟩) 256 c (raw.take 256) hT.symm hcc (by have := HN.out; omega) w1 (HG.out.2.2.2.1.take 256)).mono ?_
  rintro e w2 ⟨rfl, hb2⟩
  have hw0 : w.heap.size ≤ w1.heap.size := HG.out.2.1.size
  have hl1 := HG.out.2.2.1.lt
  have ha3 := (Below.refl w2.heap.size w2).alloc (Nat.le_refl _) (.cells #[.int .i64 0, .int .i64 0, .int .i64 0, .int .i64 0, .int .i64 0, .int .i64 0, .int .i64 0, .int .i64 0, .int .i64 0, .int .u64 0, .int .u64 0, .int .i64 0, .int .i64 0, .int .u64 0, .int .i64 0, .int .i64 0] 38)
  have hb3 : Below w1.heap.size w1 (w2.alloc (.cells #[.int .i64 0, .int .i64 0, .int .i64 0, .int .i64 0, .int .i64 0, .int .i64 0, .int .i64 0, .int .i64 0, .int .i64 0, .int .u64 0, .int .u64 0, .int .i64 0, .int .i64 0, .int .u64 0, .int .i64 0, .int .i64 0] 38)) := hb2.trans (ha3.mono hb2.size)
  have hs2 := hb2.size
  have H2 := Lib.hid (And.intro hb3 (And.intro hw0 (And.intro hl1 hs2)))
  clear hb2 ha3 hb3 hw0 hl1 hs2 hT
  have hrc := Hd.read_cases (raw.take 256)
  have HRC := Lib.hid hrc
  clear hrc
  obtain ⟨R, hR⟩ : ∃ R, R = Hd.read (raw.take 256) := ⟨_, rfl⟩
  have HRR := Lib.hid hR
  rw [← hR]
  clear hR
  obtain ⟨code, f⟩ := R
  dsimp only
  go_wp2_with (first
    | ((with_reducible show wpList _ _ _ ((⟨none, _, _, _, _, _⟩ : Oper) :: _) _ _); refine wpList_store_blk (o := ⟨none, _, _, _, _, _⟩) (((Blk.new w2 38 #[.int .i64 0, .int .i64 0, .int .i64 0, .int .i64 0, .int .i64 0, .int .i64 0, .int .i64 0, .int .i64 0, .int .i64 0, .int .u64 0, .int .u64 0, .int .i64 0, .int .i64 0, .int .u64 0, .int .i64 0, .int .i64 0]).sub zeroHd_cells.symm)) (by rfl) _ _ _ (by rfl) (by rfl) (hdc f) (by rfl) (sizeHd) (hdc_size _) (hdc_size _) (hdc_one _) ?_; intro w3 h3 hu3; refine stopped ?_)
    | fail)
  refine Stopped.mk ?_
  have hb3 : Below w1.heap.size w1 w3 := H2.out.1.upd hu3 H2.out.2.2.2
  obtain ⟨gh, hgh⟩ : ∃ x, x = w2.heap.size := ⟨_, rfl⟩
  rw [← hgh] at h3 ⊢
  have hB3 : Below w.heap.size w w3 := HG.out.2.1.trans (hb3.mono H2.out.2.1)
  have hg3 := HG.out.2.2.1.below hb3 H2.out.2.2.1
  have hby3 := Bytes.below HG.out.2.2.2.1 hb3
  have hlow : g0 < gh := by have := H2.out.2.2.1; have := H2.out.2.2.2; omega
  have H3 := Lib.hid (And.intro hB3 (And.intro hby3 (And.intro h3 hlow)))
  clear hb3 hgh hu3 hB3 hby3 hlow H2
  by_cases hcode : code = 0
  case neg =>
    have hrd : Hid (Msg.read raw = (code, Hd.none_, [])) := Lib.hid (by
      have := HN.out.1; have := HG.out.2.2.2.2.2
      unfold Msg.read; rw [if_neg (by omega), ← HRR.out, if_pos hcode])
    have hq : (code != 0) = true := by simpa using hcode
    have HB := Lib.hid H3.out.1
    clear hcode h3
    go_wp2_with (first
      | ((with_reducible show wpList _ _ _ ((⟨none, _, _, _, _, _⟩ : Oper) :: _) _ _); refine wpList_store_blk (o := ⟨none, _, _, _, _, _⟩) (hg3) (by rfl) _ _ _ (by rfl) (by rfl) (msgc zeroHd (.slice none 0 0)) (by rfl) (sizeMsg) (msgc_size _ _) (msgc_size _ _) (msgc_one _ _ rfl) ?_; intro wf hf9 hfu)
      | fail)
    refine bodyPost_ret (results_row_tmp (by rfl) _ _ g0 _ _ _ (by rfl) hf9 Tryz.underlying41 (by rfl) (by rw [msgc_size]; exact sizeMsg)) rfl ?_
    rw [hrd.out]
    exact ⟨_, rfl, ⟨[], OwnsC.nil _ _ _ _⟩, (HB.out).upd hfu (by rw [HG.out.1]; exact Nat.le_refl _)⟩
  subst hcode
  have hf : f = Hd.parse (raw.take 256) := by
    have h0 := HRR.out
    rcases HRC.out with (h | h) | ⟨h, -⟩
    · rw [h] at h0; injection h0 with h0; cases h0
    · rw [h] at h0; injection h0 with h0; cases h0
    · rw [h] at h0; injection h0
  have HF := Lib.hid hf
  clear hf
  have c2 := h3.at_ 2 (v := .int .i64 (f 2)) (hdc_at f 2 (by omega) (by omega) (by omega) (by omega))
  have hnn : 256 ≤ n := HG.out.2.2.2.2.2
  clear h3
  go_wp2_with (first
    | ((with_reducible show wpList _ _ _ ((⟨some 23, _, _, _, _, _⟩ : Oper) :: _) _ _); refine wpList_cut_bytes (o := ⟨some 23, _, _, _, _, _⟩) (by rfl) _ _ _ (by rfl) _ Tryz.underlying39 size1 (some ⟨b, off, none⟩) (n) (c) .i64 (256) (by rfl) (by rfl) (raw) (HN.out.1) (hnn) (by have h1 := HN.out.1; have h2 := HN.out.2.1; omega) (H3.out.2.1) ?_; intro A2 hA2 _; refine stopped ?_)
    | fail)
  refine Stopped.mk ?_
  obtain ⟨D, hD⟩ : ∃ D, D = raw.drop 256 := ⟨_, rfl⟩
  have hDl : D.length = raw.length - 256 := by rw [hD, List.length_drop]
  rw [← hD] at hA2
  rw [← hDl]
  obtain ⟨dl, hdl⟩ : ∃ dl, dl = D.length := ⟨_, rfl⟩
  rw [← hdl]
  have hrd0 : Msg.read raw = if ((dl : Nat) : Int) ≠ f 2 then (4, Hd.none_, []) else if Sha.sum D ≠ (raw.drop 16).take 16 then (12, Hd.none_, []) else (0, f, D) := by
    have h1 := HN.out.1
    unfold Msg.read
    rw [if_neg (by omega), if_neg (by rw [← HRR.out]; simp), ← HF.out, hdl, hDl, hD]
  have HD := Lib.hid (And.intro hdl (And.intro hDl (And.intro hrd0 hA2)))
  clear hD hDl hdl hrd0 hA2
  by_cases hsz : ((dl : Nat) : Int) = f 2
  case neg =>
    have hrd : Hid (Msg.read raw = (4, Hd.none_, [])) := Lib.hid (by rw [HD.out.2.2.1, if_pos hsz])
    have hq : (((dl : Nat) : Int) != f 2) = true := by simpa using hsz
    have HB := Lib.hid H3.out.1
    clear hsz hnn
    go_wp2_with (first
      | ((with_reducible show wpList _ _ _ ((⟨none, _, _, _, _, _⟩ : Oper) :: _) _ _); refine wpList_store_blk (o := ⟨none, _, _, _, _, _⟩) (hg3) (by rfl) _ _ _ (by rfl) (by rfl) (msgc zeroHd (.slice none 0 0)) (by rfl) (sizeMsg) (msgc_size _ _) (msgc_size _ _) (msgc_one _ _ rfl) ?_; intro wf hf9 hfu)
      | fail)
    refine bodyPost_ret (results_row_tmp (by rfl) _ _ g0 _ _ _ (by rfl) hf9 Tryz.underlying41 (by rfl) (by rw [msgc_size]; exact sizeMsg)) rfl ?_
    rw [hrd.out]
    exact ⟨_, rfl, ⟨[], OwnsC.nil _ _ _ _⟩, (HB.out).upd hfu (by rw [HG.out.1]; exact Nat.le_refl _)⟩
  have hq : (((dl : Nat) : Int) != f 2) = false := by simpa using hsz
  go_wp2_with fail
  have hsum := rsum_any A2 (c - 256) D (by have h1 := HD.out.2.1; have h2 := HN.out; omega) (by have h1 := HD.out.2.1; have h2 := HN.out; omega) w3 HD.out.2.2.2
  rw [← HD.out.1] at hsum
  refine hsum.mono ?_
  rintro e w4 ⟨rfl, hb4⟩
  have hs16 := Sha.sum_length D
  obtain ⟨S, hS⟩ : ∃ S, S = Sha.sum D := ⟨_, rfl⟩
  rw [← hS] at hs16 ⊢
  have HS := Lib.hid (And.intro hS hs16)
  have hgl := hg3.lt
  have hz := Blk.new w4 150 zero16
  have hbz := hb4.trans (((Below.refl w4.heap.size w4).alloc (Nat.le_refl _) (.cells zero16 150)).mono hb4.size)
  have hs4 := hb4.size
  have HZ := Lib.hid (And.intro hbz (And.intro hs4 hgl))
  have a16 := alloc16
  clear hsum hS hs16 hb4 hgl hbz hs4 c2 hsz
  go_wp2_with (first
    | ((with_reducible show wpList _ _ _ ((⟨none, _, _, _, _, _⟩ : Oper) :: _) _ _); refine wpList_store_blk (o := ⟨none, _, _, _, _, _⟩) (hz) (by rfl) _ _ _ (by rfl) (by rfl) ((S.map u8v).toArray) (by rfl) (size16) (arr_size _ _) (by simp [HS.out.2]) (u8_all _) ?_; intro w5 h5 hu5; refine stopped ?_)
    | fail)
  refine Stopped.mk ?_
  have hb5 : Below w3.heap.size w3 w5 := HZ.out.1.upd hu5 HZ.out.2.1
  have hg5 := hg3.below hb5 hg3.lt
  have hh5 := H3.out.2.2.1.below hb5 H3.out.2.2.1.lt
  have hr5 := Bytes.below H3.out.2.1 hb5
  have hD5 := Bytes.below HD.out.2.2.2 hb5
  have hT5 : Bytes w5 (some ⟨b, off + 16, none⟩) ((raw.drop 16).take 16) := by
    have h := hr5.drop (k := 16) (cap := c) (by have := HN.out; omega)
    rw [if_neg (by have := HN.out; intro e; omega)] at h
    exact Bytes.take (by simpa [Addr.add_lit] using h) 16
  have hTl : ((raw.drop 16).take 16).length = 16 := by rw [List.length_take, List.length_drop]; have := HN.out; omega
  obtain ⟨T, hT⟩ : ∃ T, T = (raw.drop 16).take 16 := ⟨_, rfl⟩
  rw [← hT] at hT5 hTl
  obtain ⟨gs, hgs⟩ : ∃ x, x = w4.heap.size := ⟨_, rfl⟩
  rw [← hgs] at h5 ⊢
  have hB5 : Below w.heap.size w w5 := H3.out.1.trans (hb5.mono H3.out.1.size)
  have H5 := Lib.hid (And.intro hB5 (And.intro hg5 (And.intro hh5 (And.intro hD5 (And.intro hT5 (And.intro hTl (And.intro hT h5.bytes)))))))
  have hc16 : ¬ c = 16 := by omega
  have hc32 : 32 ≤ c := by omega
  have hn32 : 32 ≤ n := by omega
  clear hb5 hg5 hh5 hr5 hD5 hT5 hTl hT hgs hB5 hu5 hz hg3 a16 h5
  go_wp2_with fail
  have hC0 : Near [] w5 w5.drew := (Near.refl _ _).drew
  refine wp_region_tree (Near [] w5) [] (PlanT.takes [0, 2, 3] (PlanT.takes [1, 4] (PlanT.takes [5] .done))) (by kernel_rfl) (by kernel_rfl) (hC0) ?_
  refine wpTree_pure _ _ _ (by rfl) (by rfl) ?_
  dsimp only [List.filterMap, List.getElem?_cons_zero, List.getElem?_cons_succ]
  repeat (go_big_quiet_step (fail))
  refine wpQuiet_nil ?_
  refine wpTree_takeL _ _ _ (by rfl) (by rfl) (hC0) ?_
  dsimp only [List.filterMap, List.getElem?_cons_zero, List.getElem?_cons_succ]
  (refine wpQuiet_convert_str (by rfl) 39 9 5 _ (by rfl) Tryz.underlying39 Tryz.underlying5 Tryz.underlying9 (some ⟨gs, 0, none⟩) (16) (16) (S) (by rfl) (HS.out.2.symm) (fun w' hw' => Bytes.near H5.out.2.2.2.2.2.2.2 hw' (fun _ _ => by simp)) ?_; simp only [Act.put, List.setIfInBounds_toArray, List.set_cons_zero, List.set_cons_succ])
  (refine wpQuiet_convert_str (by rfl) 39 9 5 _ (by rfl) Tryz.underlying39 Tryz.underlying5 Tryz.underlying9 (some ⟨b, off + 16, none⟩) (16) (c - 16) (T) (by rfl) (H5.out.2.2.2.2.2.1.symm) (fun w' hw' => Bytes.near H5.out.2.2.2.2.1 hw' (fun _ _ => by simp)) ?_; simp only [Act.put, List.setIfInBounds_toArray, List.set_cons_zero, List.set_cons_succ])
  refine wpQuiet_nil ?_
  refine wpTree_pure _ _ _ (by rfl) (by rfl) ?_
  dsimp only [List.filterMap, List.getElem?_cons_zero, List.getElem?_cons_succ]
  repeat (go_big_quiet_step (fail))
  refine wpQuiet_nil ?_
  refine wpTree_done ?_
  rw [str_beq]
  have hb6 : Below w5.heap.size w5 w5.drew := (Below.refl _ _).drew
  have hg6 := H5.out.2.1.drew
  have hh6 := H5.out.2.2.1.drew
  have hD6 := Bytes.below H5.out.2.2.2.1 hb6
  have H6 := Lib.hid (And.intro (H5.out.1.trans (hb6.mono H5.out.1.size)) (And.intro hg6 (And.intro hh6 hD6)))
  clear hC0 hb6 hh6 hD6
  by_cases heq : S = T
  case neg =>
    rw [decide_eq_false heq]
    have hrd : Hid (Msg.read raw = (12, Hd.none_, [])) := Lib.hid (by
      rw [HD.out.2.2.1, if_neg (by simpa using hq), if_pos (by rw [← HS.out.1, ← H5.out.2.2.2.2.2.2.1]; exact heq)])
    have HB := Lib.hid H6.out.1
    clear heq
    go_wp2_with (first
      | ((with_reducible show wpList _ _ _ ((⟨none, _, _, _, _, _⟩ : Oper) :: _) _ _); refine wpList_store_blk (o := ⟨none, _, _, _, _, _⟩) (hg6) (by rfl) _ _ _ (by rfl) (by rfl) (msgc zeroHd (.slice none 0 0)) (by rfl) (sizeMsg) (msgc_size _ _) (msgc_size _ _) (msgc_one _ _ rfl) ?_; intro wf hf9 hfu)
      | fail)
    refine bodyPost_ret (results_row_tmp (by rfl) _ _ g0 _ _ _ (by rfl) hf9 Tryz.underlying41 (by rfl) (by rw [msgc_size]; exact sizeMsg)) rfl ?_
    rw [hrd.out]
    exact ⟨_, rfl, ⟨[], OwnsC.nil _ _ _ _⟩, (HB.out).upd hfu (by rw [HG.out.1]; exact Nat.le_refl _)⟩
  rw [decide_eq_true heq]
  have hrd : Hid (Msg.read raw = (0, f, D)) := Lib.hid (by
    rw [HD.out.2.2.1, if_neg (by simpa using hq), if_neg (by rw [← HS.out.1, ← H5.out.2.2.2.2.2.2.1]; simpa using heq)])
  clear heq hg6
  generalize w5.drew = w6 at H6 ⊢
  go_wp2_with fail
  have hC0 : Near [g0] w6 w6.drew := (Near.refl _ _).drew
  refine wp_region_tree (Near [g0] w6) [] (PlanT.takes [2] (PlanT.takes [0] (.opt 1 (.opt 3 (PlanT.takes [4] (.opt 5 (PlanT.takes [6] .done) .no)) .no) .no))) (by kernel_rfl) (by kernel_rfl) (hC0) ?_
  refine wpTree_pure _ _ _ (by rfl) (by rfl) ?_
  dsimp only [List.filterMap, List.getElem?_cons_zero, List.getElem?_cons_succ]
  repeat (go_big_quiet_step (fail))
  refine wpQuiet_nil ?_
  refine wpTree_takeL _ _ _ (by rfl) (by rfl) (hC0) ?_
  dsimp only [List.filterMap, List.getElem?_cons_zero, List.getElem?_cons_succ]
  (refine wpQuiet_load_blk (fun w' hw' => H6.out.2.2.1.near hw' (by have := H3.out.2.2.2; simp; omega)) (by rfl) _ _ (by rfl) (by rfl) _ Tryz.underlying38 (by rfl) (sizeHd) (hdc_size _) ?_; simp only [Act.put, List.setIfInBounds_toArray, List.set_cons_zero, List.set_cons_succ])
  refine wpQuiet_nil ?_
  refine wpTree_one _ rfl ?_
  go_wp2_with fail
  have hw6 : w.heap.size ≤ w6.heap.size := H6.out.1.size
  have hlt6 := H6.out.2.1.lt
  have hn7 : Near [] w6 (w6.alloc (.cells #[] 5)).drew := (Near.below ((Below.refl w6.heap.size w6).alloc (Nat.le_refl _) _)).drew
  have ho7 : OwnB 5 (w6.alloc (.cells #[] 5)).drew w.heap.size (.slice (some ⟨w6.heap.size, 0, none⟩) 0 0) [] [] := OwnsC.nearR (OwnB.lit0 w6 hw6) (Near.refl [] _).drew (fun g hg => by simp)
  have hD7 : Bytes (w6.alloc (.cells #[] 5)).drew A2 D := Bytes.near H6.out.2.2.2 hn7 (fun _ _ => by simp)
  have hs7 : w.heap.size ≤ (w6.alloc (.cells #[] 5)).drew.heap.size := Nat.le_trans hw6 hn7.size
  have H7 := Lib.hid (And.intro ho7 (And.intro hD7 (And.intro hs7 hn7)))
  clear ho7 hD7 hs7 hn7
  generalize (w6.alloc (.cells #[] 5)).drew = w7 at H7 ⊢
  refine TreeQ.in_ (H7.out.2.2.2.wider (fun x hx => by cases hx)) ?_
  refine wpTree_one _ rfl ?_
  go_wp2_with (first
    | (((with_reducible show wpList _ _ _ ((⟨some 42, _, _, _, _, _⟩ : Oper) :: _) _ _); skip); refine wpList_append_bytes (o := ⟨some 42, _, _, _, _, _⟩) (by rfl) _ _ _ (by rfl) w.heap.size _ Tryz.underlying39 u8info (.slice (some ⟨w6.heap.size, 0, none⟩) 0 0) [] [] (by rfl) H7.out.1 A2 (c - 256) D (by rw [← HD.out.1]; rfl) H7.out.2.1 (by have h1 := HD.out.2.1; have h2 := HN.out; simp; omega) H7.out.2.2.1 ?_; intro v8 w8 sp8 ho8 hg8 hv8 _; refine stopped ?_)
    | fail)
  refine Stopped.mk ?_
  obtain ⟨A8, c8, rfl, -, -, -⟩ := OwnB.open_ ho8
  have hn8 : Near [] w6 w8 := H7.out.2.2.2.grownNew hg8 (fun k hk => by simp [Value.ownBlock] at hk; omega)
  have hn8p : Near [g0] w6 w8 := hn8.wider (fun x hx => by cases hx)
  have hob : ∀ g, (Value.slice A8 ([] ++ D : List UInt8).length c8).ownBlock = some g → w6.heap.size ≤ g := fun g hg => by
    rcases hv8 with e | e
    · rw [hg] at e; simp [Value.ownBlock] at e; omega
    · rw [hg] at e; injection e with e; rw [e]; exact H7.out.2.2.2.size
  have H8 := Lib.hid (And.intro ho8 (And.intro (H6.out.2.1.near hn8 (by simp)) (And.intro (H6.out.1.trans ((hn8.toBelow (B := w6.heap.size) (fun x hx => by cases hx) (Nat.le_refl _)).mono hw6)) hob)))
  have hcells : hdc f = hdc f := rfl
  clear ho8 hg8 hv8 hn8 hob
  go_wp2_with fail
  refine TreeQ.in_ hn8p ?_
  refine wpTree_pure _ _ _ (by rfl) (by rfl) ?_
  dsimp only [List.filterMap, List.getElem?_cons_zero, List.getElem?_cons_succ]
  refine wpQuiet_build_msg (by rfl) _ _ (by rfl) f A8 _ c8 (by rfl) (by rfl) ?_
  simp only [Act.put, List.setIfInBounds_toArray, List.set_cons_zero, List.set_cons_succ]
  refine wpQuiet_nil ?_
  refine wpTree_one _ rfl ?_
  have hg8 := H8.out.2.1
  go_wp2_with (first
    | ((with_reducible show wpList _ _ _ ((⟨none, _, _, _, _, _⟩ : Oper) :: _) _ _); refine wpList_store_blk (o := ⟨none, _, _, _, _, _⟩) (hg8) (by rfl) _ _ _ (by rfl) (by rfl) (msgc f (.slice A8 ([] ++ D : List UInt8).length c8)) (by rfl) (sizeMsg) (msgc_size _ _) (msgc_size _ _) (msgc_one _ _ rfl) ?_; intro w9 h9 hu9; refine stopped ?_)
    | fail)
  refine Stopped.mk ?_
  have hn9 : Near [g0] w6 w9 := hn8p.trans (Near.upd hu9 (List.mem_singleton_self _))
  go_wp2_with fail
  refine TreeQ.in_ hn9 ?_
  refine wpTree_pure _ _ _ (by rfl) (by rfl) ?_
  dsimp only [List.filterMap, List.getElem?_cons_zero, List.getElem?_cons_succ]
  repeat (go_big_quiet_step (fail))
  refine wpQuiet_nil ?_
  refine wpTree_done ?_
  have hHG := HG.out.1
  have ho9 := OwnsC.nearR H8.out.1 (Near.upd hu9 (List.mem_singleton_self _)) (fun g hg => by have := H8.out.2.2.2 g hg; simp; omega)
  have HE := Lib.hid (And.intro ho9 (H8.out.2.2.1.upd hu9 (by rw [hHG]; exact Nat.le_refl _)))
  clear hn9 hn8p hC0 hu9 hg8 ho9
  go_wp2_with fail
  refine bodyPost_ret (results_row_tmp (by rfl) _ _ g0 _ _ _ (by rfl) h9 Tryz.underlying41 (by rfl) (by rw [msgc_size]; exact sizeMsg)) rfl ?_
  rw [hrd.out]
  exact ⟨_, rfl, ⟨sp8, HE.out.1⟩, HE.out.2⟩
end Go.Proofs.YtfoegmjpfkmggaaGreatDoor
