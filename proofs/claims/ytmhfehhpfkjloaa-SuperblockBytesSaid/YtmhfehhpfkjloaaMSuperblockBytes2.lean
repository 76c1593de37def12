/- A superblock is read: the document's Read. Conditions: the bytes can be read. -/
import Derived.Test.YtmhfehhpfkjloaaMSuperblockBytes1
namespace Go.Proofs.Ytmhfehhpfkjloaa
open Go.RowKit
/-- The blocks of the document's Read: its result, what it has read; what is behind the seal. -/
structure RrSt (w0 w : World) (gs : Nat) (A4 : Option Addr) (D : List UInt8) (cs : Array Value) : Prop where
  br : Blk w w0.heap.size 26 spz
  bs : Blk w gs 26 cs
  hb : Below w0.heap.size w0 w
  hgs : w0.heap.size < gs
  rb : Bytes w A4 D
  ra : ∀ ad, A4 = some ad → ad.block < gs
theorem RrSt.below {w0 w w' : World} {gs : Nat} {A4 : Option Addr} {D : List UInt8} {cs : Array Value} (h : RrSt w0 w gs A4 D cs) (k : Below w.heap.size w w') : RrSt w0 w' gs A4 D cs :=
  ⟨h.br.below k h.br.lt, h.bs.below k h.bs.lt, h.hb.trans (k.mono h.hb.size), h.hgs, h.rb.below k, h.ra⟩
theorem RrSt.near {w0 w w' : World} {gs : Nat} {A4 : Option Addr} {D : List UInt8} {cs : Array Value} {X : List Nat} (h : RrSt w0 w gs A4 D cs) (k : Near X w w') (hX : ∀ x ∈ X, gs < x) : RrSt w0 w' gs A4 D cs := by
  have g2 := h.hgs
  have hn : ∀ y, y ≤ gs → y ∉ X := fun y hy hx => by have := hX y hx; omega
  exact ⟨h.br.near k (hn _ (by omega)), h.bs.near k (hn _ (Nat.le_refl _)), below_near h.hb k (fun x hx => by have := hX x hx; omega) h.hb.size, g2, h.rb.near k (fun ad e => hn _ (Nat.le_of_lt (h.ra ad e))), h.ra⟩
theorem RrSt.set {w0 w : World} {gs : Nat} {A4 : Option Addr} {D : List UInt8} {cs : Array Value} (h : RrSt w0 w gs A4 D cs) (i : Nat) (v : Value) : RrSt w0 (w.setCell ⟨gs, i, none⟩ v) gs A4 D (cs.setIfInBounds i v) := by
  have g2 := h.hgs
  have hn : Near [gs] w (w.setCell ⟨gs, i, none⟩ v) := Near.upd ((Upd.refl gs w).set i v) (List.mem_singleton_self _)
  exact ⟨h.br.off (by omega) v, h.bs.set_ i v, h.hb.set_ (by omega) v, g2, h.rb.near hn (fun ad e hx => by have := h.ra ad e; have := List.mem_singleton.1 hx; omega), h.ra⟩
def RlRel (w : World) (gs : Nat) (A4 : Option Addr) (D : List UInt8) (F : HdF) (FE : Bool) (r : List UInt8) (v7 : Value) (wr : World) : Prop :=
  ∃ (k : Nat) (v : Value) (sp : List Value), k ≤ min (at4 r 56) 33 ∧ v7 = .int .i64 (k : Int) ∧ RrSt w wr gs A4 D (spc F FE v) ∧ OwnsC 102 2 wr (gs + 1) v k (hdCells (hdl r k)) sp
theorem hd_same33 (r : List UInt8) (k : Nat) (hk : k = min (at4 r 56) 33) : Sp.same (rdf r 9, at4 r 52 == 1, hdl r k) (Sp.parse33 r) := by
  subst hk
  refine ⟨fun i hi => ?_, rfl, rfl⟩
  show rdf r 9 i = _
  unfold rdf
  rw [if_pos hi]
  rfl
theorem Sp.same_rest {s t : SpT} (h : Sp.same s t) : Sp.rest s = Sp.rest t := by unfold Sp.rest; rw [Sp.same_nums h]
set_option maxRecDepth 100000 in
set_option maxHeartbeats 4000000 in
theorem rspRead_no (A : Option Addr) (n c : Nat) (r : List UInt8) (w : World) (hn : n = r.length) (hc : r.length ≤ c) (hc2 : c ≤ 9223372036854775807) (hby : Bytes w A r) (h : r.length ≠ 512 ∨ Sha.sum (r.drop 16) ≠ r.take 16) :
    Calls Try.prog 23 #[.slice A n c] w (RdPost w r) := by
  subst hn
  have hz := zeroSuper
  have hB := (Below.refl w.heap.size w).alloc (Nat.le_refl _) (.cells spz 26)
  have hbr := Blk.new w 26 spz
  have hby1 := hby.below hB
  by_cases h1 : r.length = 512
  · have h2 : Sha.sum (r.drop 16) ≠ r.take 16 := h.resolve_left (fun x => x h1)
    have hop : Sha.opened r = (12, []) := by unfold Sha.opened; rw [if_neg (by omega), if_neg h2]
    have hOp := ropen_any A _ c r rfl hc ⟨by omega, hc2⟩ _ hby1
    rw [hop, h1] at hOp
    rw [h1] at hc ⊢
    have H12 := Lib.hid (show Sp.read r = (12, Sp.none_) from by unfold Sp.read; rw [if_neg (by omega), if_pos h2])
    have H0 := Lib.hid (And.intro hB hOp)
    clear hB hOp h h2 hop hby hby1 hc h1
    go_enter Try.func23, Try.ntmps23
    go_wp2_with fail
    refine H0.out.2.mono ?_
    rintro e w1 ⟨v1, rfl, -, hb1⟩
    have HB1 := Lib.hid (H0.out.1.trans (hb1.mono H0.out.1.size))
    replace hbr := hbr.below hb1 hbr.lt
    clear hb1 H0
    go_wp2_with (first
      | ((with_reducible show wpList _ _ _ ((⟨none, _, _, _, _, _⟩ : Oper) :: _) _ _); refine wpList_store_blk (o := ⟨none, _, _, _, _, _⟩) (hbr) (by rfl) _ _ _ (by rfl) (by rfl) (spz) (by rfl) (sizeSuper) (spc_size _ _ _) (spc_size _ _ _) (spc_one _ _ _ rfl) ?_; intro w2 h2 hu2; have HB2 := Lib.hid (HB1.out.upd hu2 (Nat.le_refl _)); clear hbr hu2)
      | fail)
    refine bodyPost_ret (results_row_tmp (by rfl) _ _ _ _ _ _ (by rfl) h2 Try.underlying26 (by rfl) sizeSuper) rfl ?_
    refine ⟨fun _ => 0, false, none, 0, [], ?_, ?_, fun h => absurd h (by simp), Nat.le_refl _, (fun _ h => by cases h), HB2.out⟩
    · rw [H12.out]; rfl
    · rw [H12.out]; exact ⟨fun _ _ => rfl, rfl, rfl⟩
  · have hne : ((r.length : Int) != 512) = true := by simp; omega
    have HB := Lib.hid hB
    have H4 := Lib.hid (show Sp.read r = (4, Sp.none_) from if_pos h1)
    clear hB h hby hby1 hc h1
    go_enter Try.func23, Try.ntmps23
    go_wp2_with (first
      | ((with_reducible show wpList _ _ _ ((⟨none, _, _, _, _, _⟩ : Oper) :: _) _ _); refine wpList_store_blk (o := ⟨none, _, _, _, _, _⟩) (hbr) (by rfl) _ _ _ (by rfl) (by rfl) (spz) (by rfl) (sizeSuper) (spc_size _ _ _) (spc_size _ _ _) (spc_one _ _ _ rfl) ?_; intro w2 h2 hu2; have HB2 := Lib.hid (HB.out.upd hu2 (Nat.le_refl _)); clear hbr hu2)
      | fail)
    refine bodyPost_ret (results_row_tmp (by rfl) _ _ _ _ _ _ (by rfl) h2 Try.underlying26 (by rfl) sizeSuper) rfl ?_
    refine ⟨fun _ => 0, false, none, 0, [], ?_, ?_, fun h => absurd h (by simp), Nat.le_refl _, (fun _ h => by cases h), HB2.out⟩
    · rw [H4.out]; rfl
    · rw [H4.out]; exact ⟨fun _ _ => rfl, rfl, rfl⟩
set_option maxRecDepth 100000 in
set_option maxHeartbeats 8000000 in
theorem rspRead_go (A : Option Addr) (c : Nat) (r : List UInt8) (w : World) (hr : r.length = 512) (hc : 512 ≤ c) (hc2 : c ≤ 9223372036854775807) (hby : Bytes w A r) (hS : Sha.sum (r.drop 16) = r.take 16) :
    Calls Try.prog 23 #[.slice A 512 c] w (RdPost w r) := by
  have hz := zeroSuper
  have hB := (Below.refl w.heap.size w).alloc (Nat.le_refl _) (.cells spz 26)
  have hbr := Blk.new w 26 spz
  have hop : Sha.opened r = (0, r.drop 16) := by unfold Sha.opened; rw [if_neg (by omega), if_pos hS]
  have hOp := ropen_any A 512 c r hr.symm (by omega) ⟨by omega, hc2⟩ _ (hby.below hB)
  rw [hop] at hOp
  have HR := Lib.hid (Sp.read33 hr hS)
  have hDl : (r.drop 16).length = 496 := by rw [List.length_drop]; omega
  obtain ⟨D, hD⟩ : ∃ D, D = r.drop 16 := ⟨_, rfl⟩
  rw [← hD] at hOp HR hDl
  have HDL := Lib.hid hDl
  have HAT : Hid (∀ (i : Nat) (n : Int), n = (i : Int) → 16 + 4 * i + 4 ≤ 512 → ∀ w', Below w.heap.size w w' → Calls Try.prog 64 #[.slice A 512 c, .int .i64 n] w' fun e w'' => e = .returned (.int .i64 (at4 r (16 + 4 * i) : Nat)) ∧ Below w'.heap.size w' w'') := Lib.hid (by
    rintro i n rfl hi w' hw'
    have h := rat_any A c i r (by omega) (by omega) w' (hby.below hw')
    rw [hr] at h
    exact h)
  have H0 := Lib.hid (And.intro hB (And.intro hbr hOp))
  clear hB hbr hOp hop hby hS hc hD hDl
  go_enter Try.func23, Try.ntmps23
  go_wp2_with fail
  refine H0.out.2.2.mono ?_
  rintro e w1 ⟨v4, rfl, ⟨sp4, ho4⟩, hb1⟩
  obtain ⟨A4, c4, rfl, hl4, hx4, hby4⟩ := OwnB.open_ ho4
  rw [HDL.out]
  have H1 := Lib.hid (And.intro (H0.out.1.trans (hb1.mono H0.out.1.size)) (And.intro (H0.out.2.1.below hb1 H0.out.2.1.lt) hby4))
  have HA4 : Hid (∀ ad, A4 = some ad → ad.block < w1.heap.size) := Lib.hid fun ad e => (OwnsC.lt ho4 ad.block (by rw [e]; rfl)).2
  clear ho4 hb1 hby4 H0 hl4
  go_wp2_with fail
  refine (HAT.out 0 0 (by rfl) (by omega) _ H1.out.1).mono ?_
  rintro e w2 ⟨rfl, hb⟩
  have H2 := Lib.hid (And.intro (H1.out.1.trans (hb.mono H1.out.1.size)) (And.intro (H1.out.2.1.below hb H1.out.2.1.lt) (H1.out.2.2.below hb)))
  replace HA4 : Hid (∀ ad, A4 = some ad → ad.block < w2.heap.size) := Lib.hid fun ad e => Nat.lt_of_lt_of_le (HA4.out ad e) hb.size
  clear hb H1
  go_wp2_with fail
  refine (HAT.out 1 1 (by rfl) (by omega) _ H2.out.1).mono ?_
  rintro e w3 ⟨rfl, hb⟩
  have H3 := Lib.hid (And.intro (H2.out.1.trans (hb.mono H2.out.1.size)) (And.intro (H2.out.2.1.below hb H2.out.2.1.lt) (H2.out.2.2.below hb)))
  replace HA4 : Hid (∀ ad, A4 = some ad → ad.block < w3.heap.size) := Lib.hid fun ad e => Nat.lt_of_lt_of_le (HA4.out ad e) hb.size
  clear hb H2
  go_wp2_with fail
  refine (HAT.out 2 2 (by rfl) (by omega) _ H3.out.1).mono ?_
  rintro e w4 ⟨rfl, hb⟩
  have H4 := Lib.hid (And.intro (H3.out.1.trans (hb.mono H3.out.1.size)) (And.intro (H3.out.2.1.below hb H3.out.2.1.lt) (H3.out.2.2.below hb)))
  replace HA4 : Hid (∀ ad, A4 = some ad → ad.block < w4.heap.size) := Lib.hid fun ad e => Nat.lt_of_lt_of_le (HA4.out ad e) hb.size
  clear hb H3
  go_wp2_with fail
  refine (HAT.out 3 3 (by rfl) (by omega) _ H4.out.1).mono ?_
  rintro e w5 ⟨rfl, hb⟩
  have H5 := Lib.hid (And.intro (H4.out.1.trans (hb.mono H4.out.1.size)) (And.intro (H4.out.2.1.below hb H4.out.2.1.lt) (H4.out.2.2.below hb)))
  replace HA4 : Hid (∀ ad, A4 = some ad → ad.block < w5.heap.size) := Lib.hid fun ad e => Nat.lt_of_lt_of_le (HA4.out ad e) hb.size
  clear hb H4
  go_wp2_with fail
  refine (HAT.out 4 4 (by rfl) (by omega) _ H5.out.1).mono ?_
  rintro e w6 ⟨rfl, hb⟩
  have H6 := Lib.hid (And.intro (H5.out.1.trans (hb.mono H5.out.1.size)) (And.intro (H5.out.2.1.below hb H5.out.2.1.lt) (H5.out.2.2.below hb)))
  replace HA4 : Hid (∀ ad, A4 = some ad → ad.block < w6.heap.size) := Lib.hid fun ad e => Nat.lt_of_lt_of_le (HA4.out ad e) hb.size
  clear hb H5
  go_wp2_with fail
  refine (HAT.out 5 5 (by rfl) (by omega) _ H6.out.1).mono ?_
  rintro e w7 ⟨rfl, hb⟩
  have H7 := Lib.hid (And.intro (H6.out.1.trans (hb.mono H6.out.1.size)) (And.intro (H6.out.2.1.below hb H6.out.2.1.lt) (H6.out.2.2.below hb)))
  replace HA4 : Hid (∀ ad, A4 = some ad → ad.block < w7.heap.size) := Lib.hid fun ad e => Nat.lt_of_lt_of_le (HA4.out ad e) hb.size
  clear hb H6
  go_wp2_with fail
  refine (HAT.out 6 6 (by rfl) (by omega) _ H7.out.1).mono ?_
  rintro e w8 ⟨rfl, hb⟩
  have H8 := Lib.hid (And.intro (H7.out.1.trans (hb.mono H7.out.1.size)) (And.intro (H7.out.2.1.below hb H7.out.2.1.lt) (H7.out.2.2.below hb)))
  replace HA4 : Hid (∀ ad, A4 = some ad → ad.block < w8.heap.size) := Lib.hid fun ad e => Nat.lt_of_lt_of_le (HA4.out ad e) hb.size
  clear hb H7
  go_wp2_with fail
  refine (HAT.out 7 7 (by rfl) (by omega) _ H8.out.1).mono ?_
  rintro e w9 ⟨rfl, hb⟩
  have H9 := Lib.hid (And.intro (H8.out.1.trans (hb.mono H8.out.1.size)) (And.intro (H8.out.2.1.below hb H8.out.2.1.lt) (H8.out.2.2.below hb)))
  replace HA4 : Hid (∀ ad, A4 = some ad → ad.block < w9.heap.size) := Lib.hid fun ad e => Nat.lt_of_lt_of_le (HA4.out ad e) hb.size
  clear hb H8
  go_wp2_with fail
  refine (HAT.out 8 8 (by rfl) (by omega) _ H9.out.1).mono ?_
  rintro e w10 ⟨rfl, hb⟩
  have H10 := Lib.hid (And.intro (H9.out.1.trans (hb.mono H9.out.1.size)) (And.intro (H9.out.2.1.below hb H9.out.2.1.lt) (H9.out.2.2.below hb)))
  replace HA4 : Hid (∀ ad, A4 = some ad → ad.block < w10.heap.size) := Lib.hid fun ad e => Nat.lt_of_lt_of_le (HA4.out ad e) hb.size
  clear hb H9
  go_wp2_with fail
  refine (HAT.out 9 9 (by rfl) (by omega) _ H10.out.1).mono ?_
  rintro e w11 ⟨rfl, hb⟩
  have H11 := Lib.hid (And.intro (H10.out.1.trans (hb.mono H10.out.1.size)) (And.intro (H10.out.2.1.below hb H10.out.2.1.lt) (H10.out.2.2.below hb)))
  replace HA4 : Hid (∀ ad, A4 = some ad → ad.block < w11.heap.size) := Lib.hid fun ad e => Nat.lt_of_lt_of_le (HA4.out ad e) hb.size
  clear hb H10
  clear hz
  have hz : ∀ w, (zeroValue 26).run Try.prog w = .ok (.agg #[.int .i64 0, .int .i64 0, .int .i64 0, .int .i64 0, .int .i64 0, .int .i64 0, .int .i64 0, .int .i64 0, .int .i64 0, .bool false, .slice none 0 0]) w := zeroSuper
  have efe : (((at4 r 52 : Nat) : Int) == 1) = (at4 r 52 == 1) := by rw [Bool.eq_iff_iff]; simp; omega
  go_wp2_with (first
    | ((with_reducible show wpList _ _ _ ((⟨none, _, _, _, _, _⟩ : Oper) :: _) _ _); refine wpList_store_blk (o := ⟨none, _, _, _, _, _⟩) ((Blk.new w11 26 #[.int .i64 0, .int .i64 0, .int .i64 0, .int .i64 0, .int .i64 0, .int .i64 0, .int .i64 0, .int .i64 0, .int .i64 0, .bool false, .slice none 0 0])) (by rfl) _ _ _ (by rfl) (by rfl) (spc (rdf r 9) (at4 r 52 == 1) (.slice none 0 0)) (by rfl) (sizeSuper) (rfl) (spc_size _ _ _) (spc_one _ _ _ rfl) ?_; intro w12 h12 hu12; have hb12 := ((Below.refl w11.heap.size w11).alloc (Nat.le_refl _) (.cells #[.int .i64 0, .int .i64 0, .int .i64 0, .int .i64 0, .int .i64 0, .int .i64 0, .int .i64 0, .int .i64 0, .int .i64 0, .bool false, .slice none 0 0] 26)).upd hu12 (Nat.le_refl _); clear hu12)
    | fail)
  have hgs : w.heap.size < w11.heap.size := H11.out.2.1.lt
  have hst : RrSt w w12 w11.heap.size A4 D (spc (rdf r 9) (at4 r 52 == 1) (.slice none 0 0)) := ⟨H11.out.2.1.below hb12 H11.out.2.1.lt, h12, H11.out.1.trans (hb12.mono H11.out.1.size), hgs, H11.out.2.2.below hb12, HA4.out⟩
  have HST : Hid (RlRel w w11.heap.size A4 D (rdf r 9) (at4 r 52 == 1) r (.int .i64 0) w12) := Lib.hid ⟨0, .slice none 0 0, [], Nat.zero_le _, rfl, hst, OwnsC.nil _ _ _ _⟩
  have HSM := Lib.hid (hd_same33 r)
  clear h12 hgs hst hb12 H11 HA4
  generalize w11.heap.size = gs at HST ⊢
  generalize rdf r 9 = F at HST HSM
  generalize (at4 r 52 == 1) = FE at HST HSM ⊢
  clear efe
  have hq4 : at4 r 56 < 4294967296 := un4_lt _ _ _ _
  go_wp2_with fail
  go_loopw [7] (fun v wv => RlRel w gs A4 D F FE r v wv) (fun v _ => 33 - (intOf v).toNat)
  case atStart => exact HST.out
  case round =>
    clear HST
    obtain ⟨k, v, sp, hk, rfl, hS, ho⟩ := hrel
    obtain ⟨B, d, rfl, hkd, hdm, hrd, -⟩ := OwnsC.reads ho
    have HX0 := Lib.hid (And.intro hS (And.intro ho (And.intro hrd hkd)))
    have hk33 : k ≤ 33 := by omega
    clear hS ho hrd hkd
    go_wp2_with fail
    refine (HAT.out 10 10 (by rfl) (by omega) _ HX0.out.1.hb).mono ?_
    rintro e wq ⟨rfl, hb⟩
    have hown := OwnsC.ownBelow HX0.out.2.1 hb
    have HX := Lib.hid (And.intro (HX0.out.1.below hb) (And.intro hown (And.intro (OwnsC.reads hown) HX0.out.2.2.2)))
    clear hb hown HX0
    by_cases q : k < at4 r 56 ∧ k ≤ 32
    · obtain ⟨q1, q2⟩ := q
      go_wp2_with fail
      obtain ⟨X, hX⟩ : ∃ X, X = (Value.slice B k d).ownBlock.toList := ⟨_, rfl⟩
      have hgX : ∀ x ∈ X, gs < x := by
        rw [hX]
        intro x hx
        rw [Option.mem_toList] at hx
        have h3 := (OwnsC.lt HX.out.2.1 x hx).1
        omega
      have HGX := Lib.hid (And.intro hX hgX)
      clear hX hgX
      have hC0 := (Near.refl X wq).drew
      refine wp_region_tree (Near X wq) [16] (PlanT.takes [0, 2, 3, 4, 5, 7, 8, 9, 10] (PlanT.takes [1] (.opt 6 (.opt 11 (PlanT.takes [12] (.opt 13 (.opt 14 (PlanT.takes [15] (.opt 16 .done .no)) .no) .no)) .no) .no))) (by kernel_rfl) (by kernel_rfl) (hC0) ?_
      refine wpTree_pure _ _ _ (by rfl) (by rfl) ?_
      dsimp only [List.filterMap, List.getElem?_cons_zero, List.getElem?_cons_succ]
      repeat (go_big_quiet_step (fail))
      refine wpQuiet_nil ?_
      refine wpTree_takeL _ _ _ (by rfl) (by rfl) (hC0) ?_
      dsimp only [List.filterMap, List.getElem?_cons_zero, List.getElem?_cons_succ]
      (refine wpQuiet_load_cell (fun w' hw' => (Blk.near HX.out.1.bs hw' (fun hx => by have := HGX.out.2 _ hx; omega)).at_ 10 (v := .slice B k d) rfl) (by rfl) _ _ (by rfl) (by rfl) _ Try.underlying24 (by rfl) ?_; simp only [Act.put, List.setIfInBounds_toArray, List.set_cons_zero, List.set_cons_succ])
      refine wpQuiet_nil ?_
      refine wpTree_one _ rfl ?_
      go_wp2_with fail
      refine (HAT.out (11 + 2 * k) _ (by omega) (by omega) _ (HX.out.1.near hC0 HGX.out.2).hb).mono ?_
      rintro e w18 ⟨rfl, hb⟩
      have hC1 : Near X wq w18 := hC0.trans (Near.below hb)
      go_wp2_with fail
      refine TreeQ.in_ hC1 ?_
      refine wpTree_one _ rfl ?_
      go_wp2_with fail
      refine (HAT.out (12 + 2 * k) _ (by omega) (by omega) _ (HX.out.1.near hC1 HGX.out.2).hb).mono ?_
      rintro e w19 ⟨rfl, hb2⟩
      have hC2 : Near X wq w19 := hC1.trans (Near.below hb2)
      have hbq : Below wq.heap.size wq w19 := ((Below.refl _ _).drew.trans (hb.mono (Nat.le_refl _))).trans (hb2.mono hb.size)
      have hown := OwnsC.ownBelow HX.out.2.1 hbq
      rw [show 16 + 4 * (11 + 2 * k) = 60 + 8 * k by omega, show 16 + 4 * (12 + 2 * k) = 60 + 8 * k + 4 by omega]
      have H19 := Lib.hid (And.intro (HX.out.1.near hC2 HGX.out.2) hown)
      clear hb hb2 hC0 hC1 hbq hown
      go_wp2_with fail
      refine TreeQ.in_ hC2 ?_
      refine wpTree_pure _ _ _ (by rfl) (by rfl) ?_
      dsimp only [List.filterMap, List.getElem?_cons_zero, List.getElem?_cons_succ]
      repeat (go_big_quiet_step (fail))
      refine wpQuiet_nil ?_
      refine wpTree_one _ rfl ?_
      go_wp2_with fail
      have hba := (Below.refl w19.heap.size w19).alloc (Nat.le_refl _) (.cells #[.int .i64 (at4 r (60 + 8 * k) : Int), .int .i64 (at4 r (60 + 8 * k + 4) : Int)] 102)
      have hC3 : Near X wq (w19.alloc (.cells #[.int .i64 (at4 r (60 + 8 * k) : Int), .int .i64 (at4 r (60 + 8 * k + 4) : Int)] 102)) := hC2.trans (Near.below hba)
      have hoa := H19.out.2.alloc (.cells #[.int .i64 (at4 r (60 + 8 * k) : Int), .int .i64 (at4 r (60 + 8 * k + 4) : Int)] 102)
      have hra := reads_new w19 102 [.int .i64 (at4 r (60 + 8 * k) : Int), .int .i64 (at4 r (60 + 8 * k + 4) : Int)]
      have hsa : gs + 1 ≤ (w19.alloc (.cells #[.int .i64 (at4 r (60 + 8 * k) : Int), .int .i64 (at4 r (60 + 8 * k + 4) : Int)] 102)).heap.size := Nat.le_trans H19.out.1.bs.lt hba.size
      have hS3 := H19.out.1.below hba
      refine TreeQ.in_ hC3 ?_
      refine wpTree_one _ rfl ?_
      refine wpList_append_vals (by rfl) _ _ _ (by rfl) (gs + 1) 102 (.agg #[.int .i64 0, .int .i64 0]) 2 16 Try.underlying24 headInfo (by rfl) (by omega) (.slice B k d) k (hdCells (hdl r k)) sp (by rfl) hoa (some ⟨w19.heap.size, 0, none⟩) 1 1 [.int .i64 (at4 r (60 + 8 * k) : Int), .int .i64 (at4 r (60 + 8 * k + 4) : Int)] (by rfl) (by rfl) hra (by simp [Value.oneCell']) (by simp only [maxLen]; omega) (by omega) hsa ?_
      intro v3 w3 sp3 ho3 hg3 hv3 hn3
      have hC4 : Near X wq w3 := hC3.trans (Near.grown hg3 (fun x hx => by rw [HGX.out.1, hx]; simp))
      go_wp2_with fail
      refine TreeQ.in_ hC4 ?_
      refine wpTree_pure _ _ _ (by rfl) (by rfl) ?_
      dsimp only [List.filterMap, List.getElem?_cons_zero, List.getElem?_cons_succ]
      repeat (go_big_quiet_step (fail))
      refine wpQuiet_nil ?_
      refine wpTree_one _ rfl ?_
      have hS4 := hS3.near (Near.grown (X := X) hg3 (fun x hx => by rw [HGX.out.1, hx]; simp)) HGX.out.2
      obtain ⟨B3, d3, rfl, -, -, -, -⟩ := OwnsC.reads ho3
      have d10 := hS4.bs.at_ 10 (v := .slice B k d) rfl
      have f10 := hS4.bs.frozen 10
      have H20 := Lib.hid (And.intro hS4 ho3)
      clear hS4 ho3 hba hC3 hoa hra hsa hS3 hC2 H19 hg3 hv3 hn3
      go_wp2_with fail
      have hS5 : RrSt w (w3.setCell ⟨gs, 10, none⟩ (.slice B3 (k + 1) d3)) gs A4 D (spc F FE (.slice B3 (k + 1) d3)) := H20.out.1.set 10 _
      have ho5 : OwnsC 102 2 (w3.setCell ⟨gs, 10, none⟩ (.slice B3 (k + 1) d3)) (gs + 1) (.slice B3 (k + 1) d3) (k + 1) (hdCells (hdl r (k + 1))) sp3 := by
        rw [hd_next]
        refine OwnsC.off H20.out.2 (fun e => ?_) _
        have h := (OwnsC.lt H20.out.2 gs e).1
        omega
      have HF := Lib.hid (show RlRel w gs A4 D F FE r (.int .i64 ((k : Int) + 1)) _ from ⟨k + 1, _, sp3, by omega, by go_num, hS5, ho5⟩)
      clear hS5 ho5
      refine TreeQ.out (by rfl) ?_
      refine wpTree_done ?_
      go_wp2_with fail
      go_roundw
      case rel => exact HF.out
      case measure => simp [intOf]; omega
    · have hmin : k = min (at4 r 56) 33 := by omega
      have hsame := HSM.out k hmin
      have hhl := hdl_length r k
      obtain ⟨HL, hHL⟩ : ∃ F, F = hdl r k := ⟨_, rfl⟩
      rw [← hHL] at hsame hhl
      have hheads : Heads wq B HL := by
        obtain ⟨A', c', e, -, -, hr1, -⟩ := HX.out.2.2.1
        injection e with e1 e2 e3
        subst e1
        rw [hHL]
        exact Heads.of_reads hr1
      have HM := Lib.hid (And.intro hmin hHL)
      have hkl : k ≤ HL.length := by omega
      have hok : Sp.ok (F, FE, HL) = Sp.ok (Sp.parse33 r) := Sp.same_ok hsame
      have hbys : Sp.rest (F, FE, HL) = Sp.rest (Sp.parse33 r) := Sp.same_rest hsame
      have chk : ∀ wx, Below wq.heap.size wq wx → Calls Try.prog 26 #[.agg (spc F FE (.slice B k d))] wx fun e w' => e = .returned (.int .i64 (spCode (F, FE, HL))) ∧ Below wq.heap.size wq w' := fun wx hx =>
        (rspCheck_any F FE B k d HL wx hhl.symm (by omega) (hheads.below hx)).mono fun e w' h => ⟨h.1, hx.trans (h.2.mono hx.size)⟩
      have lay : Sp.ok (F, FE, HL) = true → ∀ wx, Below wq.heap.size wq wx → Calls Try.prog 60 #[.agg (spc F FE (.slice B k d))] wx fun e w' => ∃ v sp, e = .returned v ∧ OwnB 5 w' wx.heap.size v (Sp.rest (F, FE, HL)) sp ∧ Below wq.heap.size wq w' := fun ho wx hx =>
        (rspBehind_any F FE B k d HL wx hhl.symm ho (hheads.below hx)).mono fun e w' h => by
          obtain ⟨v, sp, h1, h2, h3⟩ := h
          exact ⟨v, sp, h1, h2, hx.trans (h3.mono hx.size)⟩
      have HC := Lib.hid (And.intro chk lay)
      have HY := Lib.hid (And.intro HX.out.1 (And.intro hheads (And.intro hsame (And.intro hok (And.intro hbys (And.intro hhl HX.out.2.2.2))))))
      have HBN : Hid (∀ ad, B = some ad → w.heap.size < ad.block) := Lib.hid fun ad e => by
        have h1 := (OwnsC.lt HX.out.2.1 ad.block (by rw [e]; rfl)).1
        have h2 := HX.out.1.hgs
        omega
      clear chk lay hheads hsame hok hbys hhl hmin hHL HX HSM HAT
      have hC0 : Below wq.heap.size wq wq.drew := (Below.refl _ _).drew
      clear hz
      have hz := zeroSuper
      rcases (show ¬ k < at4 r 56 ∨ (k < at4 r 56 ∧ ¬ k ≤ 32) by omega) with q1 | ⟨q1, q2⟩
      all_goals
        clear q
        go_wp2_with fail
        refine wp_region_tree (Below wq.heap.size wq) [] (PlanT.takes [0] (.opt 1 (PlanT.takes [2, 3, 7] (PlanT.takes [4, 8] (.opt 5 (.opt 6 (PlanT.takes [9, 10] .done) .no) .no))) .no)) (by kernel_rfl) (by kernel_rfl) (hC0) ?_
        refine wpTree_takeL _ _ _ (by rfl) (by rfl) (hC0) ?_
        dsimp only [List.filterMap, List.getElem?_cons_zero, List.getElem?_cons_succ]
        (refine wpQuiet_load_blk (fun w' hw' => HY.out.1.bs.below hw' HY.out.1.bs.lt) (by rfl) _ _ (by rfl) (by rfl) _ Try.underlying26 (by rfl) (sizeSuper) (by rfl) ?_; simp only [Act.put, List.setIfInBounds_toArray, List.set_cons_zero, List.set_cons_succ])
        refine wpQuiet_nil ?_
        refine wpTree_one _ rfl ?_
        go_wp2_with fail
        refine (HC.out.1 _ hC0).mono ?_
        rintro e w20 ⟨rfl, hC1⟩
        clear hC0
        by_cases hokk : Sp.ok (F, FE, HL) = true
        · rw [show spCode (F, FE, HL) = 0 from if_pos hokk]
          have HOK := Lib.hid hokk
          clear hokk
          go_wp2_with fail
          refine TreeQ.in_ hC1 ?_
          refine wpTree_pure _ _ _ (by rfl) (by rfl) ?_
          dsimp only [List.filterMap, List.getElem?_cons_zero, List.getElem?_cons_succ]
          repeat (go_big_quiet_step (fail))
          refine wpQuiet_nil ?_
          refine wpTree_takeL _ _ _ (by rfl) (by rfl) (hC1) ?_
          dsimp only [List.filterMap, List.getElem?_cons_zero, List.getElem?_cons_succ]
          (refine wpQuiet_want' (by rfl) ?_; refine wpQuiet_load_blk (fun w' hw' => HY.out.1.bs.below hw' HY.out.1.bs.lt) (by rfl) _ _ (by rfl) (by rfl) _ Try.underlying26 (by rfl) (sizeSuper) (by rfl) ?_; simp only [Act.put, List.setIfInBounds_toArray, List.set_cons_zero, List.set_cons_succ])
          (refine wpQuiet_want' (by rfl) ?_; refine wpQuiet_convert_str (by rfl) 43 9 5 _ (by rfl) Try.underlying43 Try.underlying5 Try.underlying9 (A4) (496) (c4) (D) (by rfl) (by exact HDL.out.symm) (fun w' hw' => HY.out.1.rb.below hw') ?_; simp only [Act.put, List.setIfInBounds_toArray, List.set_cons_zero, List.set_cons_succ])
          refine wpQuiet_nil ?_
          refine wpTree_one _ rfl ?_
          go_wp2_with fail
          refine (HC.out.2 HOK.out _ hC1).mono ?_
          rintro e w21 ⟨v21, sp21, rfl, ho21, hC2⟩
          obtain ⟨A21, c21, rfl, -, -, hby21⟩ := OwnB.open_ ho21
          clear hC1 ho21
          go_wp2_with fail
          refine TreeQ.in_ hC2 ?_
          refine wpTree_one _ rfl ?_
          go_wp2_with (first
            | ((with_reducible show wpList _ _ _ ((⟨some 76, _, _, _, _, _⟩ : Oper) :: _) _ _); refine wpList_want (by rfl) ?_; refine wpList_convert_str (o := ⟨some 76, _, _, _, _, _⟩) (by rfl) 43 9 5 _ (by rfl) Try.underlying43 Try.underlying5 Try.underlying9 (A21) _ c21 (Sp.rest (F, FE, HL)) (by rfl) (by first | rfl | simp) (hby21) ?_)
            | fail)
          refine TreeQ.in_ hC2 ?_
          clear hby21
          refine wpTree_pure _ _ _ (by rfl) (by rfl) ?_
          dsimp only [List.filterMap, List.getElem?_cons_zero, List.getElem?_cons_succ]
          repeat (go_big_quiet_step (fail))
          refine wpQuiet_nil ?_
          refine wpTree_done ?_
          rw [str_beq]
          have HZ := Lib.hid (And.intro (HY.out.1.below hC2) (HY.out.2.1.below hC2))
          have hbr := HZ.out.1.br
          have hbs := HZ.out.1.bs
          clear hC2
          by_cases heq : Sp.rest (F, FE, HL) = D
          · have hrd : Hid (Sp.read r = (0, Sp.parse33 r)) := Lib.hid (by rw [HR.out, if_pos ⟨HY.out.2.2.2.1 ▸ HOK.out, HY.out.2.2.2.2.1 ▸ heq⟩])
            rw [decide_eq_true heq]
            clear heq
            go_wp2_with (first
              | ((with_reducible show wpList _ _ _ ((⟨some 82, _, _, _, _, _⟩ : Oper) :: _) _ _); refine wpList_load_blk (o := ⟨some 82, _, _, _, _, _⟩) (hbs) (by rfl) _ _ (by rfl) (by rfl) _ Try.underlying26 (by rfl) (sizeSuper) (by exact spc_size _ _ _) ?_)
              | ((with_reducible show wpList _ _ _ ((⟨none, _, _, _, _, _⟩ : Oper) :: _) _ _); refine wpList_store_blk (o := ⟨none, _, _, _, _, _⟩) (hbr) (by rfl) _ _ _ (by rfl) (by rfl) (spc F FE (.slice B k d)) (by rfl) (sizeSuper) (spc_size _ _ _) (spc_size _ _ _) (spc_one _ _ _ rfl) ?_; intro w8 h8 hu8; have HB2 := Lib.hid (HZ.out.1.hb.upd hu8 (Nat.le_refl _)))
              | fail)
            refine bodyPost_ret (results_row_tmp (by rfl) _ _ _ _ _ _ (by rfl) h8 Try.underlying26 (by rfl) sizeSuper) rfl ?_
            unfold RdPost; rw [hrd.out]
            refine ⟨F, FE, B, d, HL, ?_, HY.out.2.2.1, HZ.out.2.near (Near.upd hu8 (List.mem_singleton_self _)) (fun ad e hx => by have h1 := HBN.out ad e; have h2 := List.mem_singleton.1 hx; omega), ?_, fun ad e => Nat.le_of_lt (HBN.out ad e), HB2.out⟩
            · rw [HY.out.2.2.2.2.2.1]; rfl
            · rw [HY.out.2.2.2.2.2.1]; exact HY.out.2.2.2.2.2.2
          · have hrd : Hid (Sp.read r = (4, Sp.none_)) := Lib.hid (by rw [HR.out, if_neg (fun h => heq (HY.out.2.2.2.2.1.trans h.2))])
            rw [decide_eq_false heq]
            clear heq
            go_wp2_with (first
              | ((with_reducible show wpList _ _ _ ((⟨none, _, _, _, _, _⟩ : Oper) :: _) _ _); refine wpList_store_blk (o := ⟨none, _, _, _, _, _⟩) (hbr) (by rfl) _ _ _ (by rfl) (by rfl) (spz) (by rfl) (sizeSuper) (spc_size _ _ _) (spc_size _ _ _) (spc_one _ _ _ rfl) ?_; intro w8 h8 hu8; have HB2 := Lib.hid (HZ.out.1.hb.upd hu8 (Nat.le_refl _)); clear hbr hu8)
              | fail)
            refine bodyPost_ret (results_row_tmp (by rfl) _ _ _ _ _ _ (by rfl) h8 Try.underlying26 (by rfl) sizeSuper) rfl ?_
            unfold RdPost; rw [hrd.out]
            exact ⟨fun _ => 0, false, none, 0, [], rfl, ⟨fun _ _ => rfl, rfl, rfl⟩, fun h => absurd h (by simp), Nat.le_refl _, (fun _ h => by cases h), HB2.out⟩
        · have hrd : Hid (Sp.read r = (4, Sp.none_)) := Lib.hid (by rw [HR.out, if_neg (fun h => hokk (HY.out.2.2.2.1.trans h.1))])
          rw [show spCode (F, FE, HL) = 2 from if_neg hokk]
          clear hokk
          go_wp2_with fail
          refine TreeQ.in_ hC1 ?_
          refine wpTree_pure _ _ _ (by rfl) (by rfl) ?_
          dsimp only [List.filterMap, List.getElem?_cons_zero, List.getElem?_cons_succ]
          repeat (go_big_quiet_step (fail))
          refine wpQuiet_nil ?_
          refine wpTree_takeL _ _ _ (by rfl) (by rfl) (hC1) ?_
          dsimp only [List.filterMap, List.getElem?_cons_zero, List.getElem?_cons_succ]
          go_big_quiet_step (fail)
          go_big_quiet_step (fail)
          refine wpQuiet_nil ?_
          refine wpTree_one _ rfl ?_
          go_wp2_with fail
          refine TreeQ.in_ hC1 ?_
          refine wpTree_one _ rfl ?_
          go_wp2_with fail
          refine TreeQ.in_ hC1 ?_
          refine wpTree_pure _ _ _ (by rfl) (by rfl) ?_
          dsimp only [List.filterMap, List.getElem?_cons_zero, List.getElem?_cons_succ]
          repeat (go_big_quiet_step (fail))
          refine wpQuiet_nil ?_
          refine wpTree_done ?_
          have HZ := Lib.hid (HY.out.1.below hC1)
          have hbr := HZ.out.br
          clear hC1
          go_wp2_with (first
            | ((with_reducible show wpList _ _ _ ((⟨none, _, _, _, _, _⟩ : Oper) :: _) _ _); refine wpList_store_blk (o := ⟨none, _, _, _, _, _⟩) (hbr) (by rfl) _ _ _ (by rfl) (by rfl) (spz) (by rfl) (sizeSuper) (spc_size _ _ _) (spc_size _ _ _) (spc_one _ _ _ rfl) ?_; intro w8 h8 hu8; have HB2 := Lib.hid (HZ.out.hb.upd hu8 (Nat.le_refl _)); clear hbr hu8)
            | fail)
          refine bodyPost_ret (results_row_tmp (by rfl) _ _ _ _ _ _ (by rfl) h8 Try.underlying26 (by rfl) sizeSuper) rfl ?_
          unfold RdPost; rw [hrd.out]
          exact ⟨fun _ => 0, false, none, 0, [], rfl, ⟨fun _ _ => rfl, rfl, rfl⟩, fun h => absurd h (by simp), Nat.le_refl _, (fun _ h => by cases h), HB2.out⟩
theorem rspRead_any (A : Option Addr) (n c : Nat) (r : List UInt8) (w : World) (hn : n = r.length) (hc : r.length ≤ c) (hc2 : c ≤ 9223372036854775807) (hby : Bytes w A r) :
    Calls Try.prog 23 #[.slice A n c] w (RdPost w r) := by
  by_cases h : r.length ≠ 512 ∨ Sha.sum (r.drop 16) ≠ r.take 16
  · exact rspRead_no A n c r w hn hc hc2 hby h
  · have h1 : r.length = 512 := by omega
    have h2 : Sha.sum (r.drop 16) = r.take 16 := Classical.byContradiction fun h3 => h (.inr h3)
    subst hn
    rw [h1] at hc ⊢
    exact rspRead_go A c r w h1 hc hc2 hby h2
end Go.Proofs.Ytmhfehhpfkjloaa

/- Bytes copied. Condition: the list can be read. -/
namespace Go
open Go.RowKit
namespace Proofs.Ytmhfehhpfkjloaa
theorem copyBytes_any (A : Option Addr) (n c : Nat) (l : List UInt8) (hn : n = l.length) (hl : l.length ≤ 140737488351300) (w : World) (h : Bytes w A l) :
    Calls Try.prog 45 #[.slice A n c] w fun e w' => ∃ v sp, e = .returned v ∧ OwnB 5 w' w.heap.size v l sp ∧ Below w.heap.size w w' := by
  subst hn
  have hb1 : Bytes (w.alloc (.cells #[] 5)) A l := h.below ((Below.refl _ _).alloc (Nat.le_refl _) _)
  have ho0 : OwnB 5 (w.alloc (.cells #[] 5)) w.heap.size (.slice (some ⟨w.heap.size, 0, none⟩) 0 0) [] [] := by
    have := OwnsC.lit (e := 5) (size := 1) (base := w.heap.size) w #[] 0 (by simp) (by simp) (by simp)
    unfold OwnB; simpa using this
  go_enter Try.func45, Try.ntmps45
  go_wp2_with (show wpList _ _ _ ((⟨some 5, _, _, _, _, _⟩ : Oper) :: _) _ _; refine wpList_append_bytes (o := ⟨some 5, _, _, _, _, _⟩) (by rfl) _ _ _ (by rfl) w.heap.size _ Try.underlying43 u8info (.slice (some ⟨w.heap.size, 0, none⟩) 0 0) [] [] (by rfl) ho0 A c l (by rfl) hb1 (by simp; omega) (by simp) ?_; intro v1 w1 sp1 ho1 hg1 _ _; have hbz := ((Below.refl w.heap.size w).alloc (Nat.le_refl _) (.cells #[] 5)).grown hg1 (by simp) (fun k hk => by have := (OwnsC.lt ho0 k hk).1; omega); clear hb1 ho0 hg1)
  go_ret
  exact ⟨_, sp1, rfl, by simpa using ho1, hbz⟩
end Proofs.Ytmhfehhpfkjloaa
end Go

/- What the kit writes over: every byte of a list, with what stands behind it. No condition but that the list is an own one, or none. -/
namespace Go.Proofs.Ytmhfehhpfkjloaa
open Go.RowKit
def over (l : List UInt8) : List UInt8 := l.map (· ^^^ 90)
theorem over_length (l : List UInt8) : (over l).length = l.length := by simp [over]
theorem over_over (l : List UInt8) : over (over l) = l := by
  unfold over; rw [List.map_map]
  have : ((fun x : UInt8 => x ^^^ 90) ∘ fun x => x ^^^ 90) = id := by funext x; simp [Function.comp, UInt8.xor_assoc]
  rw [this, List.map_id]
def overTo (l : List UInt8) (i : Nat) : List UInt8 := over (l.take i) ++ l.drop i
theorem overTo_length (l : List UInt8) (i : Nat) : (overTo l i).length = l.length := by unfold overTo; rw [List.length_append, over_length, ← List.length_append, List.take_append_drop]
theorem overTo_at (l : List UInt8) (i : Nat) (h : i < l.length) : (overTo l i)[i]? = some l[i] := by
  unfold overTo
  have h1 : (over (l.take i)).length = i := by rw [over_length, List.length_take]; omega
  rw [List.getElem?_append_right (by omega), h1, Nat.sub_self, List.getElem?_drop, Nat.add_zero, List.getElem?_eq_getElem h]
theorem overTo_set (l : List UInt8) (i : Nat) (h : i < l.length) : (overTo l i).set i (l[i] ^^^ 90) = overTo l (i + 1) := by
  unfold overTo
  have h1 : (over (l.take i)).length = i := by rw [over_length, List.length_take]; omega
  rw [List.set_append_right _ _ (by omega), h1, Nat.sub_self, List.drop_eq_getElem_cons h, List.set_cons_zero, List.take_succ_eq_append_getElem h]
  unfold over; rw [List.map_append]; simp
/-- Ahead of each byte. -/
def OverRel (w : World) (g : Nat) (t : TypeId) (l : List UInt8) (v : Value) (wr : World) : Prop :=
  ∃ i : Nat, i ≤ l.length ∧ v = .int .i64 (i : Int) ∧ Blk wr g t ((overTo l i).map u8v).toArray ∧ Upd g w wr
set_option maxHeartbeats 400000 in
theorem over_any (g n c : Nat) (l : List UInt8) (hn : n ≤ c) (hl : c = l.length) (hc : c ≤ 140737488351300) (w : World) (t : TypeId) (hg : Blk w g t (l.map u8v).toArray) :
    Calls Try.prog 67 #[.slice (some ⟨g, 0, none⟩) n c] w fun e w' => e = .returned (.tuple #[]) ∧ Blk w' g t ((over l).map u8v).toArray ∧ Upd g w w' := by
  subst hl
  go_enter Try.func67, Try.ntmps67
  go_wp2
  go_loopw [3] (fun v wr => OverRel w g t l v wr) (fun v _ => l.length - (intOf v).toNat)
  case atStart => exact ⟨0, by omega, rfl, by simpa [overTo, over] using hg, Upd.refl _ _⟩
  case round =>
    clear hg
    obtain ⟨i, hi, rfl, hw, hu⟩ := hrel
    by_cases h3 : i < l.length
    · have d0 : wr.cell? ⟨g, i, none⟩ = some (.int .u8 (iu8 l[i])) := by rw [hw.cell, List.getElem?_toArray, List.getElem?_map, overTo_at l i h3]; rfl
      have f0 := hw.frozen i
      have hx : bits BinOp.xor .u8 (iu8 l[i]) 90 = iu8 (l[i] ^^^ 90) := u8_xor_w _ 90
      have ho := hw.set_ i (.int .u8 (iu8 (l[i] ^^^ 90)))
      replace ho := ho.sub (show _ = ((overTo l (i + 1)).map u8v).toArray by
        rw [← overTo_set l i h3]
        apply Array.ext'
        simp only [List.setIfInBounds_toArray]
        rw [List.map_set]; rfl)
      have HO := Lib.hid ho
      have HU := Lib.hid (hu.set i (.int .u8 (iu8 (l[i] ^^^ 90))))
      clear ho hu hw
      go_wp2
      go_roundw
      case rel => exact ⟨i + 1, by omega, by go_num, HO.out, HU.out⟩
      case measure => simp [intOf]; omega
    · obtain rfl : i = l.length := by omega
      go_wp2
      refine bodyPost_end (v := .tuple #[]) (by simp [results]) rfl ⟨rfl, hw.sub (by simp [overTo]), hu⟩
theorem over_nil (w : World) : Calls Try.prog 67 #[.slice none 0 0] w fun e w' => e = .returned (.tuple #[]) ∧ w' = w := by
  go_enter Try.func67, Try.ntmps67
  go_wp2
  go_loopw [3] (fun v wr => v = .int .i64 0 ∧ wr = w) (fun _ _ => 0)
  case atStart => exact ⟨rfl, rfl⟩
  case round =>
    obtain ⟨rfl, rfl⟩ := hrel
    go_wp2
    refine bodyPost_end (v := .tuple #[]) (by simp [results]) rfl ⟨rfl, rfl⟩
end Go.Proofs.Ytmhfehhpfkjloaa

/- make([]T, n): the elements' noughts. Plain facts over any program. Condition: n is at most 2^47. -/
namespace Go
open Go.RowKit
/-- make([]T, n): the elements' noughts. -/
theorem wpList_make_zero {P : Program} (w : World) {ops : Array Oper} {rest : List Oper} {o : Oper} {a : Act} {Q : Exit → Act → World → Prop}
    (hg : o.guard = none) (l c : Operand) (t : TypeId) (hop : o.op = Op.makeSlice t l c) (e : TypeId) (z : Value) (size bytes : Nat) (h1 : P.underlying t = some (.slice e)) (h2 : (P.info? e).map (fun i => (i.zero, i.size, i.bytes)) = some (some z, size, bytes))
    (kl kc : IntKind) (n m : Nat) (hl : a.eval l = .int kl n) (hc : a.eval c = .int kc m) (hnm : n ≤ m) (hm : m ≤ 140737488400000) (hm2 : bytes * m ≤ 140737488400000) (cs : Array Value) (hcs : madeCells z.cells (m * size) = cs)
    (hK : ∀ w', Blk w' w.heap.size e cs → Below w.heap.size w w' → w'.heap.size = w.heap.size + 1 → wpList P ops Q rest (a.put o.dst (.slice (some ⟨w.heap.size, 0, none⟩) n m)) w') :
    wpList P ops Q (o :: rest) a w := by
  obtain ⟨i, hi, hzz⟩ := Option.map_eq_some_iff.1 h2
  simp only [Prod.mk.injEq] at hzz
  obtain ⟨hz, hs, hb⟩ := hzz
  have hr := run_make (P := P) w t e i _ h1 hi hz kl kc n m (by omega) (by omega) (by rw [hb]; omega) (by omega)
  rw [Int.toNat_natCast, Int.toNat_natCast, hs, hcs] at hr
  refine wpList_plain hg fun K hK' => ?_
  unfold Oper.wp
  simp only [execOp, hop, hl, hc, hr, Sem.run_bind, Result.andThen_ok, Sem.run_pure]
  exact hK' _ _ (hK _ (Blk.new w e _) ((Below.refl _ _).alloc (Nat.le_refl _) _) (by simp))
end Go

/- What the kit asks of lists that shall share no memory: each is written over, and the others stay. Conditions: they lie whole in blocks of their own, or are nil. -/
namespace Go
open Go.RowKit
/-- A list that lies whole in a block, or none: its address, its length, all its bytes up to its capacity. -/
structure Ent where
  A : Option Addr
  n : Nat
  l : List UInt8
def Ent.val (e : Ent) : Value := .slice e.A e.n e.l.length
def Ent.blk (e : Ent) : Option Nat := e.A.map (·.block)
def Ent.Is (w : World) (e : Ent) : Prop :=
  e.n ≤ e.l.length ∧ e.l.length ≤ 140737488351232 ∧ ((e.A = none ∧ e.l = []) ∨ ∃ g t, e.A = some ⟨g, 0, none⟩ ∧ Blk w g t (e.l.map u8v).toArray)
theorem Ent.Is.bytes {w : World} {e : Ent} (h : e.Is w) : Bytes w e.A e.l := by
  obtain ⟨_, _, ⟨h1, h2⟩ | ⟨g, t, h1, h2⟩⟩ := h
  · rw [h1, h2]; exact Reads.nil _ _
  · rw [h1]; exact h2.bytes
theorem Ent.Is.kept {w w' : World} {row : Option Nat} {e : Ent} (h : e.Is w) (hg : w.grownBy w' row) (hne : ∀ g, e.blk = some g → some g ≠ row) : e.Is w' := by
  obtain ⟨h1, h2, h3 | ⟨g, t, h3, h4⟩⟩ := h
  · exact ⟨h1, h2, .inl h3⟩
  · exact ⟨h1, h2, .inr ⟨g, t, h3, (hg.block g h4.lt (hne g (by unfold Ent.blk; rw [h3]; rfl))).trans h4⟩⟩
theorem Ent.Is.below {w w' : World} {e : Ent} {B : Nat} (h : e.Is w) (hb : Below B w w') (hlt : ∀ g, e.blk = some g → g < B) : e.Is w' := by
  obtain ⟨h1, h2, h3 | ⟨g, t, h3, h4⟩⟩ := h
  · exact ⟨h1, h2, .inl h3⟩
  · exact ⟨h1, h2, .inr ⟨g, t, h3, h4.below hb (hlt g (by unfold Ent.blk; rw [h3]; rfl))⟩⟩
theorem Ent.Is.lt {w : World} {e : Ent} (h : e.Is w) : ∀ g, e.blk = some g → g < w.heap.size := by
  intro g hg
  obtain ⟨_, _, ⟨h3, _⟩ | ⟨g', t, h3, h4⟩⟩ := h
  · unfold Ent.blk at hg; rw [h3] at hg; cases hg
  · unfold Ent.blk at hg; rw [h3] at hg; simp at hg; subst hg; exact h4.lt
theorem Upd.grownBy {w w' : World} {g : Nat} (u : Upd g w w') : w.grownBy w' (some g) := ⟨u.os, u.tape, u.output, by rw [u.size]; exact Nat.le_refl _, fun k _ hk => u.block k (fun e => hk (by rw [e]))⟩
end Go
namespace Go.Proofs.Ytmhfehhpfkjloaa
open Go.RowKit
def Ent.over (e : Ent) : Ent := ⟨e.A, e.n, Proofs.Ytmhfehhpfkjloaa.over e.l⟩
theorem Ent.over_over (e : Ent) : Ent.over (Ent.over e) = e := by unfold Ent.over; rw [Proofs.Ytmhfehhpfkjloaa.over_over]
theorem over_ent (e : Ent) (w : World) (h : e.Is w) : Calls Try.prog 67 #[e.val] w fun r w' => r = .returned (.tuple #[]) ∧ (Ent.over e).Is w' ∧ w.grownBy w' e.blk := by
  obtain ⟨A, n, l⟩ := e
  obtain ⟨h1, h2, ⟨h3, h4⟩ | ⟨g, t, h3, h4⟩⟩ := h
  · simp only at h1 h2 h3 h4
    subst h3 h4
    obtain rfl : n = 0 := by simpa using h1
    refine (over_nil w).mono ?_
    rintro r w' ⟨rfl, rfl⟩
    exact ⟨rfl, ⟨by simp [Ent.over, Proofs.Ytmhfehhpfkjloaa.over], by simp [Ent.over, Proofs.Ytmhfehhpfkjloaa.over], .inl ⟨rfl, by simp [Ent.over, Proofs.Ytmhfehhpfkjloaa.over]⟩⟩, World.grownBy.refl _ _⟩
  · simp only at h1 h2 h3 h4
    subst h3
    refine (over_any g n l.length l h1 rfl (by omega) w t h4).mono ?_
    rintro r w' ⟨rfl, hg, hu⟩
    exact ⟨rfl, ⟨by simpa [Ent.over, over_length] using h1, by simpa [Ent.over, over_length] using h2, .inr ⟨g, t, rfl, hg⟩⟩, hu.grownBy⟩
theorem nils_cells (n : Nat) : madeCells (Value.slice none 0 0).cells (n * 1) = (List.replicate n (Value.slice none 0 0)).toArray := by
  unfold madeCells
  apply Array.ext_getElem?
  intro a
  by_cases ha : a < n
  · simp [Value.cells, ha, Nat.mod_one]
  · simp [Value.cells, ha]
theorem infoBytes : (Try.prog.info? 43).map (fun i => (i.zero, i.size, i.bytes)) = some (some (.slice none 0 0), 1, 24) := by kernel_rfl
def ApartSt (gl : Nat) (es : List Ent) (wr : World) : Prop := Blk wr gl 43 (es.map Ent.val).toArray ∧ ∀ e ∈ es, e.Is wr
def Apart0 (base : Nat) (w : World) (gl : Nat) (es : List Ent) (v : Value) (wr : World) : Prop :=
  ∃ i : Nat, i ≤ es.length ∧ v = .int .i64 (i : Int) ∧ ApartSt gl es wr ∧ Below base w wr
def Apart1 (wi : World) (gw : Nat) (es : List Ent) (v : Value) (wr : World) : Prop :=
  ∃ (k : Nat) (cs : List Value), k ≤ es.length ∧ cs.length = k ∧ v = .int .i64 (k : Int) ∧ Blk wr gw 43 (cs ++ List.replicate (es.length - k) (Value.slice none 0 0)).toArray ∧
    (∀ (j : Nat) (v : Value) (e : Ent), cs[j]? = some v → es[j]? = some e → ∃ sp, OwnB 5 wr (gw + 1) v e.l sp) ∧ Below gw wi wr
def Apart2 (wj : World) (n : Nat) (v : Value) (wr : World) : Prop := ∃ k : Nat, k ≤ n ∧ v = .int .i64 (k : Int) ∧ Below wj.heap.size wj wr
theorem Ent.over_val (e : Ent) : (Ent.over e).val = e.val := by unfold Ent.over Ent.val; rw [over_length]
set_option maxHeartbeats 2000000 in
theorem apart_any (base gl c : Nat) (es : List Ent) (hes : es.length ≤ 1000) (w : World) (hbase : base ≤ w.heap.size) (hst : ApartSt gl es w)
    (hd : ∀ i j (hi : i < es.length) (hj : j < es.length), i ≠ j → ∀ g, es[i].blk = some g → es[j].blk ≠ some g) (hgl : ∀ e ∈ es, e.blk ≠ some gl) (hb : ∀ e ∈ es, ∀ g, e.blk = some g → base ≤ g) :
    Calls Try.prog 28 #[.slice (some ⟨gl, 0, none⟩) es.length c] w fun e w' => e = .returned (.bool true) ∧ Below base w w' := by
  have HD := Lib.hid hd
  have HGL := Lib.hid hgl
  have HB := Lib.hid hb
  clear hd hgl hb
  go_enter Try.func28, Try.ntmps28
  go_wp2_with fail
  go_loopw [3] (fun v wr => Apart0 base w gl es v wr) (fun v _ => es.length - (intOf v).toNat)
  case atStart => exact ⟨0, by omega, rfl, hst, Below.refl _ _⟩
  case round =>
    clear hst
    obtain ⟨i, hi, rfl, hst, hBr⟩ := hrel
    have HST := Lib.hid hst
    clear hst
    revert wr
    intro wi hBr HST
    by_cases hlt : i < es.length
    · go_wp2_with (first
        | (show wpList _ _ _ ((⟨some 15, _, _, _, _, _⟩ : Oper) :: _) _ _; refine wpList_make_zero _ (o := ⟨some 15, _, _, _, _, _⟩) (by rfl) _ _ _ (by rfl) 43 (.slice none 0 0) 1 24 Try.underlying51 infoBytes .i64 .i64 es.length es.length (by rfl) (by rfl) (Nat.le_refl _) (by omega) (by omega) _ (nils_cells es.length) ?_; intro w2 hw2 hbx hs2)
        | fail)
      go_loopw [5] (fun v wr => Apart1 wi wi.heap.size es v wr) (fun v _ => es.length - (intOf v).toNat)
      case atStart => exact ⟨0, [], by omega, rfl, rfl, by simpa using hw2, fun j v e h => by simp at h, hbx⟩
      case round =>
        clear hw2 hbx hs2
        obtain ⟨k, cs, hk, hcl, rfl, hgw, hown, hBk⟩ := hrel
        have HCL := Lib.hid hcl
        have HOWN := Lib.hid hown
        clear hcl hown
        by_cases hlk : k < es.length
        · have hgl3 := HST.out.1.below hBk HST.out.1.lt
          have hi3 : es[k].Is wr := (HST.out.2 es[k] (List.getElem_mem hlk)).below hBk (fun g hg => (HST.out.2 es[k] (List.getElem_mem hlk)).lt g hg)
          have hv3 : (es.map Ent.val).toArray[k]? = some es[k].val := by simp [hlk]
          have HE := Lib.hid (show es[k]? = some es[k] from List.getElem?_eq_getElem hlk)
          generalize es[k] = e at hi3 hv3 HE
          obtain ⟨A, n, l⟩ := e
          have hby := hi3.bytes
          obtain ⟨hn1, hn2, _⟩ := hi3
          simp only at hn1 hn2 hby
          have hv4 : (es.map Ent.val).toArray[k]? = some (.slice A n l.length) := hv3
          clear hv3
          have hgwl := hgw.lt
          go_wp2_with fail
          refine wp_region_plan (Below wr.heap.size wr) [14] [(true, 0), (true, 1), (true, 2), (true, 3), (true, 4), (true, 6), (true, 7), (true, 8), (true, 5), (true, 9), (true, 10), (true, 11), (false, 12), (true, 13), (false, 14)] (by kernel_rfl) (by kernel_rfl) (fun c a a' w h q => ⟨h ▸ q.1, q.2⟩) (Below.refl _ _).drew ?_
          refine wpPlan_pure [0, 1, 2, 3, 4, 6, 7, 8] [(true, 5), (true, 9), (true, 10), (true, 11), (false, 12), (true, 13), (false, 14)] _ (by rfl) (by rfl) ?_
          dsimp only [List.filterMap, List.getElem?_cons_zero, List.getElem?_cons_succ]
          repeat (go_big_quiet_step (fail))
          refine wpQuiet_nil ?_
          refine wpPlan_takeL [5, 9] [(true, 10), (true, 11), (false, 12), (true, 13), (false, 14)] _ (by rfl) (by rfl) (Below.refl _ _).drew ?_
          dsimp only [List.filterMap, List.getElem?_cons_zero, List.getElem?_cons_succ]
          (refine wpQuiet_load_cell (fun w' hw' => Blk.at_ (v := .slice A n l.length) (hgl3.below hw' hgl3.lt) k hv4) (by rfl) _ _ (by rfl) (by rfl) _ Try.underlying43 (by rfl) ?_; simp only [Act.put, List.setIfInBounds_toArray, List.set_cons_zero, List.set_cons_succ])
          (refine wpQuiet_load_cell (fun w' hw' => Blk.at_ (v := .slice A n l.length) (hgl3.below hw' hgl3.lt) k hv4) (by rfl) _ _ (by rfl) (by rfl) _ Try.underlying43 (by rfl) ?_; simp only [Act.put, List.setIfInBounds_toArray, List.set_cons_zero, List.set_cons_succ])
          refine wpQuiet_nil ?_
          refine wpPlan_pure [10, 11] [(false, 12), (true, 13), (false, 14)] _ (by rfl) (by rfl) ?_
          dsimp only [List.filterMap, List.getElem?_cons_zero, List.getElem?_cons_succ]
          repeat (go_big_quiet_step (fail))
          refine wpQuiet_nil ?_
          refine wpPlan_forceL _ rfl ?_
          go_wp2_with fail
          refine (copyBytes_any A l.length l.length l rfl (by omega) wr.drew hby).mono ?_
          rintro e w4 ⟨v4, sp4, rfl, ho4, hbx⟩
          have hC4 : Below wr.heap.size wr w4 := (Below.refl wr.heap.size wr).drew.trans (hbx.mono (Nat.le_refl _))
          have hgw4 := hgw.below hC4 hgwl
          obtain ⟨A4, c4, rfl, _, _, _⟩ := OwnB.open_ ho4
          have hcl := HCL.out
          have hrep : List.replicate (es.length - k) (Value.slice none 0 0) = Value.slice none 0 0 :: List.replicate (es.length - (k + 1)) (Value.slice none 0 0) := by
            rw [show es.length - k = es.length - (k + 1) + 1 by omega, List.replicate_succ]
          have d0 : w4.cell? ⟨wi.heap.size, k, none⟩ = some (.slice none 0 0) := hgw4.at_ k (by
            rw [List.getElem?_toArray, List.getElem?_append_right (by omega), hcl, Nat.sub_self, hrep]; rfl)
          have f0 := hgw4.frozen k
          have hgw5 := Lib.hid ((hgw4.set_ k (.slice A4 l.length c4)).sub (show _ = ((cs ++ [Value.slice A4 l.length c4]) ++ List.replicate (es.length - (k + 1)) (Value.slice none 0 0)).toArray by
            rw [List.setIfInBounds_toArray, List.set_append_right _ _ (by omega), hcl, Nat.sub_self, hrep, List.set_cons_zero]; simp))
          have hB5 := Lib.hid ((hBk.trans (hC4.mono hBk.size)).set_ (c := wi.heap.size) (i := k) (Nat.le_refl _) (.slice A4 l.length c4))
          have HOWN5 : Hid (∀ (j : Nat) (v : Value) (e : Ent), (cs ++ [Value.slice A4 l.length c4])[j]? = some v → es[j]? = some e → ∃ sp, OwnB 5 (w4.setCell ⟨wi.heap.size, k, none⟩ (.slice A4 l.length c4)) (wi.heap.size + 1) v e.l sp) := Lib.hid (by
            intro j v e hj he
            rcases Nat.lt_trichotomy j k with h | h | h
            · rw [List.getElem?_append_left (by omega)] at hj
              obtain ⟨sp, ho⟩ := HOWN.out j v e hj he
              exact ⟨sp, OwnsC.off (OwnsC.ownBelow ho hC4) (fun hh => by have := (OwnsC.lt ho _ hh).1; omega) _⟩
            · subst h
              rw [List.getElem?_append_right (by omega), hcl, Nat.sub_self] at hj
              simp at hj
              subst hj
              rw [HE.out] at he
              cases he
              exact ⟨sp4, OwnsC.off (OwnsC.base_ ho4 hgwl) (fun hh => by have h1 := (OwnsC.lt ho4 _ hh).1; have h2 : wr.heap.size ≤ wi.heap.size := h1; omega) _⟩
            · rw [List.getElem?_eq_none (by simp; omega)] at hj; cases hj)
          clear hbx hcl hrep hgw4 ho4 hgw hBk hby hgl3
          go_wp2_with fail
          refine PlanQ.in_ hC4 ?_
          clear hC4
          refine wpPlan_pure [13] [(false, 14)] _ (by rfl) (by rfl) ?_
          dsimp only [List.filterMap, List.getElem?_cons_zero, List.getElem?_cons_succ]
          repeat (go_big_quiet_step (fail))
          refine wpQuiet_nil ?_
          refine wpPlan_forceL _ rfl ?_
          go_wp2_with fail
          refine PlanQ.out (by rfl) ?_
          refine wpPlan_nil ?_
          go_wp2
          go_roundw
          case rel => exact ⟨k + 1, cs ++ [Value.slice A4 l.length c4], by omega, by have := HCL.out; simp [this], by go_num, hgw5.out, HOWN5.out, hB5.out⟩
          case measure => simp [intOf]; omega
        · obtain rfl : k = es.length := by omega
          have hgw' := Lib.hid (hgw.sub (show _ = cs.toArray by simp))
          have hgl3 := HST.out.1.below hBk HST.out.1.lt
          have his : ∀ e ∈ es, e.Is wr := fun e he => (HST.out.2 e he).below hBk (fun g hg => (HST.out.2 e he).lt g hg)
          have hv3 : (es.map Ent.val).toArray[i]? = some es[i].val := by simp [hlt]
          have d0 : wr.cell? ⟨gl, i, none⟩ = some es[i].val := hgl3.at_ i hv3
          have HIS := Lib.hid his
          have hgll := hgl3.lt
          have hgwl := hgw.lt
          have HG3 := Lib.hid hgl3
          obtain ⟨ev, hev⟩ : ∃ v, v = es[i].val := ⟨_, rfl⟩
          rw [← hev] at d0
          have HEV := Lib.hid hev
          clear hv3 his hgl3 hgw hev
          go_wp2_with fail
          rw [HEV.out]
          refine (over_ent es[i] wr (HIS.out es[i] (List.getElem_mem hlt))).mono ?_
          rintro e wj ⟨rfl, hov, hgr⟩
          have hblk : ∀ g, es[i].blk = some g → g < wi.heap.size := (HST.out.2 es[i] (List.getElem_mem hlt)).lt
          have hglj : Blk wj gl 43 (es.map Ent.val).toArray := (hgr.block gl hgll (fun e => HGL.out es[i] (List.getElem_mem hlt) e.symm)).trans HG3.out
          have hgwj : Blk wj wi.heap.size 43 cs.toArray := (hgr.block _ hgwl (fun e => by have := hblk _ e.symm; omega)).trans hgw'.out
          have HISJ : Hid (∀ m, (hm : m < es.length) → m ≠ i → es[m].Is wj) := Lib.hid (fun m hm hne => (HIS.out es[m] (List.getElem_mem hm)).kept hgr (fun g hg e => HD.out m i hm hlt hne g hg e.symm))
          have HOWNJ : Hid (∀ (j : Nat) (v : Value) (e : Ent), cs[j]? = some v → es[j]? = some e → ∃ sp, OwnB 5 wj (wi.heap.size + 1) v e.l sp) := Lib.hid (fun j v e h1 h2 => by
            obtain ⟨sp, ho⟩ := HOWN.out j v e h1 h2
            refine ⟨sp, OwnsC.kept ho hgr ?_⟩
            cases hvb : v.ownBlock with
            | none => exact .inl rfl
            | some g => exact .inr (fun hh => by have h3 := (OwnsC.lt ho _ hvb).1; have h4 := hblk g hh.symm; omega))
          have hB0 := HB.out es[i] (List.getElem_mem hlt)
          have hsi := hBr.size
          have hsk := hBk.size
          have hbi : base ≤ wi.heap.size := by omega
          have hBj := (hBr.trans (hBk.mono hbi)).grown hgr (by omega) hB0
          have HOV := Lib.hid hov
          have HGLJ := Lib.hid hglj
          have HGWJ := Lib.hid hgwj
          have HBJ := Lib.hid hBj
          clear d0 hov hglj hgwj hBj HOWN HIS HG3 hgw' hBk hgr
          go_wp2_with fail
          go_loopw [6] (fun v wr => Apart2 wj es.length v wr) (fun v _ => es.length - (intOf v).toNat)
          case atStart => exact ⟨0, by omega, rfl, Below.refl _ _⟩
          case round =>
            obtain ⟨k, hk2, rfl, hBj2⟩ := hrel
            have hgl4 := HGLJ.out.below hBj2 HGLJ.out.lt
            have hgw4 := HGWJ.out.below hBj2 HGWJ.out.lt
            by_cases hlk2 : k < es.length
            · by_cases hki : k = i
              · subst hki
                go_wp2_with fail
                refine wp_region_plan (Below wr.heap.size wr) [] [(true, 0), (true, 1), (true, 2), (true, 3), (true, 4), (true, 5), (true, 6), (true, 8), (true, 9), (true, 10), (true, 14), (true, 15), (true, 16), (true, 7), (true, 11), (true, 17), (true, 12), (true, 13), (false, 18), (true, 19), (true, 20)] (by kernel_rfl) (by kernel_rfl) (fun c a a' w h q => ⟨h ▸ q.1, q.2⟩) (Below.refl _ _).drew ?_
                refine wpPlan_pure [0, 1, 2, 3, 4, 5, 6, 8, 9, 10, 14, 15, 16] [(true, 7), (true, 11), (true, 17), (true, 12), (true, 13), (false, 18), (true, 19), (true, 20)] _ (by rfl) (by rfl) ?_
                dsimp only [List.filterMap, List.getElem?_cons_zero, List.getElem?_cons_succ]
                repeat (go_big_quiet_step (fail))
                refine wpQuiet_nil ?_
                refine wpPlan_takeL [7, 11, 17] [(true, 12), (true, 13), (false, 18), (true, 19), (true, 20)] _ (by rfl) (by rfl) (Below.refl _ _).drew ?_
                dsimp only [List.filterMap, List.getElem?_cons_zero, List.getElem?_cons_succ]
                repeat (go_big_quiet_step (fail))
                refine wpQuiet_nil ?_
                refine wpPlan_pure [12, 13] [(false, 18), (true, 19), (true, 20)] _ (by rfl) (by rfl) ?_
                dsimp only [List.filterMap, List.getElem?_cons_zero, List.getElem?_cons_succ]
                repeat (go_big_quiet_step (fail))
                refine wpQuiet_nil ?_
                refine wpPlan_forceL _ rfl ?_
                go_wp2_with fail
                refine PlanQ.in_ (Below.refl _ _).drew ?_
                refine wpPlan_pure [19, 20] [] _ (by rfl) (by rfl) ?_
                dsimp only [List.filterMap, List.getElem?_cons_zero, List.getElem?_cons_succ]
                repeat (go_big_quiet_step (fail))
                refine wpQuiet_nil ?_
                refine wpPlan_nil ?_
                go_wp2
                go_roundw
                case rel => exact ⟨k + 1, by omega, by go_num, hBj2.drew⟩
                case measure => simp [intOf]; omega
              · have hisk := HISJ.out k hlk2 hki
                have hv4 : (es.map Ent.val).toArray[k]? = some es[k].val := by simp [hlk2]
                have HE : es[k]? = some es[k] := List.getElem?_eq_getElem hlk2
                generalize es[k] = e at hisk hv4 HE
                obtain ⟨A, n, l⟩ := e
                have hcl := HCL.out
                have hck : cs[k]? = some (cs[k]'(by omega)) := List.getElem?_eq_getElem (by omega)
                generalize (cs[k]'(by omega)) = v5 at hck
                obtain ⟨sp5, ho5⟩ := HOWNJ.out k v5 _ hck HE
                obtain ⟨A5, c5, rfl, _, _, hb5⟩ := OwnB.open_ ho5
                have hc5 : cs.toArray[k]? = some (.slice A5 l.length c5) := by rw [List.getElem?_toArray]; exact hck
                have hby4 := Bytes.below hisk.bytes hBj2
                obtain ⟨hn1, hn2, _⟩ := hisk
                replace hb5 := Bytes.below hb5 hBj2
                simp only at hn1 hn2 hby4 hb5 hc5
                replace hv4 : (es.map Ent.val).toArray[k]? = some (.slice A n l.length) := hv4
                clear HE hck ho5 hcl
                have H1 : ((k : Int) != (i : Int)) = true := by rw [bne_iff_ne]; omega
                go_wp2_with fail
                refine wp_region_plan (Below wr.heap.size wr) [] [(true, 0), (true, 1), (true, 2), (true, 3), (true, 4), (true, 5), (true, 6), (true, 8), (true, 9), (true, 10), (true, 14), (true, 15), (true, 16), (true, 7), (true, 11), (true, 17), (true, 12), (true, 13), (false, 18), (true, 19), (true, 20)] (by kernel_rfl) (by kernel_rfl) (fun c a a' w h q => ⟨h ▸ q.1, q.2⟩) (Below.refl _ _).drew ?_
                refine wpPlan_pure [0, 1, 2, 3, 4, 5, 6, 8, 9, 10, 14, 15, 16] [(true, 7), (true, 11), (true, 17), (true, 12), (true, 13), (false, 18), (true, 19), (true, 20)] _ (by rfl) (by rfl) ?_
                dsimp only [List.filterMap, List.getElem?_cons_zero, List.getElem?_cons_succ]
                repeat (go_big_quiet_step (fail))
                refine wpQuiet_nil ?_
                refine wpPlan_takeL [7, 11, 17] [(true, 12), (true, 13), (false, 18), (true, 19), (true, 20)] _ (by rfl) (by rfl) (Below.refl _ _).drew ?_
                dsimp only [List.filterMap, List.getElem?_cons_zero, List.getElem?_cons_succ]
                (refine wpQuiet_want' (by rfl) ?_; refine wpQuiet_load_cell (fun w' hw' => Blk.at_ (v := .slice A n l.length) (hgl4.below hw' hgl4.lt) k hv4) (by rfl) _ _ (by rfl) (by rfl) _ Try.underlying43 (by rfl) ?_; simp only [Act.put, List.setIfInBounds_toArray, List.set_cons_zero, List.set_cons_succ])
                (refine wpQuiet_want' (by rfl) ?_; refine wpQuiet_load_cell (fun w' hw' => Blk.at_ (v := .slice A n l.length) (hgl4.below hw' hgl4.lt) k hv4) (by rfl) _ _ (by rfl) (by rfl) _ Try.underlying43 (by rfl) ?_; simp only [Act.put, List.setIfInBounds_toArray, List.set_cons_zero, List.set_cons_succ])
                (refine wpQuiet_want' (by rfl) ?_; refine wpQuiet_load_cell (fun w' hw' => Blk.at_ (v := .slice A5 l.length c5) (hgw4.below hw' hgw4.lt) k hc5) (by rfl) _ _ (by rfl) (by rfl) _ Try.underlying43 (by rfl) ?_; simp only [Act.put, List.setIfInBounds_toArray, List.set_cons_zero, List.set_cons_succ])
                refine wpQuiet_nil ?_
                refine wpPlan_pure [12, 13] [(false, 18), (true, 19), (true, 20)] _ (by rfl) (by rfl) ?_
                dsimp only [List.filterMap, List.getElem?_cons_zero, List.getElem?_cons_succ]
                repeat (go_big_quiet_step (fail))
                refine wpQuiet_nil ?_
                refine wpPlan_forceL _ rfl ?_
                go_wp2_with fail
                refine (sameBytes_any A A5 l.length l.length l.length c5 l l rfl rfl wr.drew hby4 hb5).mono ?_
                rintro e wz ⟨rfl, rfl⟩
                rw [decide_eq_true rfl]
                go_wp2_with fail
                refine PlanQ.in_ (Below.refl _ _).drew ?_
                refine wpPlan_pure [19, 20] [] _ (by rfl) (by rfl) ?_
                dsimp only [List.filterMap, List.getElem?_cons_zero, List.getElem?_cons_succ]
                repeat (go_big_quiet_step (fail))
                refine wpQuiet_nil ?_
                refine wpPlan_nil ?_
                go_wp2
                go_roundw
                case rel => exact ⟨k + 1, by omega, by go_num, hBj2.drew⟩
                case measure => simp [intOf]; omega
            · obtain rfl : k = es.length := by omega
              have hv3 : (es.map Ent.val).toArray[i]? = some es[i].val := by simp [hlt]
              have d0 : wr.cell? ⟨gl, i, none⟩ = some es[i].val := hgl4.at_ i hv3
              have hov := (HOV.out).below hBj2 (fun g hg => HOV.out.lt g hg)
              have HIS4 : Hid (∀ m, (hm : m < es.length) → m ≠ i → es[m].Is wr) := Lib.hid (fun m hm hne => (HISJ.out m hm hne).below hBj2 (fun g hg => (HISJ.out m hm hne).lt g hg))
              have hB4 := HBJ.out.trans (hBj2.mono (by have := HBJ.out.size; omega))
              obtain ⟨ev, hev⟩ : ∃ v, v = es[i].val := ⟨_, rfl⟩
              rw [← hev] at d0
              have HEV := Lib.hid hev
              have HG4 := Lib.hid hgl4
              have hgll4 := hgl4.lt
              clear hv3 hev hgw4 hgl4 hBj2
              go_wp2_with fail
              rw [HEV.out, ← Ent.over_val]
              refine (over_ent (Ent.over es[i]) wr hov).mono ?_
              rintro e w5 ⟨rfl, hov5, hgr5⟩
              rw [Ent.over_over] at hov5
              have hgl5 : Blk w5 gl 43 (es.map Ent.val).toArray := (hgr5.block gl hgll4 (fun e => HGL.out es[i] (List.getElem_mem hlt) e.symm)).trans HG4.out
              have hst5 : ApartSt gl es w5 := ⟨hgl5, fun e he => by
                obtain ⟨m, hm, rfl⟩ := List.getElem_of_mem he
                by_cases hmi : m = i
                · subst hmi; exact hov5
                · exact (HIS4.out m hm hmi).kept hgr5 (fun g hg e => HD.out m i hm hlt hmi g hg e.symm)⟩
              have hB5 := hB4.grown hgr5 (by have := hB4.size; omega) hB0
              have HST5 := Lib.hid hst5
              have HB5 := Lib.hid hB5
              clear d0 hov hov5 hgr5 hgl5 hst5 hB5 hB4
              go_wp2
              go_roundw
              case rel => exact ⟨i + 1, by omega, by go_num, HST5.out, HB5.out⟩
              case measure => simp [intOf]; omega
    · obtain rfl : i = es.length := by omega
      go_wp2
      go_ret
      exact ⟨rfl, hBr⟩
end Go.Proofs.Ytmhfehhpfkjloaa
