/- Layer 05's law: reads. Conditions: the disk is whole; what is wanted can be read, and is at most 100 sectors. -/
import Derived.Test.YtmhfehhpfkjloaaM69
namespace Go
/-- Are so many sectors from a place on full of just these bytes? -/
def readsB (d : Dsk) (f : Option Fus) (at_ : Int) (W : List UInt8) : Bool := decide ((d.read f at_ (W.length : Int)).2 = 0) && decide ((d.read f at_ (W.length : Int)).1 = W.flatMap fun c => List.replicate 256 c)
theorem flat_len (W : List UInt8) : (W.flatMap fun c => List.replicate 256 c).length = 256 * W.length := by
  induction W with
  | nil => rfl
  | cons x W ih => rw [List.flatMap_cons, List.length_append, ih, List.length_replicate, List.length_cons]; omega
theorem flat_take (W : List UInt8) (i : Nat) (h : i < W.length) : (W.take (i + 1)).flatMap (fun c => List.replicate 256 c) = (W.take i).flatMap (fun c => List.replicate 256 c) ++ List.replicate 256 W[i] := by
  rw [List.take_succ_eq_append_getElem h, List.flatMap_append, List.flatMap_cons, List.flatMap_nil, List.append_nil]
theorem flat_sec (W : List UInt8) (i : Nat) (h : i < W.length) : sec (W.flatMap fun c => List.replicate 256 c) i = List.replicate 256 W[i] := by
  have e1 : W.flatMap (fun c => List.replicate 256 c) = (W.take i).flatMap (fun c => List.replicate 256 c) ++ (W.drop i).flatMap (fun c => List.replicate 256 c) := by rw [← List.flatMap_append, List.take_append_drop]
  have e2 : ((W.take i).flatMap fun c => List.replicate 256 c).length = 256 * i := by rw [flat_len, List.length_take]; congr 1; omega
  unfold sec
  rw [e1, List.drop_left' e2, List.drop_eq_getElem_cons h, List.flatMap_cons, List.take_left' (List.length_replicate ..)]
end Go
namespace Go.Proofs.Ytmhfehhpfkjloaa
open Go.RowKit
def RdsRel (w : World) (x W : List UInt8) (v : Value) (wr : World) : Prop := ∃ i : Nat, i ≤ W.length ∧ v = .int .i64 (i : Int) ∧ Below w.heap.size w wr ∧ x.take (256 * i) = (W.take i).flatMap fun c => List.replicate 256 c
section
variable {w : World} {p : Pl} {gf : Option Nat} {d : Dsk} {f : Option Fus}
set_option maxRecDepth 100000 in
set_option maxHeartbeats 4000000 in
theorem reads_any (at_ : Int) (A : Option Addr) (W : List UInt8) (c : Nat) (hW : Bytes w A W) (hWn : W.length ≤ 100) (hd : DskR w p gf d) (hf : FusR w gf f) (hok : d.Ok) :
    Calls Try.prog 46 #[.pointer (some ⟨p.gd, 0, none⟩), .int .i64 at_, .slice A W.length c] w fun e w' => e = .returned (.bool (readsB d f at_ W)) ∧ Below w.heap.size w w' := by
  have hr := read_all at_ (W.length : Int) hd hf hok
  have HH := Lib.hid hW
  have hlen : (d.read f at_ (W.length : Int)).2 = 0 → (d.read f at_ (W.length : Int)).1.length = 256 * W.length := by
    intro h
    unfold Dsk.read at h ⊢
    split
    · rename_i h1; rw [if_pos h1] at h; exact absurd h (by decide)
    split
    · rename_i h1 h2; rw [if_neg h1, if_pos h2] at h; exact absurd h (by decide)
    · rename_i h1 h2
      show ((d.L.drop _).take _).length = _
      rw [List.length_take, List.length_drop, hok.len, Int.toNat_natCast]
      omega
  obtain ⟨q, hq⟩ : ∃ q, q = readsB d f at_ W := ⟨_, rfl⟩
  rw [← hq]
  unfold readsB at hq
  generalize d.read f at_ (W.length : Int) = R at hr hq hlen
  obtain ⟨x, e⟩ := R
  simp only at hr hq hlen
  have HQ := Lib.hid (And.intro hq hlen)
  clear hq hW hd hf hok hlen
  go_enter Try.func46, Try.ntmps46
  go_wp2_with fail
  refine hr.mono ?_
  rintro e1 w1 ⟨X, rfl, hcase, hb⟩
  have HB := Lib.hid hb
  clear hr hb
  by_cases he : e = 0
  case neg =>
    have hq0 : q = false := by rw [HQ.out.1, decide_eq_false (show ¬ (e = 0) from he)]; rfl
    subst hq0
    have he2 : (e != 0) = true := by simp [he]
    have hX : X = none ∧ x = [] := by
      rcases hcase with h | h
      · exact absurd h.1 he
      · exact h.2
    obtain ⟨rfl, rfl⟩ := hX
    clear hcase he
    go_wp2
    go_ret
    exact ⟨rfl, HB.out⟩
  subst he
  have hX : ∃ g, X = some ⟨g, 0, none⟩ ∧ w.heap.size ≤ g ∧ Blk w1 g 5 (x.map u8v).toArray := by
    rcases hcase with h | h
    · exact h.2
    · exact absurd rfl h.1
  obtain ⟨g, rfl, hg0, hg⟩ := hX
  have hxl : x.length = 256 * W.length := HQ.out.2 rfl
  have hm1 : wrap64 ((W.length : Int) * 256) = ((256 * W.length : Nat) : Int) := by unfold wrap64; omega
  have hc1 : ((256 : Int) * (W.length : Int) != (W.length : Int) * 256) = false := by simp; omega
  rw [hxl]
  have HG := Lib.hid (And.intro hg (And.intro hg0 hxl))
  clear hcase hg hg0 hxl
  go_wp2_with fail
  have hS : RdsRel w1 x W (.int .i64 0) w1 := ⟨0, Nat.zero_le _, rfl, Below.refl _ _, by rw [Nat.mul_zero, List.take_zero, List.take_zero]; rfl⟩
  clear hm1 hc1
  go_loopw [9] (fun v wr => RdsRel w1 x W v wr) (fun v _ => W.length - (intOf v).toNat)
  case atStart => exact hS
  case round =>
    clear hS
    obtain ⟨i, hi, rfl, hB, ht⟩ := hrel
    by_cases hlt : i < W.length
    case neg =>
      have hq1 : q = true := by
        rw [HQ.out.1]
        have e1 : x.take (256 * i) = x := List.take_of_length_le (by rw [HG.out.2.2]; omega)
        have e2 : W.take i = W := List.take_of_length_le (by omega)
        rw [e1, e2] at ht
        rw [decide_eq_true ht]
        rfl
      subst hq1
      have HR := Lib.hid (HB.out.trans (hB.mono HB.out.size))
      clear hB ht hi
      go_wp2
      go_ret
      exact ⟨rfl, HR.out⟩
    obtain ⟨b, off, hAe, hcb⟩ := ((HH.out.below HB.out).below hB) (by intro e; have e2 := congrArg List.length e; rw [List.length_map, List.length_nil] at e2; omega)
    obtain ⟨y, hy⟩ : ∃ y, y = W[i] := ⟨_, rfl⟩
    have dW : wr.cell? ⟨b, off + i, none⟩ = some (.int .u8 (iu8 y)) := hcb i _ (by rw [List.getElem?_map, List.getElem?_eq_getElem hlt, ← hy]; rfl)
    have hgr := HG.out.1.below hB HG.out.1.lt
    have hcn : ¬ 256 * W.length = i * 256 := by omega
    have hc2 : (i + 1) * 256 ≤ 256 * W.length := by omega
    have hc3 : i * 256 ≤ 256 * W.length := by omega
    have hby : Bytes wr (some ⟨g, i * 256, none⟩) (sec x i) := by
      have h := hgr.bytes.drop (k := i * 256) (cap := 256 * W.length) (.inl (by omega))
      rw [if_neg hcn] at h
      have h2 := h.take 256
      rw [Nat.mul_comm i 256] at h2
      unfold sec
      rw [Nat.mul_comm i 256]
      simpa [Addr.add_lit] using h2
    have hsl : (sec x i).length = 256 := sec_len (by rw [HG.out.2.2]; omega)
    have HX := Lib.hid (And.intro hy (And.intro ht (And.intro hB (And.intro hby hsl))))
    subst hAe
    clear hcb hy ht hB hby hsl hgr hi
    go_wp2_with fail
    refine wp_region_tree (Below wr.heap.size wr) [] (PlanT.takes [0, 1, 2, 3, 4, 5, 6, 7, 8, 9] (PlanT.takes [10] (.opt 11 (.opt 12 (PlanT.takes [13] .done) .no) .no))) (by kernel_rfl) (by kernel_rfl) ((Below.refl _ _).drew) ?_
    refine wpTree_pure _ _ _ (by rfl) (by rfl) ?_
    dsimp only [List.filterMap, List.getElem?_cons_zero, List.getElem?_cons_succ]
    repeat (go_big_quiet_step (fail))
    refine wpQuiet_nil ?_
    refine wpTree_takeL _ _ _ (by rfl) (by rfl) ((Below.refl _ _).drew) ?_
    dsimp only [List.filterMap, List.getElem?_cons_zero, List.getElem?_cons_succ]
    (refine wpQuiet_load_cell (fun w' hw' => (hw'.cell (World.block_lt_of_cell? wr _ dW)).trans dW) (by rfl) _ _ (by rfl) (by rfl) _ Try.underlying5 (by rfl) ?_; simp only [Act.put, List.setIfInBounds_toArray, List.set_cons_zero, List.set_cons_succ])
    refine wpQuiet_nil ?_
    refine wpTree_one _ rfl ?_
    go_wp2_with fail
    refine (sector_any y _).mono ?_
    rintro e w2 ⟨gs, rfl, hs1, hs2, hs3⟩
    have hb2 : Below wr.heap.size wr w2 := (Below.drew (Below.refl wr.heap.size wr)).trans hs3
    have hS2 := sameBytes_any (some ⟨g, i * 256, none⟩) (some ⟨gs, 0, none⟩) ((i + 1) * 256 - i * 256) 256 (256 * W.length - i * 256) 256 (sec x i) (List.replicate 256 y) (by rw [HX.out.2.2.2.2]; omega) (List.length_replicate ..).symm w2 (HX.out.2.2.2.1.below hb2) hs1.bytes
    obtain ⟨q2, hq2⟩ : ∃ q2, q2 = decide (sec x i = List.replicate 256 y) := ⟨_, rfl⟩
    rw [← hq2] at hS2
    have HZ := Lib.hid (And.intro hb2 (And.intro hS2 hq2))
    clear hs1 hs2 hs3 hb2 hS2 hq2 dW
    go_wp2_with fail
    refine TreeQ.in_ HZ.out.1 ?_
    refine wpTree_one _ rfl ?_
    go_wp2_with fail
    refine HZ.out.2.1.mono ?_
    rintro e w3 ⟨rfl, hw⟩
    obtain rfl := hw.symm
    clear hw
    go_wp2_with fail
    refine TreeQ.in_ HZ.out.1 ?_
    refine wpTree_pure _ _ _ (by rfl) (by rfl) ?_
    dsimp only [List.filterMap, List.getElem?_cons_zero, List.getElem?_cons_succ]
    repeat (go_big_quiet_step (fail))
    refine wpQuiet_nil ?_
    refine wpTree_done ?_
    clear hcn hc2 hc3
    cases q2
    · have hq1 : q = false := by
        rw [HQ.out.1, Bool.and_eq_false_iff]
        refine .inr (decide_eq_false fun e => ?_)
        have h := HZ.out.2.2
        rw [e, flat_sec W i hlt, ← HX.out.1, decide_eq_true rfl] at h
        cases h
      subst hq1
      have HR := Lib.hid (HB.out.trans ((HX.out.2.2.1.trans (HZ.out.1.mono HX.out.2.2.1.size)).mono HB.out.size))
      clear HX HZ HQ HG
      go_wp2
      go_ret
      exact ⟨rfl, HR.out⟩
    · have HF := Lib.hid (show RdsRel w1 x W (.int .i64 ((i + 1 : Nat) : Int)) w2 from ⟨i + 1, hlt, rfl, HX.out.2.2.1.trans (HZ.out.1.mono HX.out.2.2.1.size), by
        rw [flat_take W i hlt, ← HX.out.2.1, ← HX.out.1, ← of_decide_eq_true HZ.out.2.2.symm]
        unfold sec
        rw [Nat.mul_add, Nat.mul_one, List.take_add]⟩)
      go_wp2
      go_roundw
      case rel => exact HF.out
      case measure => simp [intOf]; omega
end
end Go.Proofs.Ytmhfehhpfkjloaa

/- Layer 05's law: the chapter's first disk (four). No condition. -/
namespace Go
theorem write_up {d : Dsk} (ho : d.out = false) {k n : Nat} {b : List UInt8} (hb : b.length = 256 * n) (hn : 1 ≤ n) (hk : k + n ≤ d.N) : d.write none (k : Int) b = (0, d.tick.put k b, none) := by
  unfold Dsk.write
  rw [if_neg (by unfold Dsk.isOut; rw [ho]; decide), if_neg (by omega), if_neg (by omega), Int.toNat_natCast]
  rfl
theorem flush_up {d : Dsk} (ho : d.out = false) : d.flush none = (0, d.tick.safe, none) := by
  unfold Dsk.flush
  rw [if_neg (by unfold Dsk.isOut; rw [ho]; decide)]
  rfl
/-- A sector full of a byte. -/
abbrev rep (c : UInt8) : List UInt8 := List.replicate 256 c
def kd1 : Dsk := (Dsk.new 4).tick.put 0 (rep 1)
def kd2 : Dsk := kd1.tick.put 1 (rep 1 ++ rep 2)
def kd3 : Dsk := kd2.tick.safe
theorem kd2_loose : kd2.loose = [0, 1, 2] := by decide +kernel
theorem kd3_loose : kd3.loose = [] := by decide +kernel
theorem Near.grown {w w' : World} {row : Option Nat} {X : List Nat} (h : w.grownBy w' row) (hX : ∀ k, row = some k → k ∈ X) : Near X w w' := ⟨h.os, h.tape, h.output, h.size, fun k hk hn => h.block k hk fun e => hn (hX k e.symm)⟩
theorem Near.grownNew {w w' w'' : World} {row : Option Nat} {X : List Nat} (h : Near X w w') (hg : w'.grownBy w'' row) (hX : ∀ k, row = some k → w.heap.size ≤ k) : Near X w w'' :=
  ⟨hg.os.trans h.os, hg.tape.trans h.tape, hg.output.trans h.output, Nat.le_trans h.size hg.size, fun k hk hn => (hg.block k (Nat.lt_of_lt_of_le hk h.size) fun e => by have := hX k e.symm; omega).trans (h.block k hk hn)⟩
end Go
namespace Go.Proofs.Ytmhfehhpfkjloaa
open Go.RowKit
section
variable {w : World} {p : Pl} {d : Dsk}
theorem write_upC (at_ : Int) (k n cap : Nat) (A : Option Addr) (b : List UInt8) (hat : at_ = (k : Int)) (hby : Bytes w A b) (hA : ∀ ad, A = some ad → ad.block ∉ p.all none) (hcap : b.length ≤ cap) (hb : b.length = 256 * n) (hn : 1 ≤ n) (hk : k + n ≤ d.N) (hd : DskR w p none d) (hok : d.Ok) (ho : d.out = false) :
    Calls Try.prog 39 #[.pointer (some ⟨p.gd, 0, none⟩), .int .i64 at_, .slice A (256 * n) cap] w fun e w' => e = .returned (.int .i64 0) ∧ DskR w' p none (d.tick.put k b) ∧ Near (p.all none) w w' := by
  have h := write_all (f := none) (k : Int) cap A b hby hA hcap (by have := hok.n2; omega) hd hok trivial
  rw [write_up ho hb hn hk, hb] at h
  subst hat
  refine h.mono ?_
  rintro e w' ⟨rfl, h1, -, h2⟩
  exact ⟨rfl, h1, h2⟩
theorem flush_upC (hd : DskR w p none d) (ho : d.out = false) :
    Calls Try.prog 43 #[.pointer (some ⟨p.gd, 0, none⟩)] w fun e w' => e = .returned (.int .i64 0) ∧ DskR w' p none d.tick.safe ∧ Near (p.all none) w w' := by
  have h := flush_all (f := none) hd trivial
  rw [flush_up ho] at h
  refine h.mono ?_
  rintro e w' ⟨rfl, h1, -, h2⟩
  exact ⟨rfl, h1, h2⟩
end
theorem kd_ok0 : (Dsk.new 4).Ok := Dsk.Ok.new (by omega)
theorem kd_ok1 : kd1.Ok := kd_ok0.tick.put (by decide +kernel) (by decide +kernel)
theorem kd_ok2 : kd2.Ok := kd_ok1.tick.put (by decide +kernel) (by decide +kernel)
theorem kd_ok3 : kd3.Ok := kd_ok2.tick.safe
set_option maxRecDepth 100000 in
set_option maxHeartbeats 4000000 in
theorem four_any (w : World) : Calls Try.prog 37 #[] w fun e w' => ∃ p : Pl, e = .returned (.tuple #[.pointer (some ⟨p.gd, 0, none⟩), .bool true]) ∧ DskR w' p none kd3 ∧ (w.heap.size ≤ p.gd ∧ w.heap.size ≤ p.gl ∧ w.heap.size ≤ p.gm) ∧ Below w.heap.size w w' := by
  go_enter Try.func37, Try.ntmps37
  go_wp2_with fail
  refine (new_all 4 (by omega) w).mono ?_
  rintro e w1 ⟨p, rfl, hd1, hp, hb1⟩
  have hl1 := hd1.lt
  have hX : ∀ B, w1.heap.size ≤ B → ∀ g, B ≤ g → g ∉ p.all none := fun B hB g hg => by simp [Pl.all]; omega
  have hB : ∀ g ∈ p.all none, w.heap.size ≤ g := fun g hg => by simp [Pl.all] at hg; omega
  have H0 := Lib.hid (And.intro hp (And.intro hb1 (And.intro hX hB)))
  clear hp hb1 hl1 hX hB
  go_wp2_with fail
  refine (sector_any 1 _).mono ?_
  rintro e w2 ⟨g1, rfl, h1, hg1, hb2⟩
  have hW1 := write_upC 0 0 1 256 (some ⟨g1, 0, none⟩) (rep 1) rfl h1.bytes (fun ad e => by cases e; exact H0.out.2.2.1 _ (Nat.le_refl _) g1 hg1) (by simp) (by simp) (by omega) (by decide) (hd1.near (Near.below (X := []) hb2) (by simp)) kd_ok0 rfl
  have HB2 := Lib.hid (Near.below (X := p.all none) hb2)
  clear hd1 h1 hg1 hb2
  go_wp2_with fail
  refine hW1.mono ?_
  rintro e w3 ⟨rfl, hd3, hn3⟩
  clear hW1
  have HN3 := Lib.hid (HB2.out.trans hn3)
  have H13 := Lib.hid (show w1.heap.size ≤ w3.heap.size from HN3.out.size)
  clear hn3 HB2
  go_wp2_with fail
  refine (sector_any 1 _).mono ?_
  rintro e w4 ⟨g4, rfl, h4, hg4, hb4⟩
  have hd4 := hd3.near (Near.below (X := []) hb4) (by simp)
  have HN4 := Lib.hid (HN3.out.trans (Near.below hb4))
  have HG4 := Lib.hid (show w3.heap.size ≤ g4 from hg4)
  clear hd3 HN3 hg4 hb4
  go_wp2_with fail
  refine (sector_any 2 _).mono ?_
  rintro e w5 ⟨g5, rfl, h5, hg5, hb5⟩
  have hd5 := hd4.near (Near.below (X := []) hb5) (by simp)
  have HN5 := Lib.hid (HN4.out.trans (Near.below hb5))
  have ho5 : OwnB 5 w5 w3.heap.size (.slice (some ⟨g4, 0, none⟩) 256 256) (rep 1) [] := .inr ⟨g4, 256, by rw [List.length_replicate], HG4.out, by rw [List.map_nil, List.append_nil]; exact h4.below hb5 h4.lt, by simp, by simp [maxLen], by simp, by simp⟩
  have hby5 := h5.bytes
  have hw35 : w3.heap.size ≤ w5.heap.size := by have h1 := h4.lt; have h2 := HG4.out; have h3 := hb5.size; omega
  clear hd4 HN4 hg5 hb5 h4 h5
  go_wp2_with (first
    | ((with_reducible show wpList _ _ _ ((⟨some 24, _, _, _, _, _⟩ : Oper) :: _) _ _); refine wpList_want (by rfl) ?_; refine wpList_append_bytes (o := ⟨some 24, _, _, _, _, _⟩) (by rfl) _ _ _ (by rfl) w3.heap.size _ Try.underlying43 u8info (.slice (some ⟨g4, 0, none⟩) 256 256) (rep 1) [] (by rfl) ho5 (some ⟨g5, 0, none⟩) 256 (rep 2) (by rfl) hby5 (by simp) hw35 ?_; intro v6 w6 sp6 ho6 hg6 hv6 hn6)
    | fail)
  obtain ⟨A6, c6, rfl, hnc6, hcm6, hr6, -⟩ := OwnsC.reads ho6
  have hA6 : ∀ ad, A6 = some ad → w3.heap.size ≤ ad.block := fun ad e => (OwnsC.lt ho6 ad.block (by rw [e]; rfl)).1
  have hw13 : w1.heap.size ≤ w3.heap.size := H13.out
  have hd6 : DskR w6 p none kd1 := hd5.near (Near.grown (X := [g4]) hg6 (fun k e => by cases e; exact List.mem_singleton.2 rfl)) (by have h := HG4.out; have h2 := H0.out.2.2.1 _ hw13 g4 h; simp [Pl.all] at h2; simp; omega)
  have HN6 := Lib.hid (HN5.out.grownNew hg6 (fun k e => by cases e; show w1.heap.size ≤ g4; have := HG4.out; omega))
  have hW6 := write_upC 1 1 2 c6 A6 (rep 1 ++ rep 2) rfl hr6 (fun ad e => H0.out.2.2.1 _ hw13 _ (hA6 ad e)) (by simpa using hnc6) (by simp) (by omega) (by decide) hd6 kd_ok1 rfl
  clear hd5 ho5 hby5 hw35 ho6 hg6 hv6 hn6 hnc6 hcm6 hr6 hA6 hw13 hd6
  rw [show (rep 1 ++ rep 2).length = 256 * 2 by simp]
  refine hW6.mono ?_
  rintro e w7 ⟨rfl, hd7, hn7⟩
  have HN7 := Lib.hid (HN6.out.trans hn7)
  have hL7 := loose_all (d := kd2) hd7 kd_ok2
  rw [kd2_loose] at hL7
  clear hW6 HN6 hn7
  go_wp2_with fail
  refine hL7.mono ?_
  rintro e w8 ⟨A8, c8, rfl, hr8, hA8, hb8⟩
  have hd8 := DskR.near hd7 (Near.below (X := []) hb8) (by simp)
  have HN8 := Lib.hid (HN7.out.trans (Near.below hb8))
  clear hL7 hd7 HN7 hb8
  go_wp2_with fail
  have hb9 := (Below.refl w8.heap.size w8).alloc (Nat.le_refl _) (.cells #[.int .i64 0, .int .i64 1, .int .i64 2] 3)
  have hr9 : Reads (w8.alloc (.cells #[.int .i64 0, .int .i64 1, .int .i64 2] 3)) (some ⟨w8.heap.size, 0, none⟩) (([0, 1, 2] : List Int).map iv) := fun _ => ⟨w8.heap.size, 0, rfl, fun j v hv => by rw [Nat.zero_add]; exact Blk.at_ (Blk.new w8 3 #[.int .i64 0, .int .i64 1, .int .i64 2]) j (by rw [← Array.getElem?_toList]; exact hv)⟩
  have hS9 := sameInts_any A8 (some ⟨w8.heap.size, 0, none⟩) c8 3 [0, 1, 2] [0, 1, 2] (by decide) _ (hr8.below hb9) hr9
  rw [decide_eq_true rfl] at hS9
  have hd9 := hd8.near (Near.below (X := []) hb9) (by simp)
  have hN9 := HN8.out.trans (Near.below hb9)
  generalize w8.alloc (.cells #[.int .i64 0, .int .i64 1, .int .i64 2] 3) = w9 at hS9 hd9 hN9 ⊢
  have HN9 := Lib.hid hN9
  clear hb9 hr9 hr8 hA8 hd8 HN8 hN9
  refine hS9.mono ?_
  rintro e w10 ⟨rfl, hb10⟩
  have hd10 := hd9.near (Near.below (X := []) hb10) (by simp)
  have HN10 := Lib.hid (HN9.out.trans (Near.below hb10))
  clear hS9 hd9 HN9 hb10
  have hF := flush_upC (d := kd2) hd10 rfl
  clear hd10
  go_wp2_with fail
  refine hF.mono ?_
  rintro e w11 ⟨rfl, hd11, hn11⟩
  have HN11 := Lib.hid (HN10.out.trans hn11)
  have hL11 := loose_all (d := kd3) hd11 kd_ok3
  rw [kd3_loose] at hL11
  clear hF hn11 HN10
  go_wp2_with fail
  refine hL11.mono ?_
  rintro e w12 ⟨A12, c12, rfl, -, -, hb12⟩
  have hd12 := DskR.near hd11 (Near.below (X := []) hb12) (by simp)
  have HR := Lib.hid (And.intro hd12 (HN11.out.trans (Near.below hb12)))
  clear hL11 hd11 HN11 hb12 hd12
  go_wp2
  go_ret2
  exact ⟨p, rfl, HR.out.1, H0.out.1, H0.out.2.1.trans (HR.out.2.toBelow H0.out.2.2.2 H0.out.2.1.size)⟩
end Go.Proofs.Ytmhfehhpfkjloaa

/- Layer 05's law: awake. No condition. -/
namespace Go
def kd4 : Dsk := kd3.tick.put 0 (rep 2)
def kd5 : Dsk := kd4.tick.put 3 (rep 2)
def kd6 : Dsk := kd5.crash [false, true] 9
theorem kd6_reads : readsB kd6 none 0 [1, 1, 2, 2] = true := by decide +kernel
end Go
namespace Go.Proofs.Ytmhfehhpfkjloaa
open Go.RowKit
theorem kd_ok4 : kd4.Ok := kd_ok3.tick.put (by decide +kernel) (by decide +kernel)
theorem kd_ok5 : kd5.Ok := kd_ok4.tick.put (by decide +kernel) (by decide +kernel)
theorem kd_ok6 : kd6.Ok := Dsk.crash_ok kd_ok5
/-- What a literal slice holds. -/
theorem reads_new (w : World) (t : TypeId) (vs : List Value) : Reads (w.alloc (.cells vs.toArray t)) (some ⟨w.heap.size, 0, none⟩) vs := fun _ => ⟨w.heap.size, 0, rfl, fun j v hv => by rw [Nat.zero_add]; exact Blk.at_ (Blk.new w t vs.toArray) j (by rw [← Array.getElem?_toList]; exact hv)⟩
set_option maxRecDepth 100000 in
set_option maxHeartbeats 4000000 in
theorem awake05_any (w : World) : Calls Try.prog 38 #[] w fun e w' => e = .returned (.bool true) ∧ Below w.heap.size w w' := by
  go_enter Try.func38, Try.ntmps38
  go_wp2_with fail
  refine (four_any w).mono ?_
  rintro e w1 ⟨p, rfl, hd1, hp, hb1⟩
  have hl1 := hd1.lt
  have hX : ∀ g, w1.heap.size ≤ g → g ∉ p.all none := fun g hg => by simp [Pl.all]; omega
  have hB : ∀ g ∈ p.all none, w.heap.size ≤ g := fun g hg => by simp [Pl.all] at hg; omega
  have H0 := Lib.hid (And.intro hb1 (And.intro hX hB))
  clear hp hb1 hl1 hX hB
  go_wp2_with fail
  refine (sector_any 2 _).mono ?_
  rintro e w2 ⟨g2, rfl, h2, hg2, hb2⟩
  have hW2 := write_upC 0 0 1 256 (some ⟨g2, 0, none⟩) (rep 2) rfl h2.bytes (fun ad e => by cases e; exact H0.out.2.1 g2 hg2) (by simp) (by simp) (by omega) (by decide) (hd1.near (Near.below (X := []) hb2) (by simp)) kd_ok3 rfl
  have HN2 := Lib.hid (Near.below (X := p.all none) hb2)
  clear hd1 h2 hg2 hb2
  go_wp2_with fail
  refine hW2.mono ?_
  rintro e w3 ⟨rfl, hd3, hn3⟩
  have HN3 := Lib.hid (HN2.out.trans hn3)
  clear hW2 hn3 HN2
  go_wp2_with fail
  refine (sector_any 2 _).mono ?_
  rintro e w4 ⟨g4, rfl, h4, hg4, hb4⟩
  have hW4 := write_upC 3 3 1 256 (some ⟨g4, 0, none⟩) (rep 2) rfl h4.bytes (fun ad e => by cases e; exact H0.out.2.1 g4 (Nat.le_trans HN3.out.size hg4)) (by simp) (by simp) (by omega) (by decide) (hd3.near (Near.below (X := []) hb4) (by simp)) kd_ok4 rfl
  have HN4 := Lib.hid (HN3.out.trans (Near.below hb4))
  clear hd3 h4 hg4 hb4 HN3
  go_wp2_with fail
  refine hW4.mono ?_
  rintro e w5 ⟨rfl, hd5, hn5⟩
  have HN5 := Lib.hid (HN4.out.trans hn5)
  clear hW4 hn5 HN4
  go_wp2_with fail
  have hb6 := (Below.refl w5.heap.size w5).alloc (Nat.le_refl _) (.cells #[.bool false, .bool true] 4)
  have hr6 := reads_new w5 4 [.bool false, .bool true]
  have hd6 : DskR _ p none kd5 := hd5.near (Near.below (X := []) hb6) (by simp)
  have hN6 := HN5.out.trans (Near.below hb6)
  have hC := crash_all (some ⟨w5.heap.size, 0, none⟩) [false, true] 2 9 hr6 (fun _ ad e => by cases e; have h1 := hd5.lt; simp; omega) (by decide) hd6 kd_ok5
  clear hb6 hr6 hd6 hd5 HN5
  have HN6 := Lib.hid hN6
  clear hN6
  refine hC.mono ?_
  rintro e w7 ⟨rfl, hd7, hn7⟩
  have HN7 := Lib.hid (HN6.out.trans (hn7.wider (fun x hx => by simp [Pl.all] at hx ⊢; exact hx)))
  clear hC hn7 HN6
  go_wp2_with fail
  have hb8 := (Below.refl w7.heap.size w7).alloc (Nat.le_refl _) (.cells #[.int .u8 1, .int .u8 1, .int .u8 2, .int .u8 2] 5)
  have hr8 : Bytes _ (some ⟨w7.heap.size, 0, none⟩) [1, 1, 2, 2] := reads_new w7 5 (([1, 1, 2, 2] : List UInt8).map u8v)
  have hd8 : DskR _ p none kd6 := hd7.near (Near.below (X := []) hb8) (by simp)
  have hN8 := HN7.out.trans (Near.below hb8)
  have hR := reads_any (f := none) 0 (some ⟨w7.heap.size, 0, none⟩) [1, 1, 2, 2] 4 hr8 (by decide) hd8 trivial kd_ok6
  rw [kd6_reads] at hR
  have HN8 := Lib.hid (H0.out.1.trans (hN8.toBelow H0.out.2.2 H0.out.1.size))
  clear hb8 hr8 hd8 hd7 HN7 hN8
  refine hR.mono ?_
  rintro e w9 ⟨rfl, hb9⟩
  have HR := Lib.hid (HN8.out.trans (hb9.mono HN8.out.size))
  clear hR hb9
  go_wp2
  go_ret
  exact ⟨rfl, HR.out⟩
end Go.Proofs.Ytmhfehhpfkjloaa

/- DiskKnown: the closed law answers true. No condition. -/
namespace Go
open Go.RowKit
theorem below_near {B : Nat} {X : List Nat} {w w1 w2 : World} (h : Below B w w1) (k : Near X w1 w2) (hX : ∀ x ∈ X, B ≤ x) (hB : B ≤ w1.heap.size) : Below B w w2 := h.trans (k.toBelow hX hB)
theorem Bytes.belowB {B g off : Nat} {l : List UInt8} {w w' : World} (h : Bytes w (some ⟨g, off, none⟩) l) (hb : Below B w w') (hg : g < B) : Bytes w' (some ⟨g, off, none⟩) l := fun hne => by
  obtain ⟨b, o, e, hc⟩ := h hne
  cases e
  exact ⟨g, off, rfl, fun j v hv => (hb.cell (p := ⟨g, off + j, none⟩) hg).trans (hc j v hv)⟩
def kn0 : Dsk := kd3.tick.put 0 (rep 2)
def kn1 : Dsk := kn0.crash [true] 0
def halfB : List UInt8 := List.replicate 128 2 ++ List.replicate 128 1
theorem chg_some (d : Dsk) {f : Fus} (g : Dsk → Dsk) (h : f.left ≠ 0) : chg d (some f) g = (0, g d.tick, some { f with left := wrap64 (f.left - 1) }) := if_neg h
theorem kn1_read : kn1.read none 0 1 = (halfB, 0) := by decide +kernel
theorem kn1_read2 : kn1.read none 3 2 = ([], 5) := by decide +kernel
theorem kn1_w4 : kn1.write none 4 (rep 1) = (5, kn1, none) := by unfold Dsk.write; rw [if_neg (by decide +kernel), if_neg (by decide +kernel), if_pos (by decide +kernel)]
theorem kn1_w3 : kn1.write none 0 [1, 2, 3] = (2, kn1, none) := by unfold Dsk.write; rw [if_neg (by decide +kernel), if_pos (by decide +kernel)]
theorem kn1_turn : kn1.turn 0 256 1 = (5, kn1) := rfl
def kn2 : Dsk := kn1.clone none
def on2 : Dsk := (Dsk.new 1).clone none
def kn3 : Dsk := kn2.tick.put 0 (rep 1)
theorem kn2_w : kn2.write (some ⟨1, false⟩) 0 (rep 1) = (0, kn3, some ⟨0, false⟩) := by
  unfold Dsk.write
  rw [if_neg (by decide +kernel), if_neg (by decide +kernel), if_neg (by decide +kernel)]
  rw [chg_some _ _ (by decide)]
  show (0, kn2.tick.put 0 (rep 1), some (⟨wrap64 (1 - 1), false⟩ : Fus)) = _
  rw [show wrap64 (1 - 1) = 0 by simp [wrap64]]
  rfl
theorem kn3_fl : kn3.flush (some ⟨0, false⟩) = (11, kn3, some ⟨0, true⟩) := rfl
theorem on2_fl : on2.flush (some ⟨0, true⟩) = (11, on2, some ⟨0, true⟩) := rfl
theorem kn3_up : (!kn3.isOut (some ⟨0, true⟩)) = false := rfl
def kn4 : Dsk := kn3.crash [] 0
theorem kn4_up : (!kn4.isOut none) = true := rfl
theorem on2_up : (!on2.isOut (some ⟨0, true⟩)) = false := rfl
end Go
namespace Go.Proofs.Ytmhfehhpfkjloaa
open Go.RowKit
theorem DskR.belowB {B : Nat} {w w' : World} {p : Pl} {gf : Option Nat} {d : Dsk} (h : DskR w p gf d) (hb : Below B w w') (hlt : p.gd < B ∧ p.gl < B ∧ p.gm < B) : DskR w' p gf d := by
  obtain ⟨es, c, ⟨h1, h2, h3⟩, h4⟩ := h
  exact ⟨es, c, ⟨h1.below hb hlt.1, h2.below hb hlt.2.1, h3.below hb hlt.2.2⟩, h4⟩
theorem kn_ok0 : kn0.Ok := kd_ok3.tick.put (by decide +kernel) (by decide +kernel)
theorem kn_ok1 : kn1.Ok := Dsk.crash_ok kn_ok0
theorem kn_ok2 : kn2.Ok := Dsk.clone_ok kn_ok1
theorem on_ok2 : on2.Ok := Dsk.clone_ok (Dsk.Ok.new (by omega))
theorem kn_ok3 : kn3.Ok := kn_ok2.tick.put (by decide +kernel) (by decide +kernel)
set_option maxRecDepth 100000 in
set_option maxHeartbeats 16000000 in
theorem known05_any (w : World) : Calls Try.prog 8 #[] w fun e w' => e = .returned (.bool true) ∧ Below w.heap.size w w' := by
  go_enter Try.func8, Try.ntmps8
  go_wp2_with fail
  refine (four_any w).mono ?_
  rintro e w1 ⟨p, rfl, hd1, hp, hb1⟩
  have hP : ∀ gf, (∀ g, gf = some g → w.heap.size ≤ g) → ∀ g ∈ p.all gf, w.heap.size ≤ g := fun gf hgf g hg => by
    cases gf with
    | none => simp [Pl.all] at hg; omega
    | some x => have := hgf x rfl; simp [Pl.all] at hg; omega
  have H0 := Lib.hid (And.intro hP hp)
  have HB1 := Lib.hid hb1
  clear hp hb1 hP
  go_wp2_with fail
  refine (awake05_any _).mono ?_
  rintro e w2 ⟨rfl, hb⟩
  have hd2 := hd1.near (Near.below (X := []) hb) (by simp)
  have HB2 := Lib.hid (HB1.out.trans (hb.mono HB1.out.size))
  clear hb hd1 HB1
  go_wp2_with fail
  refine (sector_any 2 _).mono ?_
  rintro e w3 ⟨g2, rfl, hsg2, hgg2, hb⟩
  have hd3 := hd2.near (Near.below (X := []) hb) (by simp)
  have HB3 := Lib.hid (HB2.out.trans (hb.mono HB2.out.size))
  have hxg2 : ∀ ad : Addr, (some ⟨g2, 0, none⟩ : Option Addr) = some ad → ad.block ∉ p.all none := fun ad e => by cases e; have h := hd2.lt; simp [Pl.all]; omega
  clear hb hd2 HB2 hgg2
  have hC := write_upC 0 0 1 256 (some ⟨g2, 0, none⟩) (rep 2) rfl hsg2.bytes hxg2 (by simp) (by simp) (by omega) (by decide) hd3 kd_ok3 rfl
  clear hsg2 hxg2 hd3
  go_wp2_with fail
  refine (hC).mono ?_
  rintro e w4 ⟨rfl, hd4, hn⟩
  have HB4 := Lib.hid (below_near HB3.out hn (H0.out.1 none (fun g e => by cases e)) HB3.out.size)
  clear hC hn HB3
  go_wp2_with fail
  have hb := (Below.refl w4.heap.size w4).alloc (Nat.le_refl _) (.cells #[.bool true] 4)
  have hr := reads_new w4 4 [.bool true]
  have hd : DskR _ p none kn0 := hd4.near (Near.below (X := []) hb) (by simp)
  have hC := crash_all (some ⟨w4.heap.size, 0, none⟩) [true] 1 0 hr (fun _ ad e => by cases e; have h1 := hd4.lt; simp; omega) (by decide) hd kn_ok0
  have HC := Lib.hid (HB4.out.trans (hb.mono HB4.out.size))
  clear hb hr hd hd4 HB4
  refine hC.mono ?_
  rintro e w5 ⟨rfl, hd5, hn⟩
  have HB5 := Lib.hid (below_near HC.out (hn.wider (Y := p.all none) (fun x hx => by simp [Pl.all] at hx ⊢; exact hx)) (H0.out.1 none (fun g e => by cases e)) HC.out.size)
  clear hC hn HC
  replace hd5 : DskR w5 p none kn1 := hd5
  have hR := read_all (f := none) 0 1 hd5 trivial kn_ok1
  rw [kn1_read] at hR
  rw [show (halfB, (0 : Int)).1.length = 256 by decide +kernel] at hR
  go_wp2_with fail
  refine (hR).mono ?_
  rintro e w6 ⟨X, rfl, hcase, hb⟩
  have hd6 := hd5.near (Near.below (X := []) hb) (by simp)
  have HB6 := Lib.hid (HB5.out.trans (hb.mono HB5.out.size))
  obtain ⟨gx, rfl, hgx0, hgx⟩ : ∃ g, X = some ⟨g, 0, none⟩ ∧ w5.heap.size ≤ g ∧ Blk w6 g 5 (halfB.map u8v).toArray := by
    rcases hcase with h | h
    · exact h.2
    · exact absurd rfl h.1
  have HX6 := Lib.hid hgx.bytes
  have HGX := Lib.hid (And.intro hgx.lt hd6.lt)
  have HS6 := Lib.hid HB6.out.size
  clear hb hR hcase hgx0 hgx hd5 HB5
  go_wp2_with fail
  have hb := (Below.refl w6.heap.size w6).alloc (Nat.le_refl _) (.cells #[] 5)
  have hd7 := hd6.near (Near.below (X := []) hb) (by simp)
  have HB7 := Lib.hid (HB6.out.trans (hb.mono HB6.out.size))
  have ho7 : OwnB 5 (w6.alloc (.cells #[] 5)) w6.heap.size (.slice (some ⟨w6.heap.size, 0, none⟩) 0 0) [] [] := by
    have := OwnsC.lit (e := 5) (size := 1) (base := w6.heap.size) w6 #[] 0 (by simp) (by simp) (by simp)
    unfold OwnB; simpa using this
  have HX7 := Lib.hid (HX6.out.below (hb))
  clear HX6
  have hws : w6.heap.size ≤ (w6.alloc (.cells #[] 5)).heap.size := hb.size
  have HW := Lib.hid hws
  clear hb hws hd6 HB6
  generalize w6.alloc (.cells #[] 5) = w7 at *
  go_wp2_with fail
  refine (sector_any 2 _).mono ?_
  rintro e w8 ⟨g5, rfl, hs5, -, hb⟩
  have hd8 := hd7.near (Near.below (X := []) hb) (by simp)
  have HB8 := Lib.hid (HB7.out.trans (hb.mono HB7.out.size))
  have HX8 := Lib.hid (HX7.out.below (hb))
  clear HX7
  have ho8 := OwnsC.ownBelow ho7 hb
  have HW := Lib.hid (Nat.le_trans HW.out hb.size)
  clear ho7
  clear hb hd7 HB7
  have hby : Bytes w8 (some ⟨g5, 0, none⟩) (List.replicate 128 2) := by have h := (hs5.bytes).take 128; rw [List.take_replicate] at h; exact h
  have hwb := HW.out
  go_wp2_with (first
    | ((with_reducible show wpList _ _ _ ((⟨some 42, _, _, _, _, _⟩ : Oper) :: _) _ _); refine wpList_append_bytes (o := ⟨some 42, _, _, _, _, _⟩) (by rfl) _ _ _ (by rfl) (w6.heap.size) _ Try.underlying43 u8info _ ([]) [] (by rfl) ho8 (some ⟨g5, 0, none⟩) 256 (List.replicate 128 2) (by rfl) hby (by simp) hwb ?_; intro v9 w9 sp9 ho9 hgr hvo hvn)
    | fail)
  have hgb : Below w6.heap.size w8 w9 := (Below.refl _ w8).mono hwb |>.grown hgr (by simpa using hwb) (fun k hk => (OwnsC.lt ho8 k hk).1)
  rw [List.nil_append] at ho9
  have hd9 := hd8.belowB hgb HGX.out.2
  have HX9 := Lib.hid (HX8.out.belowB hgb HGX.out.1)
  have HB9 := Lib.hid (HB8.out.trans (hgb.mono (Nat.le_trans HS6.out (Nat.le_refl _))))
  have HW := Lib.hid (Nat.le_trans HW.out hgr.size)
  clear hgb hgr hvo hvn hwb hby hs5 HX8 hd8 HB8 ho8
  go_wp2_with fail
  refine (sector_any 1 _).mono ?_
  rintro e w10 ⟨g6, rfl, hs6, -, hb⟩
  have hd10 := hd9.near (Near.below (X := []) hb) (by simp)
  have HB10 := Lib.hid (HB9.out.trans (hb.mono HB9.out.size))
  have HX10 := Lib.hid (HX9.out.below (hb))
  clear HX9
  have ho10 := OwnsC.ownBelow ho9 hb
  have HW := Lib.hid (Nat.le_trans HW.out hb.size)
  clear ho9
  clear hb hd9 HB9
  have hby : Bytes w10 (some ⟨g6, 128, none⟩) (List.replicate 128 1) := by have h := hs6.bytes.drop (k := 128) (cap := 256) (.inl (by simp)); rw [if_neg (by decide), List.drop_replicate] at h; exact h
  have hwb := HW.out
  go_wp2_with (first
    | ((with_reducible show wpList _ _ _ ((⟨some 45, _, _, _, _, _⟩ : Oper) :: _) _ _); refine wpList_append_bytes (o := ⟨some 45, _, _, _, _, _⟩) (by rfl) _ _ _ (by rfl) (w6.heap.size) _ Try.underlying43 u8info _ (List.replicate 128 2) _ (by rfl) ho10 (some ⟨g6, 128, none⟩) 128 (List.replicate 128 1) (by rfl) hby (by simp) hwb ?_; intro v11 w11 sp11 ho11 hgr hvo hvn)
    | fail)
  have hgb : Below w6.heap.size w10 w11 := (Below.refl _ w10).mono hwb |>.grown hgr (by simpa using hwb) (fun k hk => (OwnsC.lt ho10 k hk).1)
  have hd11 := hd10.belowB hgb HGX.out.2
  have HX11 := Lib.hid (HX10.out.belowB hgb HGX.out.1)
  have HB11 := Lib.hid (HB10.out.trans (hgb.mono (Nat.le_trans HS6.out (Nat.le_refl _))))
  obtain ⟨AH, cH, rfl, -, -, hrH, -⟩ := OwnsC.reads ho11
  have HH11 := Lib.hid (show Bytes w11 AH halfB from hrH)
  clear hgb hgr hvo hvn hwb hby hs6 HX10 hd10 HB10 ho10 ho11 hrH HW HGX HS6
  rw [show (List.replicate 128 2 ++ List.replicate 128 1 : List UInt8).length = 256 by simp]
  have hR := read_all (f := none) 3 2 hd11 trivial kn_ok1
  rw [kn1_read2] at hR
  go_wp2_with fail
  refine (hR).mono ?_
  rintro e w12 ⟨X2, rfl, hcase, hb⟩
  have hd12 := hd11.near (Near.below (X := []) hb) (by simp)
  have HB12 := Lib.hid (HB11.out.trans (hb.mono HB11.out.size))
  obtain rfl : X2 = none := by
    rcases hcase with h | h
    · exact absurd h.1 (by decide)
    · exact h.2.1
  have HX12 := Lib.hid (HX11.out.below (hb))
  clear HX11
  have HH12 := Lib.hid (HH11.out.below hb)
  clear hb hR hcase hd11 HB11 HH11
  have hS := sameBytes_any (some ⟨gx, 0, none⟩) AH 256 256 256 cH halfB halfB (by decide +kernel) (by decide +kernel) w12 HX12.out HH12.out
  rw [decide_eq_true rfl] at hS
  clear HX12 HH12
  go_wp2_with fail
  refine hS.mono ?_
  rintro e wq ⟨rfl, hw⟩
  obtain rfl := hw.symm
  clear hw hS
  go_wp2_with fail
  refine (sector_any 1 _).mono ?_
  rintro e w13 ⟨g7, rfl, hsg7, hgg7, hb⟩
  have hd13 := hd12.near (Near.below (X := []) hb) (by simp)
  have HB13 := Lib.hid (HB12.out.trans (hb.mono HB12.out.size))
  have hxg7 : ∀ ad : Addr, (some ⟨g7, 0, none⟩ : Option Addr) = some ad → ad.block ∉ p.all none := fun ad e => by cases e; have h := hd12.lt; simp [Pl.all]; omega
  clear hb hd12 HB12 hgg7
  have hC := write_all (f := none) 4 256 (some ⟨g7, 0, none⟩) (rep 1) hsg7.bytes hxg7 (by simp) (by simp) hd13 kn_ok1 trivial
  rw [kn1_w4, show (rep 1).length = 256 by simp] at hC
  clear hsg7 hxg7 hd13
  go_wp2_with fail
  refine (hC).mono ?_
  rintro e w14 ⟨rfl, hd14, -, hn⟩
  have HB14 := Lib.hid (below_near HB13.out hn (H0.out.1 none (fun g e => by cases e)) HB13.out.size)
  clear hC hn HB13
  go_wp2_with fail
  have hb := (Below.refl w14.heap.size w14).alloc (Nat.le_refl _) (.cells #[.int .u8 1, .int .u8 2, .int .u8 3] 5)
  have hr : Bytes _ (some ⟨w14.heap.size, 0, none⟩) [1, 2, 3] := reads_new w14 5 (([1, 2, 3] : List UInt8).map u8v)
  have hd : DskR _ p none kn1 := hd14.near (Near.below (X := []) hb) (by simp)
  have hC := write_all (f := none) 0 3 (some ⟨w14.heap.size, 0, none⟩) [1, 2, 3] hr (fun ad e => by cases e; have h1 := hd14.lt; simp [Pl.all]; omega) (by decide) (by decide) hd kn_ok1 trivial
  rw [kn1_w3] at hC
  have HC := Lib.hid (HB14.out.trans (hb.mono HB14.out.size))
  clear hb hr hd hd14 HB14
  refine hC.mono ?_
  rintro e w15 ⟨rfl, hd15, -, hn⟩
  have HB15 := Lib.hid (below_near HC.out hn (H0.out.1 none (fun g e => by cases e)) HC.out.size)
  clear hC hn HC
  replace hd15 : DskR w15 p none kn1 := hd15
  have hT := turn_all 0 256 1 hd15 kn_ok1
  rw [kn1_turn] at hT
  clear hd15
  go_wp2_with fail
  refine (hT).mono ?_
  rintro e w16 ⟨rfl, hd16, hn⟩
  have HB16 := Lib.hid (below_near HB15.out hn (fun g hg => by simp at hg; have := H0.out.2; omega) HB15.out.size)
  clear hT hn HB15
  go_wp2_with fail
  refine (new_all 1 (by omega) _).mono ?_
  rintro e w17 ⟨q, rfl, ho17, hq, hb⟩
  have hd17 := hd16.near (Near.below (X := []) hb) (by simp)
  have HB17 := Lib.hid (HB16.out.trans (hb.mono HB16.out.size))
  have HPQ := Lib.hid (And.intro hd16.lt (And.intro hq (And.intro ho17.lt (And.intro HB16.out.size H0.out.2))))
  clear hb hq hd16 HB16
  go_wp2_with fail
  have hb := (Below.refl w17.heap.size w17).alloc (Nat.le_refl _) (.cells #[.pointer (some ⟨p.gd, 0, none⟩), .pointer (some ⟨q.gd, 0, none⟩)] 27)
  have hr := reads_new w17 27 (([⟨p, none, kn1, none⟩, ⟨q, none, Dsk.new 1, none⟩] : List DS).map DS.ptr)
  have hl : ∀ s ∈ ([⟨p, none, kn1, none⟩, ⟨q, none, Dsk.new 1, none⟩] : List DS), s.ok (w17.alloc (.cells #[.pointer (some ⟨p.gd, 0, none⟩), .pointer (some ⟨q.gd, 0, none⟩)] 27)) := fun s hs => by
    simp only [List.mem_cons, List.not_mem_nil, or_false] at hs
    rcases hs with rfl | rfl
    · exact ⟨hd17.near (Near.below (X := []) hb) (by simp), trivial⟩
    · exact ⟨ho17.near (Near.below (X := []) hb) (by simp), trivial⟩
  have hC := fuse_all 1 (c := 2) hr (fun ad e => by cases e; have h := HPQ.out; have h2 := ho17.lt; simp [DS.gd]; omega) hl (by have h := HPQ.out; simp [DS.gd]; omega) (by simp)
  have HC := Lib.hid (HB17.out.trans (hb.mono HB17.out.size))
  have HS := Lib.hid hb.size
  clear hb hr hl hd17 ho17 HB17
  refine hC.mono ?_
  rintro e w18 hcase
  obtain ⟨rfl, gf, hgf, hall, hn⟩ : e = .returned (.int .i64 0) ∧ ∃ g, _ ≤ g ∧ (∀ s ∈ _, (DS.fuse s g 1).ok w18) ∧ Near _ _ w18 := by
    rcases hcase with h | h
    · exact absurd h.1 (by simp)
    · exact h.2
  have hd18 : DskR w18 p (some gf) kn2 := (hall _ (.head _)).1
  have ho18 : DskR w18 q (some gf) on2 := (hall _ (.tail _ (.head _))).1
  have hf18 : FusR w18 (some gf) (some ⟨1, false⟩) := (hall _ (.head _)).2
  have HB18 := Lib.hid (below_near HC.out hn (fun g hg => by have h := HPQ.out; simp [DS.gd] at hg; omega) HC.out.size)
  have HG := Lib.hid (show w17.heap.size ≤ gf from Nat.le_trans HS.out hgf)
  have HPG := Lib.hid (show ∀ g ∈ p.all (some gf), w.heap.size ≤ g from H0.out.1 _ (fun g e => by cases e; have h := HPQ.out; have h2 := HG.out; omega))
  have HQG := Lib.hid (show ∀ g ∈ q.all (some gf), w.heap.size ≤ g from fun g hg => by have h := HPQ.out; have h2 := HG.out; simp [Pl.all] at hg; omega)
  have HOX := Lib.hid (show q.gd ∉ p.all (some gf) ∧ q.gl ∉ p.all (some gf) ∧ q.gm ∉ p.all (some gf) by have h := HPQ.out; have h2 := HG.out; simp [Pl.all]; omega)
  have HDX := Lib.hid (show p.gd ∉ q.all (some gf) ∧ p.gl ∉ q.all (some gf) ∧ p.gm ∉ q.all (some gf) by have h := HPQ.out; have h2 := HG.out; simp [Pl.all]; omega)
  clear hcase hall hn hgf hC HC HS
  go_wp2_with fail
  refine (sector_any 1 _).mono ?_
  rintro e w19 ⟨g8, rfl, hs8, hg8, hb⟩
  have hd19 := hd18.near (Near.below (X := []) hb) (by simp)
  have ho19 := ho18.near (Near.below (X := []) hb) (by simp)
  have hf19 := hf18.near (Near.below (X := []) hb) (by simp)
  have HB19 := Lib.hid (HB18.out.trans (hb.mono HB18.out.size))
  have hx8 : ∀ ad : Addr, (some ⟨g8, 0, none⟩ : Option Addr) = some ad → ad.block ∉ p.all (some gf) := fun ad e => by cases e; have h := hd18.lt; have h2 := hf18.lt rfl; simp [Pl.all]; omega
  have hC := write_all 0 256 (some ⟨g8, 0, none⟩) (rep 1) hs8.bytes hx8 (by simp) (by simp) hd19 kn_ok2 hf19
  rw [kn2_w, show (rep 1).length = 256 by simp] at hC
  clear hb hd18 ho18 hf18 HB18 hg8 hs8 hx8 hd19 hf19
  go_wp2_with fail
  refine (hC).mono ?_
  rintro e w20 ⟨rfl, hd20, hf20, hn⟩
  have HB20 := Lib.hid (below_near HB19.out hn (HPG.out) HB19.out.size)
  have ho20 := ho19.near hn HOX.out
  clear hC hn HB19 ho19
  have hC := flush_all hd20 hf20
  rw [kn3_fl] at hC
  clear hd20 hf20
  go_wp2_with fail
  refine (hC).mono ?_
  rintro e w21 ⟨rfl, hd21, hf21, hn⟩
  have HB21 := Lib.hid (below_near HB20.out hn (HPG.out) HB20.out.size)
  have ho21 := ho20.near hn HOX.out
  clear hC hn HB20 ho20
  have hC := up_all hd21 hf21
  rw [kn3_up] at hC
  go_wp2_with fail
  refine hC.mono ?_
  rintro e wq ⟨rfl, hw⟩
  obtain rfl := hw.symm
  clear hw hC
  have hC := flush_all ho21 hf21
  rw [on2_fl] at hC
  clear ho21 hf21
  go_wp2_with fail
  refine (hC).mono ?_
  rintro e w22 ⟨rfl, ho22, hf22, hn⟩
  have HB22 := Lib.hid (below_near HB21.out hn (HQG.out) HB21.out.size)
  have hd22 := hd21.near hn HDX.out
  clear hC hn HB21 hd21
  have hC := crash_all none [] 0 0 (Reads.nil _ _) (fun _ ad e => by cases e) (by decide) hd22 kn_ok3
  clear hd22
  go_wp2_with fail
  refine (hC).mono ?_
  rintro e w23 ⟨rfl, hd23, hn⟩
  have HB23 := Lib.hid (below_near HB22.out hn (fun g hg => HPG.out g (by simp at hg; rcases hg with rfl | rfl | rfl <;> simp [Pl.all])) HB22.out.size)
  have hnp := hn.wider (Y := p.all (some gf)) (fun x hx => by simp at hx; rcases hx with rfl | rfl | rfl <;> simp [Pl.all])
  have ho23 := ho22.near hnp HOX.out
  have hf23 := hf22.near hn (fun g e => by cases e; have h := HPQ.out; have h2 := HG.out; simp; omega)
  replace hd23 : DskR w23 p none kn4 := hd23
  clear hC hn hnp HB22 ho22 hf22
  have hC := up_all hd23 (show FusR w23 none none from trivial)
  rw [kn4_up] at hC
  go_wp2_with fail
  refine hC.mono ?_
  rintro e wq ⟨rfl, hw⟩
  obtain rfl := hw.symm
  clear hw hC
  have hC := up_all ho23 hf23
  rw [on2_up] at hC
  go_wp2_with fail
  refine hC.mono ?_
  rintro e wq ⟨rfl, hw⟩
  obtain rfl := hw.symm
  clear hw hC
  have HR := Lib.hid HB23.out
  clear hd23 ho23 hf23 HB23
  go_wp2
  go_ret
  exact ⟨rfl, HR.out⟩
end Go.Proofs.Ytmhfehhpfkjloaa
