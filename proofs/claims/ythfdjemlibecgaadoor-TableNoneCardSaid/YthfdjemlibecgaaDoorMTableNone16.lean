/- The bodies of pairs' data blocks: the program's pack and Pack. Condition: the pairs can be read. -/
import Derived.Test.YthfdjemlibecgaaDoorMTableNone15
namespace Go.Proofs.YthfdjemlibecgaaDoor
open Go.RowKit
theorem packTake {l : List PairT} {i : Nat} (hi : i < l.length) : pgroups (l.take (i + 1)) = padd (pgroups (l.take i)) l[i] := by
  unfold pgroups
  rw [List.take_succ_eq_append_getElem hi, List.foldl_append]
  rfl
/-- Ahead of each pair. -/
def PkRel (N : Nat → Prop) (w : World) (b5 : Nat) (l : List PairT) (v : Value) (wr : World) : Prop := ∃ i : Nat, i ≤ l.length ∧ v = .int .i64 (i : Int) ∧ (l.take i).all pok = true ∧ PackSt N wr w.heap.size b5 (b5 + 1) (pgroups (l.take i)) ∧ Below w.heap.size w wr
theorem PackSt.lt {N : Nat → Prop} {w : World} {base b5 b6 : Nat} {G : List (List PairT)} (h : PackSt N w base b5 b6 G) : b5 < w.heap.size ∧ b6 < w.heap.size := by
  obtain ⟨vb, vk, bs, sp, ks, sk, h5, h6, -⟩ := h
  exact ⟨h5.lt, h6.lt⟩
theorem PackSt.below {N : Nat → Prop} {w w' : World} {base b5 b6 : Nat} {G : List (List PairT)} (h : PackSt N w base b5 b6 G) (k : Below w.heap.size w w') : PackSt N w' base b5 b6 G := by
  obtain ⟨vb, vk, bs, sp, ks, sk, h5, h6, h7, h8, h9⟩ := h
  exact ⟨vb, vk, bs, sp, ks, sk, h5.below k h5.lt, h6.below k h6.lt, h7.below k, h8.below k, h9⟩
theorem BodsAt.nil (w : World) (base : Nat) : BodsAt w base (.slice none 0 0) [] [] [] := ⟨OwnsC.nil _ _ _ _, fun i g h => (by simp at h), fun i j u u' x _ h => (by simp at h)⟩
theorem KeysN.nil {N : Nat → Prop} (w : World) (base : Nat) : KeysN N w base (.slice none 0 0) [] [] [] := ⟨OwnsC.nil _ _ _ _, fun i g h => (by simp at h)⟩
/-- What pack answers. -/
def PackTold (N : Nat → Prop) (w : World) (l : List PairT) (e : Ending) (w' : World) : Prop := ∃ (vb vk : Value) (bs sp ks sk : List Value), e = .returned (.tuple #[vb, vk, .int .i64 (ppack l).1]) ∧ BodsAt w' w.heap.size vb (ppack l).2 bs sp ∧ KeysN N w' w.heap.size vk (ppack l).2 ks sk ∧ (∀ x, vb.ownBlock = some x → vk.ownBlock ≠ some x) ∧ Below w.heap.size w w'
theorem PackTold.no {N : Nat → Prop} {w w' : World} {l : List PairT} (h : ppack l = (2, [])) (k : Below w.heap.size w w') : PackTold N w l (.returned (.tuple #[.slice none 0 0, .slice none 0 0, .int .i64 2])) w' := by
  refine ⟨.slice none 0 0, .slice none 0 0, [], [], [], [], by rw [h], by rw [h]; exact BodsAt.nil _ _, by rw [h]; exact KeysN.nil _ _, fun x hx => (by cases hx), k⟩
set_option maxRecDepth 100000 in
set_option maxHeartbeats 4000000 in
theorem pack_any {N : Nat → Prop} (A : Option Addr) (c : Nat) (l : List PairT) (hl : l.length ≤ 65536) (w : World) (h : Pairs w A l) (hN : ∀ (i b off : Nat) (p : PairT) (A1 : Option Addr) (c1 : Nat), l[i]? = some p → A = some ⟨b, off, none⟩ → w.cell? ⟨b, off + i * 3, none⟩ = some (.slice A1 p.1.length c1) → 1 ≤ p.1.length → ∀ ad, A1 = some ad → N ad.block) :
    Calls Tryd.prog 103 #[.slice A l.length c] w (PackTold N w l) := by
  have HH := Lib.hid h
  have HNN := Lib.hid hN
  clear hN
  have hso := sorted_any A c l hl w h
  obtain ⟨n, hn⟩ : ∃ n, n = l.length := ⟨_, rfl⟩
  rw [← hn] at hl hso ⊢
  have HN := Lib.hid hn
  clear h
  go_enter Tryd.func103, Tryd.ntmps103
  by_cases h0 : n = 0
  · have HF := Lib.hid (PackTold.no (N := N) (w := w) (w' := w) (show ppack l = (2, []) by unfold ppack; rw [if_pos (.inl (List.eq_nil_of_length_eq_zero (by omega)))]) (Below.refl _ _))
    subst h0
    clear hso hn hl
    go_wp2_with fail
    refine bodyPost_ret (results_tmp3 rfl _ _ _) rfl ?_
    exact HF.out
  have k0 : ((n : Int) == 0) = false := beq_eq_false_iff_ne.2 (by omega)
  by_cases h64 : 64 < n
  · have HF := Lib.hid (PackTold.no (N := N) (w := w) (w' := w) (show ppack l = (2, []) by unfold ppack; rw [if_pos (.inr (.inl (by omega)))]) (Below.refl _ _))
    have k1 : decide ((n : Int) > 64) = true := decide_eq_true (by omega)
    have k2 : decide (64 < n) = true := decide_eq_true h64
    clear hso hn h0 h64 hl
    go_wp2_with fail
    refine bodyPost_ret (results_tmp3 rfl _ _ _) rfl ?_
    exact HF.out
  have k1 : decide ((n : Int) > 64) = false := decide_eq_false (by omega)
  have k2 : decide (64 < n) = false := decide_eq_false h64
  have hn64 : n ≤ 64 := by omega
  clear hn h0 h64 hl
  go_wp2_with fail
  refine hso.mono ?_
  rintro e w1 ⟨rfl, hbx⟩
  cases hs : psorted l
  · have HF := Lib.hid (PackTold.no (N := N) (w := w) (w' := w1) (show ppack l = (2, []) by unfold ppack; rw [if_pos (.inr (.inr (.inl hs)))]) hbx)
    clear hs hbx hso
    go_wp2_with fail
    refine bodyPost_ret (results_tmp3 rfl _ _ _) rfl ?_
    exact HF.out
  have h5 := (Blk.new w1 63 #[.slice none 0 0]).alloc (.cells #[.slice none 0 0] 63)
  have h6 := Blk.new' (w1.alloc (.cells #[.slice none 0 0] 63)) 63 #[.slice none 0 0] (n := w1.heap.size + 1) (by simp)
  have hB2 := (hbx.alloc hbx.size (.cells #[.slice none 0 0] 63)).alloc (Nat.le_trans hbx.size (by simp)) (.cells #[.slice none 0 0] 63)
  have hS : PackSt N ((w1.alloc (.cells #[.slice none 0 0] 63)).alloc (.cells #[.slice none 0 0] 63)) w.heap.size w1.heap.size (w1.heap.size + 1) [] := ⟨_, _, [], [], [], [], h5, h6, BodsAt.nil _ _, KeysN.nil _ _, fun x hx => (by cases hx)⟩
  have H1 := Lib.hid (And.intro hs (And.intro hbx.size (And.intro hS hB2)))
  clear hs hbx hso h5 h6 hB2 hS
  go_wp2_with fail
  generalize ((w1.alloc (.cells #[.slice none 0 0] 63)).alloc (.cells #[.slice none 0 0] 63)) = w2 at H1 ⊢
  generalize w1.heap.size = b5 at H1 ⊢
  go_loopw [26] (fun v wr => PkRel N w b5 l v wr) (fun v _ => n - (intOf v).toNat)
  case atStart => exact ⟨0, Nat.zero_le _, rfl, rfl, H1.out.2.2.1, H1.out.2.2.2⟩
  case round =>
    obtain ⟨i, hi, rfl, hall, hS, hB⟩ := hrel
    by_cases hlt : i < n
    case neg =>
      obtain rfl : i = n := by have := HN.out; omega
      have he : l.take i = l := by rw [HN.out, List.take_length]
      rw [he] at hall hS
      have hp : ppack l = (0, pgroups l) := by
        unfold ppack
        rw [if_neg (by rw [H1.out.1, hall]; simp; exact ⟨by intro e; rw [e] at HN; exact absurd HN.out (by simp; intro e; subst e; simp at k0), by rw [← HN.out]; omega⟩)]
      obtain ⟨vb, vk, bs, sp, ks, sk, q5, q6, hG, hK, hvv⟩ := hS
      have HF := Lib.hid (show PackTold N w l (.returned (.tuple #[vb, vk, .int .i64 0])) wr.drew from ⟨vb, vk, bs, sp, ks, sk, by rw [hp], by rw [hp]; exact hG.below (Below.refl _ _).drew, by rw [hp]; exact hK.below (Below.refl _ _).drew, hvv, hB.drew⟩)
      obtain ⟨A1, c1, rfl, -, -, -, -⟩ := OwnsC.reads hG.own
      obtain ⟨A2, c2, rfl, -, -, -, -⟩ := OwnsC.reads hK.own
      generalize (pgroups l).length = m at *
      have d5 := q5.at_ 0 (v := .slice A1 m c1) rfl
      have d6 := q6.at_ 0 (v := .slice A2 m c2) rfl
      have hc0 : wr.drew.cell? ⟨b5, 0, none⟩ = some (.slice A1 m c1) ∧ wr.drew.cell? ⟨b5 + 1, 0, none⟩ = some (.slice A2 m c2) := ⟨d5, d6⟩
      clear q5 q6 hG hK hvv hp he hall hB H1 HN HH hlt hi k0 k1 k2
      go_wp2_with fail
      refine wp_region_tree (fun w' => w'.cell? ⟨b5, 0, none⟩ = some (.slice A1 m c1) ∧ w'.cell? ⟨b5 + 1, 0, none⟩ = some (.slice A2 m c2)) [] (PlanT.takes [0, 1] (PlanT.takes [2, 3, 4] .done)) (by kernel_rfl) (by kernel_rfl) (hc0) ?_
      refine wpTree_takeL _ _ _ (by rfl) (by rfl) (hc0) ?_
      dsimp only [List.filterMap, List.getElem?_cons_zero, List.getElem?_cons_succ]
      (refine wpQuiet_load_cell (fun w' hw' => hw'.1) (by rfl) _ _ (by rfl) (by rfl) _ Tryd.underlying63 (by rfl) ?_; simp only [Act.put, List.setIfInBounds_toArray, List.set_cons_zero, List.set_cons_succ])
      (refine wpQuiet_load_cell (fun w' hw' => hw'.2) (by rfl) _ _ (by rfl) (by rfl) _ Tryd.underlying63 (by rfl) ?_; simp only [Act.put, List.setIfInBounds_toArray, List.set_cons_zero, List.set_cons_succ])
      refine wpQuiet_nil ?_
      refine wpTree_pure _ _ _ (by rfl) (by rfl) ?_
      dsimp only [List.filterMap, List.getElem?_cons_zero, List.getElem?_cons_succ]
      repeat (go_big_quiet_step (fail))
      refine wpQuiet_nil ?_
      refine wpTree_done ?_
      clear hc0 d5 d6
      go_wp2_with fail
      refine bodyPost_ret (results_tmp3 rfl _ _ _) rfl ?_
      exact HF.out
    have hil : i < l.length := by have := HN.out; omega
    obtain ⟨b, off, hAe, hbl, hc⟩ := HH.out (by omega)
    obtain ⟨A1, c1, A2, c2, d1, d2, d3, hp⟩ := hc i hil
    have hxs : Hid (pgroups (l.take (i + 1)) = padd (pgroups (l.take i)) l[i]) := Lib.hid (packTake hil)
    have hxa : Hid ((l.take (i + 1)).all pok = pok l[i]) := Lib.hid (by rw [List.take_succ_eq_append_getElem hil, List.all_append, hall]; simp)
    have hxm : Hid (l[i] ∈ l) := Lib.hid (List.getElem_mem hil)
    have hal : 1 ≤ l[i].1.length → ∀ ad, A1 = some ad → ad.block < w.heap.size ∧ N ad.block := fun h1 ad e => by
      refine ⟨?_, HNN.out i b off l[i] A1 c1 (List.getElem?_eq_getElem hil) hAe d1 h1 ad e⟩
      obtain ⟨b', o', e', h', _⟩ := Bytes.at_ hp.k (by omega)
      rw [e] at e'; injection e' with e'; subst e'; exact h'
    generalize l[i] = p at d1 d2 d3 hp hxs hxa hxm hal
    have hr1 := rangeAt_below (range3 d1 d2 d3) hB
    have hp1 := hp.below hB
    have HX := Lib.hid (And.intro hall (And.intro hS (And.intro hB (And.intro hp1 hal))))
    subst hAe
    clear hall hS hB hp1 hal hc d1 d2 d3 hp hbl
    go_wp2_with (first
      | ((with_reducible show wpList _ _ _ ((⟨some 29, _, _, _, _, _⟩ : Oper) :: _) _ _); refine wpList_load_mid (o := ⟨some 29, _, _, _, _, _⟩) hr1 (by rfl) _ _ (by rfl) (by rfl) _ Tryd.underlying115 (by rfl) sizePair (by rfl) ?_)
      | ((with_reducible show wpList _ _ _ ((⟨none, _, _, _, _, _⟩ : Oper) :: _) _ _); refine wpList_store_blk (o := ⟨none, _, _, _, _, _⟩) ((Blk.new wr 115 #[.slice none 0 0, .slice none 0 0, .bool false])) (by rfl) _ _ _ (by rfl) (by rfl) (pairc p A1 c1 A2 c2) (by rfl) (sizePair) (by rfl) (by rfl) (by simp [pairc, Value.oneCell']) ?_; intro w3 h3 hu3; have hb3 := ((Below.refl wr.heap.size wr).alloc (Nat.le_refl _) (.cells #[.slice none 0 0, .slice none 0 0, .bool false] 115)).upd hu3 (Nat.le_refl _); have H3 := Lib.hid (And.intro hb3 h3); clear hu3 hb3)
      | ((with_reducible show wpList _ _ _ ((⟨some 30, _, _, _, _, _⟩ : Oper) :: _) _ _); refine wpList_load_blk (o := ⟨some 30, _, _, _, _, _⟩) (h3) (by rfl) _ _ (by rfl) (by rfl) _ Tryd.underlying115 (by rfl) (sizePair) (by rfl) ?_)
      | fail)
    refine (pcheck_any p A1 A2 c1 c2 w3).mono ?_
    rintro e w4 ⟨rfl, hbx⟩
    have hb4 := H3.out.1.trans (hbx.mono H3.out.1.size)
    have HB4 := Lib.hid (And.intro (HX.out.2.1.below hb4) (And.intro (HX.out.2.2.1.trans (hb4.mono HX.out.2.2.1.size)) (And.intro (HX.out.2.2.2.1.below hb4) (H3.out.2.below hbx H3.out.2.lt))))
    clear hbx hb4 h3 H3 hr1
    cases hpk : pok p
    case false =>
      have HF := Lib.hid (PackTold.no (N := N) (w := w) (w' := w4) (show ppack l = (2, []) by
        have ha : l.all pok = false := by
          cases ha : l.all pok
          · rfl
          · rw [List.all_eq_true.1 ha p hxm.out] at hpk; cases hpk
        unfold ppack
        rw [if_pos (.inr (.inr (.inr ha)))]) HB4.out.2.1)
      have kE : pokE p = 2 := by unfold pokE; rw [hpk]; rfl
      rw [kE]
      clear kE hpk
      go_wp2_with fail
      refine bodyPost_ret (results_tmp3 rfl _ _ _) rfl ?_
      exact HF.out
    case true =>
      have kE : pokE p = 0 := by unfold pokE; rw [hpk]; rfl
      rw [kE]
      have h9 := HB4.out.2.2.2
      have HK := Lib.hid hpk
      clear kE hpk
      go_wp2_with (first
        | ((with_reducible show wpList _ _ _ ((⟨some 34, _, _, _, _, _⟩ : Oper) :: _) _ _); refine wpList_load_blk (o := ⟨some 34, _, _, _, _, _⟩) (h9) (by rfl) _ _ (by rfl) (by rfl) _ Tryd.underlying115 (by rfl) (sizePair) (by rfl) ?_)
        | fail)
      refine (padd_any w.heap.size b5 (b5 + 1) (pgroups (l.take i)) p A1 A2 c1 c2 w4 HK.out HB4.out.2.2.1 (HX.out.2.2.2.2 (pok_spec HK.out).1) (by omega) H1.out.2.1 (Nat.le_succ_of_le H1.out.2.1) (Nat.le_trans (pgroups_few HX.out.1 (by rw [List.length_take]; omega)) (by omega)) (by rw [(pgroups_ok HX.out.1).flat]; exact pgroups_ok HX.out.1) HB4.out.1 HB4.out.2.1.size).mono ?_
      rintro e w5 ⟨rfl, hS5, hB5⟩
      have HF := Lib.hid (show PkRel N w b5 l (.int .i64 ((i + 1 : Nat) : Int)) w5 from ⟨i + 1, hil, rfl, by rw [hxa.out]; exact HK.out, by rw [hxs.out]; exact hS5, HB4.out.2.1.trans hB5⟩)
      clear hS5 hB5 h9
      go_wp2_with fail
      go_roundw
      case rel => exact HF.out
      case measure => exact meas_up (i := i) (m := n) rfl rfl hlt
theorem packPub_any (A : Option Addr) (c : Nat) (l : List PairT) (hl : l.length ≤ 65536) (w : World) (h : Pairs w A l) :
    Calls Tryd.prog 48 #[.slice A l.length c] w fun e w' => ∃ (vb : Value) (bs sp : List Value), e = .returned (.tuple #[vb, .int .i64 (ppack l).1]) ∧ BodsAt w' w.heap.size vb (ppack l).2 bs sp ∧ Below w.heap.size w w' := by
  have hp := pack_any (N := fun _ => True) A c l hl w h (fun _ _ _ _ _ _ _ _ _ _ _ _ => trivial)
  clear h hl
  go_enter Tryd.func48, Tryd.ntmps48
  go_wp2_with fail
  refine hp.mono ?_
  rintro e w1 ⟨vb, vk, bs, sp, ks, sk, rfl, hG, -, -, hB⟩
  have HF := Lib.hid (And.intro hG hB)
  clear hp hG hB
  go_wp2_with fail
  refine bodyPost_ret (results_tmp2 rfl _ _ _) rfl ?_
  exact ⟨_, bs, sp, rfl, HF.out⟩
end Go.Proofs.YthfdjemlibecgaaDoor

/- So many bytes are taken off the front of a list: Unpack's inner function; pairs in memory of their own. Conditions: as each says. -/
namespace Go.Proofs.YthfdjemlibecgaaDoor
open Go.RowKit
/-- A box that holds a slice of bytes that can be read. -/
structure Rest (w : World) (bx : Nat) (s : List UInt8) (A : Option Addr) (c : Nat) : Prop where
  box : Blk w bx 44 #[.slice A s.length c]
  rd : Bytes w A s
  low : s ≠ [] → ∀ ad, A = some ad → ad.block ≠ bx
  hc : s.length ≤ c
  hm : c ≤ 9223372036854775807
theorem near_bytes {w w' : World} {A : Option Addr} {s : List UInt8} {X : List Nat} (h : Bytes w A s) (k : Near X w w') (h2 : s ≠ [] → ∀ ad, A = some ad → ad.block ∉ X) : Bytes w' A s := by
  by_cases e : s = []
  · subst e; exact Reads.nil _ _
  · exact Bytes.near h k (h2 e)
theorem Rest.near {w w' : World} {bx : Nat} {s : List UInt8} {A : Option Addr} {c : Nat} {X : List Nat} (h : Rest w bx s A c) (k : Near X w w') (h1 : bx ∉ X) (h2 : s ≠ [] → ∀ ad, A = some ad → ad.block ∉ X) : Rest w' bx s A c :=
  ⟨h.box.near k h1, near_bytes h.rd k h2, h.low, h.hc, h.hm⟩
theorem Rest.below {w w' : World} {bx : Nat} {s : List UInt8} {A : Option Addr} {c : Nat} (h : Rest w bx s A c) (k : Below w.heap.size w w') : Rest w' bx s A c := h.near (X := []) (Near.below k) (by simp) (by simp)
def tookB (s : List UInt8) (n : Nat) : List UInt8 := if s.length < n then [] else s.take n
def leftB (s : List UInt8) (n : Nat) : List UInt8 := if s.length < n then s else s.drop n
set_option maxRecDepth 100000 in
set_option maxHeartbeats 4000000 in
theorem take_any (n bx : Nat) (s : List UInt8) (A : Option Addr) (c : Nat) (w : World) (hn : n < 256) (h : Rest w bx s A c) :
    Calls Tryd.prog 107 #[.int .i64 (n : Int), .pointer (some ⟨bx, 0, none⟩)] w fun e w' => ∃ (v : Value) (sp : List UInt8) (A' : Option Addr) (c' : Nat), e = .returned v ∧ OwnB 5 w' w.heap.size v (tookB s n) sp ∧ Rest w' bx (leftB s n) A' c' ∧ (∀ ad, A' = some ad → ∃ ad0, A = some ad0 ∧ ad0.block = ad.block) ∧ Near [bx] w w' := by
  have d1 := h.box.at_ 0 (v := .slice A s.length c) rfl
  have f1 := h.box.frozen 0
  have HH := Lib.hid h
  go_enter Tryd.func107, Tryd.ntmps107
  by_cases hlt : s.length < n
  · have k1 : decide ((n : Int) > (s.length : Int)) = true := decide_eq_true (by omega)
    have k2 : decide (s.length < n) = true := decide_eq_true hlt
    have HT := Lib.hid (And.intro (show tookB s n = [] from if_pos hlt) (show leftB s n = s from if_pos hlt))
    clear h hlt f1
    go_wp2_with fail
    go_ret
    refine ⟨.slice none 0 0, [], A, c, rfl, by rw [HT.out.1]; exact OwnsC.nil _ _ _ _, by rw [HT.out.2]; exact HH.out, fun ad e => ⟨ad, e, rfl⟩, Near.refl _ _⟩
  have k1 : decide ((n : Int) > (s.length : Int)) = false := decide_eq_false (by omega)
  have k2 : decide (s.length < n) = false := decide_eq_false hlt
  have HT := Lib.hid (And.intro (show tookB s n = s.take n from if_neg hlt) (And.intro (show leftB s n = s.drop n from if_neg hlt) (show n ≤ s.length by omega)))
  have hnc : n ≤ c := Nat.le_trans HT.out.2.2 h.hc
  clear h hlt
  have hcut : Bytes w A s := HH.out.rd
  have HC := Lib.hid hcut
  clear hcut
  go_wp2_with (first
    | ((with_reducible show wpList _ _ _ ((⟨some 14, _, _, _, _, _⟩ : Oper) :: _) _ _); refine wpList_cut_bytes (o := ⟨some 14, _, _, _, _, _⟩) (by rfl) _ _ _ (by rfl) _ Tryd.underlying44 size1 (A) (s.length) (c) .i64 (n) (by rfl) (by rfl) (s) (rfl) (HT.out.2.2) (HH.out.hc) (HC.out) ?_; intro A2 h2 _; rename_i hA2; have hu1 : Near [bx] w (w.setCell ⟨bx, 0, none⟩ (.slice A2 (s.length - n) (c - n))) := near_set (Near.refl _ w) (by simp) _ _; have H2 := Lib.hid (And.intro h2 (And.intro hA2 hu1)); clear h2 hA2 hu1; refine stopped ?_)
    | fail)
  refine Stopped.mk ?_
  have hR : Rest (w.setCell ⟨bx, 0, none⟩ (.slice A2 (s.length - n) (c - n))) bx (s.drop n) A2 (c - n) := by
    have hl : s.drop n ≠ [] → ∀ ad, A2 = some ad → ad.block ≠ bx := fun hne ad e => by obtain ⟨ad0, e0, e1⟩ := H2.out.2.1 ad e; rw [← e1]; exact HH.out.low (fun e => hne (by rw [e, List.drop_nil])) ad0 e0
    refine ⟨?_, near_bytes H2.out.1 H2.out.2.2 (fun hne ad e hm => hl hne ad e (List.mem_singleton.1 hm)), hl, by rw [List.length_drop]; have := HH.out.hc; omega, by have := HH.out.hm; omega⟩
    rw [List.length_drop]
    exact HH.out.box.set_ 0 _
  have hb1 : Bytes (w.setCell ⟨bx, 0, none⟩ (.slice A2 (s.length - n) (c - n))) A (s.take n) := (near_bytes HH.out.rd H2.out.2.2 (fun hne ad e hm => HH.out.low hne ad e (List.mem_singleton.1 hm))).take n
  have H3 := Lib.hid (And.intro hR (And.intro hb1 (show n = (s.take n).length by rw [List.length_take]; have := HT.out.2.2; omega)))
  have hsz1 : w.heap.size ≤ (w.setCell ⟨bx, 0, none⟩ (.slice A2 (s.length - n) (c - n))).heap.size := H2.out.2.2.size
  clear hR hb1
  go_wp2_with (first
    | ((with_reducible show wpList _ _ _ ((⟨some 16, _, _, _, _, _⟩ : Oper) :: _) _ _); refine wpList_append_bytes (o := ⟨some 16, _, _, _, _, _⟩) (by rfl) _ _ _ (by rfl) w.heap.size 5 Tryd.underlying44 u8info (.slice none 0 0) [] [] (by rfl) (OwnsC.nil _ _ _ _) A c (s.take n) (by rw [← H3.out.2.2]; rfl) H3.out.2.1 (by rw [← H3.out.2.2]; first|omega|(simp; omega)) hsz1 ?_; intro v3 w3 sp3 ho3 hg3 hv3 hn3; refine stopped ?_)
    | fail)
  refine Stopped.mk ?_
  have hn3' : Near [] _ w3 := Near.grown hg3 (fun x hx => (by cases hx))
  have HF := Lib.hid (And.intro ho3 (And.intro (H3.out.1.near hn3' (by simp) (by simp)) (H2.out.2.2.trans (hn3'.wider (by simp)))))
  clear ho3 hg3 hv3 hn3 hn3'
  go_wp2_with fail
  go_ret
  exact ⟨v3, sp3, A2, c - n, rfl, by rw [HT.out.1]; exact HF.out.1, by rw [HT.out.2.1]; exact HF.out.2.1, H2.out.2.1, HF.out.2.2⟩
end Go.Proofs.YthfdjemlibecgaaDoor

/- Pairs in memory of their own. Plain facts of this program. No condition. -/
namespace Go.Proofs.YthfdjemlibecgaaDoor
open Go.RowKit
/-- Pairs, their keys and values in memory of their own. -/
structure PairsU (w : World) (base : Nat) (v : Value) (l : List PairT) (rows sp : List Value) : Prop where
  own : OwnsC 115 3 w base v l.length rows sp
  each : ∀ (i : Nat) (p : PairT), l[i]? = some p → ∃ (kv vv : Value) (sk sv : List UInt8), rows[i * 3]? = some kv ∧ rows[i * 3 + 1]? = some vv ∧ rows[i * 3 + 2]? = some (.bool p.2.2.1) ∧ OwnB 5 w base kv p.1 sk ∧ OwnB 5 w base vv p.2.1 sv
section
variable {w w' : World} {base : Nat} {v v' : Value} {l : List PairT} {rows sp : List Value} {X : List Nat}
theorem PairsU.nil (w : World) (base : Nat) : PairsU w base (.slice none 0 0) [] [] [] := ⟨OwnsC.nil _ _ _ _, fun i p h => (by simp at h)⟩
theorem PairsU.near (h : PairsU w base v l rows sp) (k : Near X w w') (h1 : ∀ x, v.ownBlock = some x → x ∉ X) (h2 : ∀ x cs, Blk w x 5 cs → x ∉ X) : PairsU w' base v l rows sp :=
  ⟨OwnsC.nearO h.own k h1, fun i p hp => by
    obtain ⟨kv, vv, sk, sv, e1, e2, e3, e4, e5⟩ := h.each i p hp
    exact ⟨kv, vv, sk, sv, e1, e2, e3, OwnsC.nearO e4 k (fun x hx => by obtain ⟨cs, hb⟩ := ownBlk e4 hx; exact h2 x cs hb), OwnsC.nearO e5 k (fun x hx => by obtain ⟨cs, hb⟩ := ownBlk e5 hx; exact h2 x cs hb)⟩⟩
theorem PairsU.below (h : PairsU w base v l rows sp) (k : Below w.heap.size w w') : PairsU w' base v l rows sp := h.near (X := []) (Near.below k) (by simp) (by simp)
theorem PairsU.base_ {b : Nat} (h : PairsU w base v l rows sp) (hb : b ≤ base) : PairsU w b v l rows sp :=
  ⟨OwnsC.base_ h.own hb, fun i p hp => by
    obtain ⟨kv, vv, sk, sv, e1, e2, e3, e4, e5⟩ := h.each i p hp
    exact ⟨kv, vv, sk, sv, e1, e2, e3, OwnsC.base_ e4 hb, OwnsC.base_ e5 hb⟩⟩
theorem PairsU.add (h : PairsU w base v l rows sp) {p : PairT} {kv vv : Value} {sk sv : List UInt8} {sp' : List Value} (hk : OwnB 5 w base kv p.1 sk) (hv : OwnB 5 w base vv p.2.1 sv)
    (hg : Near v.ownBlock.toList w w') (ho : OwnsC 115 3 w' base v' (l.length + 1) (rows ++ [kv, vv, .bool p.2.2.1]) sp') : PairsU w' base v' (l ++ [p]) (rows ++ [kv, vv, .bool p.2.2.1]) sp' := by
  have off : ∀ x cs, Blk w x 5 cs → x ∉ v.ownBlock.toList := fun x cs hb hm => by
    obtain ⟨cs', hb'⟩ := ownBlk h.own (Option.mem_toList.1 hm)
    exact hb.apart hb' (by decide) rfl
  have hlen : rows.length = l.length * 3 := OwnsC.length h.own
  refine ⟨by rw [List.length_append]; exact ho, fun i q hq => ?_⟩
  rw [List.getElem?_append] at hq
  split at hq
  · obtain ⟨kv', vv', sk', sv', e1, e2, e3, e4, e5⟩ := h.each i q hq
    have hlt : ∀ {j : Nat} {u : Value}, rows[j]? = some u → (rows ++ [kv, vv, .bool p.2.2.1])[j]? = some u := fun {j u} e => by
      rw [List.getElem?_append_left (List.getElem?_eq_some_iff.1 e).1]; exact e
    exact ⟨kv', vv', sk', sv', hlt e1, hlt e2, hlt e3, OwnsC.nearO e4 hg (fun x hx => by obtain ⟨cs, hb⟩ := ownBlk e4 hx; exact off x cs hb), OwnsC.nearO e5 hg (fun x hx => by obtain ⟨cs, hb⟩ := ownBlk e5 hx; exact off x cs hb)⟩
  · have : i = l.length := by
      have := (List.getElem?_eq_some_iff.1 hq).1
      simp only [List.length_singleton] at this; omega
    subst this
    rw [Nat.sub_self] at hq
    injection hq with hq
    subst hq
    refine ⟨kv, vv, sk, sv, ?_, ?_, ?_, OwnsC.nearO hk hg (fun x hx => by obtain ⟨cs, hb⟩ := ownBlk hk hx; exact off x cs hb), OwnsC.nearO hv hg (fun x hx => by obtain ⟨cs, hb⟩ := ownBlk hv hx; exact off x cs hb)⟩
    · rw [← hlen, List.getElem?_append_right (Nat.le_refl _), Nat.sub_self]; rfl
    · rw [← hlen, List.getElem?_append_right (by omega), Nat.add_sub_cancel_left]; rfl
    · rw [← hlen, List.getElem?_append_right (by omega), Nat.add_sub_cancel_left]; rfl
theorem PairsU.pairs (h : PairsU w base v l rows sp) : ∃ A c, v = .slice A l.length c ∧ l.length ≤ c ∧ c ≤ 9223372036854775807 ∧ Pairs w A l ∧ ∀ ad, A = some ad → base ≤ ad.block ∧ ad.block < w.heap.size := by
  obtain ⟨A, c, rfl, hc, hm, hr, -⟩ := OwnsC.reads h.own
  refine ⟨A, c, rfl, hc, hm, fun hp => ?_, fun ad e => OwnsC.lt h.own _ (by subst e; rfl)⟩
  obtain ⟨kv0, vv0, sk0, sv0, e0, -⟩ := h.each 0 l[0] (List.getElem?_eq_getElem hp)
  obtain ⟨b, off, rfl, hcell⟩ := hr (by intro e; rw [e] at e0; simp at e0)
  refine ⟨b, off, rfl, World.block_lt_of_cell? w _ (hcell 0 _ (by simpa using e0)), fun i hi => ?_⟩
  obtain ⟨kv, vv, sk, sv, e1, e2, e3, e4, e5⟩ := h.each i l[i] (List.getElem?_eq_getElem hi)
  obtain ⟨A1, c1, rfl, k1, k2, k3⟩ := OwnB.open_ e4
  obtain ⟨A2, c2, rfl, k4, k5, k6⟩ := OwnB.open_ e5
  exact ⟨A1, c1, A2, c2, hcell _ _ e1, by rw [Nat.add_assoc]; exact hcell _ _ e2, by rw [Nat.add_assoc]; exact hcell _ _ e3, k1, k2, k4, k5, k3, k6⟩
end
/-- The rest is cut, and put into its box. -/
theorem Rest.cut {w : World} {bx base : Nat} {x : UInt8} {s : List UInt8} {A A' : Option Addr} {c : Nat} (h : Rest w bx (x :: s) A c) (hb : Bytes w A' s) (hA : ∀ ad, A' = some ad → ∃ ad0, A = some ad0 ∧ ad0.block = ad.block) (hlow : ∀ ad, A = some ad → ad.block < base) (hbb : base ≤ bx) :
    Rest (w.setCell ⟨bx, 0, none⟩ (.slice A' s.length (c - 1))) bx s A' (c - 1) ∧ ∀ ad, A' = some ad → ad.block < base := by
  have hN : Near [bx] w (w.setCell ⟨bx, 0, none⟩ (.slice A' s.length (c - 1))) := near_set (Near.refl _ w) (by simp) _ _
  have hl : ∀ ad, A' = some ad → ad.block < base := fun ad e => by
    obtain ⟨ad0, e0, e1⟩ := hA ad e
    rw [← e1]; exact hlow ad0 e0
  refine ⟨⟨h.box.set_ 0 _, near_bytes hb hN (fun _ ad e hm => by have := hl ad e; have := List.mem_singleton.1 hm; omega), fun _ ad e => by have := hl ad e; omega, by have := h.hc; simp at this; omega, by have := h.hm; omega⟩, hl⟩
theorem infoPair : (Tryd.prog.info? 115).map (fun i => (i.zero, i.size, i.bytes)) = some (some (.agg #[.slice none 0 0, .slice none 0 0, .bool false]), 3, 56) := by kernel_rfl
/-- Ahead of each pair that is taken. -/
def UpRel (w : World) (bl : Nat) (R : Int × List PairT) (v : Value) (wr : World) : Prop :=
  ∃ (o : List PairT) (s : List UInt8) (rows sp : List Value) (A : Option Addr) (c : Nat), PairsU wr w.heap.size v o rows sp ∧ Rest wr w.heap.size s A c ∧ pfin o s = R ∧ o.length + s.length ≤ bl ∧ (∀ ad, A = some ad → s ≠ [] → ad.block < w.heap.size) ∧ Below w.heap.size w wr
def restLen (bx : Nat) (w : World) : Nat := match w.cell? ⟨bx, 0, none⟩ with | some (.slice _ n _) => n | _ => 0
theorem Rest.len {w : World} {bx : Nat} {s : List UInt8} {A : Option Addr} {c : Nat} (h : Rest w bx s A c) : restLen bx w = s.length := by
  unfold restLen
  rw [h.box.at_ 0 (v := .slice A s.length c) rfl]
set_option maxRecDepth 100000 in
set_option maxHeartbeats 8000000 in
theorem unpack_any (A : Option Addr) (c : Nat) (b : List UInt8) (hb : b.length ≤ 5000) (hc : b.length ≤ c) (hm : c ≤ 9223372036854775807) (w : World) (h : Bytes w A b) :
    Calls Tryd.prog 50 #[.slice A b.length c] w fun e w' => ∃ (v : Value) (rows sp : List Value), e = .returned (.tuple #[v, .int .i64 (punpack b).1]) ∧ PairsU w' w.heap.size v (punpack b).2 rows sp ∧ Below w.heap.size w w' := by
  obtain ⟨R, hR⟩ : ∃ R, R = punpack b := ⟨_, rfl⟩
  rw [← hR]
  have hB0 := (Below.refl w.heap.size w).alloc (Nat.le_refl _) (.cells #[.slice A b.length c] 44)
  have hlow : b ≠ [] → ∀ ad, A = some ad → ad.block < w.heap.size := fun hne ad e => by
    obtain ⟨b', o', e', h', _⟩ := Bytes.at_ h (List.length_pos_iff.2 hne)
    rw [e] at e'; injection e' with e'; subst e'; exact h'
  have hS : UpRel w b.length R (.slice none 0 0) (w.alloc (.cells #[.slice A b.length c] 44)) :=
    ⟨[], b, [], [], A, c, PairsU.nil _ _, ⟨Blk.new w _ _, Bytes.below h hB0, fun hne ad e => Nat.ne_of_lt (hlow hne ad e), hc, hm⟩, hR.symm, by simp, fun ad e hne => hlow hne ad e, hB0⟩
  have H0 := Lib.hid hS
  clear hB0 hS hR h hlow
  go_enter Tryd.func50, Tryd.ntmps50
  go_wp2_with fail
  generalize (w.alloc (.cells #[.slice A b.length c] 44)) = w1 at H0 ⊢
  go_loopw [4] (fun v wr => UpRel w b.length R v wr) (fun _ wr => restLen w.heap.size wr)
  case atStart => exact H0.out
  case round =>
    obtain ⟨o, s, rows, sp, A, c, hP, hRs, hfin, hlen, hlow, hB⟩ := hrel
    have d0 := hRs.box.at_ 0 (v := .slice A s.length c) rfl
    have f0 := hRs.box.frozen 0
    have hmeas := hRs.len
    cases s with
    | nil =>
      rw [pfin_end] at hfin
      simp only [List.length_nil] at d0
      obtain ⟨Ao, co, hvo, hco, hcm, hPr, -⟩ := hP.pairs
      have holen : o.length ≤ 5000 := by omega
      have hso := sorted_any Ao co o (by omega) wr hPr
      have HX := Lib.hid (And.intro hP (And.intro hfin hB))
      subst hvo
      obtain ⟨on, hon⟩ : ∃ on, on = o.length := ⟨_, rfl⟩
      rw [← hon] at hso ⊢
      have HO := Lib.hid hon
      clear hP hRs hfin hlen hlow hB hmeas hPr hco hcm holen hon f0
      by_cases h0 : on = 0
      · have hRf : R = (13, []) := by rw [← HX.out.2.1, if_pos (.inl (List.eq_nil_of_length_eq_zero (by rw [← HO.out]; exact h0)))]
        have HF := Lib.hid (And.intro hRf HX.out.2.2)
        subst h0
        clear hso hRf
        go_wp2_with fail
        refine bodyPost_ret (results_tmp2 rfl _ _ _) rfl ?_
        refine ⟨.slice none 0 0, [], [], by rw [HF.out.1]; rfl, by rw [HF.out.1]; exact PairsU.nil _ _, HF.out.2⟩
      have k1 : ((on : Int) == 0) = false := beq_eq_false_iff_ne.2 (by omega)
      have HO2 := Lib.hid h0
      clear h0
      go_wp2_with fail
      refine hso.mono ?_
      rintro e w2 ⟨rfl, hbx⟩
      cases hs : psorted o
      · have hRf : R = (13, []) := by rw [← HX.out.2.1, if_pos (.inr hs)]
        have HF := Lib.hid (And.intro hRf (HX.out.2.2.trans (hbx.mono HX.out.2.2.size)))
        clear hso hRf hs hbx
        go_wp2_with fail
        refine bodyPost_ret (results_tmp2 rfl _ _ _) rfl ?_
        refine ⟨.slice none 0 0, [], [], by rw [HF.out.1]; rfl, by rw [HF.out.1]; exact PairsU.nil _ _, HF.out.2⟩
      · have hRf : R = (0, o) := by
          rw [← HX.out.2.1, if_neg]
          rintro (h | h)
          · exact HO2.out (by rw [HO.out, h]; rfl)
          · rw [hs] at h; cases h
        have HF := Lib.hid (And.intro hRf (And.intro (HX.out.2.2.trans (hbx.mono HX.out.2.2.size)) (HX.out.1.below hbx)))
        clear hso hRf hs hbx
        go_wp2_with fail
        refine bodyPost_ret (results_tmp2 rfl _ _ _) rfl ?_
        refine ⟨.slice Ao on co, rows, sp, by rw [HF.out.1]; rfl, by rw [HF.out.1, HO.out]; exact HF.out.2.2, HF.out.2.1⟩
    | cons n0 r =>
      obtain ⟨bA, oA, rfl, hbl, hcell⟩ := Bytes.at_ hRs.rd (by simp)
      have d1 := hcell 0 (by simp)
      obtain ⟨nn, hnn⟩ : ∃ nn, nn = n0.toNat := ⟨_, rfl⟩
      have hnn2 : nn < 256 := by have := n0.toNat_lt; omega
      have hcap : 1 ≤ c := by have := hRs.hc; simp at this; omega
      have hcut : Bytes wr (some ⟨bA, oA, none⟩) (n0 :: r) := hRs.rd
      have hpt : ptake (n0 :: r) = if r.length ≤ nn then none else pval (r.take nn) (r.drop nn) := by rw [ptake_cons, hnn]
      rw [Nat.add_zero] at d1
      simp only [List.length_cons] at d0
      rw [show (n0 :: r).getD 0 0 = n0 from rfl, show iu8 n0 = (nn : Int) by rw [hnn]; rfl] at d1
      have HX := Lib.hid (And.intro hP (And.intro hRs (And.intro hfin (And.intro hlen (And.intro hlow (And.intro hB (And.intro hmeas (And.intro hcut hpt))))))))
      clear hP hRs hfin hlen hlow hB hmeas hcut hbl hcell hpt hnn
      go_wp2_with (first
        | ((with_reducible show wpList _ _ _ ((⟨some 19, _, _, _, _, _⟩ : Oper) :: _) _ _); refine wpList_cut_bytes (o := ⟨some 19, _, _, _, _, _⟩) (by rfl) _ _ _ (by rfl) _ Tryd.underlying44 size1 (some ⟨bA, oA, none⟩) (r.length + 1) (c) .i64 (1) (by rfl) (by rfl) (n0 :: r) (rfl) ((by omega)) (HX.out.2.1.hc) (HX.out.2.2.2.2.2.2.2.1) ?_; intro A2 h2 _; rename_i hA2; have H2 := Lib.hid (And.intro h2 hA2); clear h2 hA2; refine stopped ?_)
        | fail)
      refine Stopped.mk ?_
      have hN1 : Near [w.heap.size] wr (wr.setCell ⟨w.heap.size, 0, none⟩ (.slice A2 r.length (c - 1))) := near_set (Near.refl _ wr) (by simp) _ _
      have hA2 : ∀ ad, A2 = some ad → ad.block < w.heap.size := fun ad e => by
        obtain ⟨ad0, e0, e1⟩ := H2.out.2 ad e
        rw [← e1]; exact HX.out.2.2.2.2.1 ad0 e0 (by simp)
      have hR1 : Rest (wr.setCell ⟨w.heap.size, 0, none⟩ (.slice A2 r.length (c - 1))) w.heap.size r A2 (c - 1) :=
        ⟨HX.out.2.1.box.set_ 0 _, near_bytes H2.out.1 hN1 (fun _ ad e hm => by have := hA2 ad e; have := List.mem_singleton.1 hm; omega), fun _ ad e => Nat.ne_of_lt (hA2 ad e), by have := HX.out.2.1.hc; simp at this; omega, by have := HX.out.2.1.hm; omega⟩
      have hP1 := HX.out.1.near hN1 (fun x hx hm => by
        obtain ⟨cs, hb⟩ := ownBlk HX.out.1.own hx
        rw [List.mem_singleton.1 hm] at hb
        exact hb.apart HX.out.2.1.box (by decide) rfl) (fun x cs hb hm => by
        rw [List.mem_singleton.1 hm] at hb
        exact hb.apart HX.out.2.1.box (by decide) rfl)
      have hB1 := HX.out.2.2.2.2.2.1.trans (hN1.toBelow (fun x hx => by rw [List.mem_singleton.1 hx]; exact Nat.le_refl _) HX.out.2.2.2.2.2.1.size)
      have H3 := Lib.hid (And.intro hR1 (And.intro hP1 (And.intro hB1 hA2)))
      clear hN1 hA2 hR1 hP1 hB1
      go_wp2_with fail
      clear d0 d1 f0
      generalize wr.setCell ⟨w.heap.size, 0, none⟩ (.slice A2 r.length (c - 1)) = w1 at H3 ⊢
      refine (take_any nn w.heap.size r A2 (c - 1) w1 hnn2 H3.out.1).mono ?_
      rintro e w2 ⟨kv, sk, A3, c3, rfl, hk, hR2, hA3, hN2⟩
      have hk8 := hk
      obtain ⟨Ak, ck, hkv, hkc, hkm, -⟩ := OwnB.open_ hk
      have hP2 := H3.out.2.1.near hN2 (fun x hx hm => by
        obtain ⟨cs, hb⟩ := ownBlk H3.out.2.1.own hx
        rw [List.mem_singleton.1 hm] at hb
        exact hb.apart H3.out.1.box (by decide) rfl) (fun x cs hb hm => by
        rw [List.mem_singleton.1 hm] at hb
        exact hb.apart H3.out.1.box (by decide) rfl)
      have hB2 := H3.out.2.2.1.trans (hN2.toBelow (fun x hx => by rw [List.mem_singleton.1 hx]; exact Nat.le_refl _) H3.out.2.2.1.size)
      have hA4 : ∀ ad, A3 = some ad → ad.block < w.heap.size := fun ad e => by
        obtain ⟨ad0, e0, e1⟩ := hA3 ad e
        rw [← e1]; exact H3.out.2.2.2 ad0 e0
      have hk9 := OwnsC.base_ (base' := w.heap.size) hk H3.out.2.2.1.size
      have H4 := Lib.hid (And.intro hk9 (And.intro hR2 (And.intro hP2 (And.intro hB2 (And.intro hA4 (And.intro hkc hkm))))))
      subst hkv
      clear hk hk8 hR2 hA3 hN2 hP2 hB2 hA4 hk9 hkc hkm
      by_cases h1 : r.length < nn
      · have kt : tookB r nn = [] := if_pos h1
        have hRf : R = (13, []) := by rw [← HX.out.2.2.1]; exact pfin_none (parse_none (by simp) (HX.out.2.2.2.2.2.2.2.2.trans (if_pos (by omega))))
        have HF := Lib.hid (And.intro hRf H4.out.2.2.2.1)
        have kz2 : ((0 : Int) != (nn : Int)) = true := bne_iff_ne.2 (by omega)
        rw [kt]
        clear kt hRf h1 H4 hnn2
        simp only [List.length_nil]
        go_wp2_with fail
        refine bodyPost_ret (results_tmp2 rfl _ _ _) rfl ?_
        refine ⟨.slice none 0 0, [], [], by rw [HF.out.1]; rfl, by rw [HF.out.1]; exact PairsU.nil _ _, HF.out.2⟩
      have kt : tookB r nn = r.take nn := if_neg h1
      have kl : leftB r nn = r.drop nn := if_neg h1
      rw [kt, kl] at H4
      rw [kt]
      have htk : (r.take nn).length = nn := by rw [List.length_take]; omega
      rw [htk] at H4 ⊢
      have d0 := H4.out.2.1.box.at_ 0 (v := .slice A3 (r.drop nn).length c3) rfl
      have f0 := H4.out.2.1.box.frozen 0
      by_cases h2 : r.length ≤ nn
      · have hRf : R = (13, []) := by rw [← HX.out.2.2.1]; exact pfin_none (parse_none (by simp) (HX.out.2.2.2.2.2.2.2.2.trans (if_pos h2)))
        have HF := Lib.hid (And.intro hRf H4.out.2.2.2.1)
        rw [show (r.drop nn).length = 0 by rw [List.length_drop]; omega] at d0
        clear kt kl hRf h1 h2 H4 htk f0
        go_wp2_with fail
        refine bodyPost_ret (results_tmp2 rfl _ _ _) rfl ?_
        refine ⟨.slice none 0 0, [], [], by rw [HF.out.1]; rfl, by rw [HF.out.1]; exact PairsU.nil _ _, HF.out.2⟩
      have HT := Lib.hid (And.intro htk (HX.out.2.2.2.2.2.2.2.2.trans (if_neg h2)))
      clear kt kl htk
      cases hrd : r.drop nn with
      | nil => exact absurd (congrArg List.length hrd) (by rw [List.length_drop, List.length_nil]; omega)
      | cons m0 t =>
        rw [hrd] at H4 d0 HT
        obtain ⟨bM, oM, hAM, hbl, hcell⟩ := Bytes.at_ H4.out.2.1.rd (by simp)
        subst hAM
        have d1 := hcell 0 (by simp)
        obtain ⟨mm, hmm⟩ : ∃ mm, mm = m0.toNat := ⟨_, rfl⟩
        have hmm2 : mm < 256 := by have := m0.toNat_lt; omega
        have hcap3 : 1 ≤ c3 := by have := H4.out.2.1.hc; simp at this; omega
        rw [Nat.add_zero] at d1
        simp only [List.length_cons] at d0
        rw [show (m0 :: t).getD 0 0 = m0 from rfl, show iu8 m0 = (mm : Int) by rw [hmm]; rfl] at d1
        have HM := Lib.hid hmm
        have k5 : (((t.length + 1 : Nat) : Int) == 0) = false := beq_eq_false_iff_ne.2 (by omega)
        have k6 : ((t.length : Int) + 1 == 0) = false := beq_eq_false_iff_ne.2 (by omega)
        have hbl3 := (Below.refl w2.heap.size w2).alloc (Nat.le_refl _) (.cells #[.slice Ak nn ck, .slice none 0 0, .bool ((mm : Int) == 255)] 115)
        have hg3 := Blk.new w2 115 #[.slice Ak nn ck, .slice none 0 0, .bool ((mm : Int) == 255)]
        have q0 := H4.out.2.1.below hbl3
        have d2 := q0.box.at_ 0 (v := .slice (some ⟨bM, oM, none⟩) (t.length + 1) c3) rfl
        have f2 := q0.box.frozen 0
        have d3 := (hbl3.cell (p := ⟨bM, oM, none⟩) hbl).trans d1
        have H5 := Lib.hid (And.intro hg3 (And.intro hbl3 (And.intro q0 (H4.out.2.2.1.below hbl3))))
        clear hcell hrd h1 h2 hmm hbl3 q0 hg3
        go_wp2_with (first
          | ((with_reducible show wpList _ _ _ ((⟨some 43, _, _, _, _, _⟩ : Oper) :: _) _ _); refine wpList_cut_bytes (o := ⟨some 43, _, _, _, _, _⟩) (by rfl) _ _ _ (by rfl) _ Tryd.underlying44 size1 (some ⟨bM, oM, none⟩) (t.length + 1) (c3) .i64 (1) (by rfl) (by rfl) (m0 :: t) (rfl) ((by omega)) (H5.out.2.2.1.hc) (H5.out.2.2.1.rd) ?_; intro A5 h5 _; rename_i hA5; have H6 := Lib.hid (And.intro h5 hA5); clear h5 hA5; refine stopped ?_)
          | fail)
        refine Stopped.mk ?_
        have hcut := Rest.cut H5.out.2.2.1 H6.out.1 H6.out.2 H4.out.2.2.2.2.1 (Nat.le_refl _)
        have hN4 : Near [w.heap.size] (w2.alloc (.cells #[.slice Ak nn ck, .slice none 0 0, .bool ((mm : Int) == 255)] 115)) ((w2.alloc (.cells #[.slice Ak nn ck, .slice none 0 0, .bool ((mm : Int) == 255)] 115)).setCell ⟨w.heap.size, 0, none⟩ (.slice A5 t.length (c3 - 1))) := near_set (Near.refl _ _) (by simp) _ _
        have hg4 := H5.out.1.near hN4 (fun hm => by have := List.mem_singleton.1 hm; have := H4.out.2.1.box.lt; omega)
        have hP4 := H5.out.2.2.2.near hN4 (fun x hx hm => by
          obtain ⟨cs, hb⟩ := ownBlk H5.out.2.2.2.own hx
          rw [List.mem_singleton.1 hm] at hb
          exact hb.apart H5.out.2.2.1.box (by decide) rfl) (fun x cs hb hm => by
          rw [List.mem_singleton.1 hm] at hb
          exact hb.apart H5.out.2.2.1.box (by decide) rfl)
        have hk4 := OwnsC.nearO (OwnsC.ownBelow H4.out.1 H5.out.2.1) hN4 (fun x hx hm => by
          obtain ⟨cs, hb⟩ := ownBlk (OwnsC.ownBelow H4.out.1 H5.out.2.1) hx
          rw [List.mem_singleton.1 hm] at hb
          exact hb.apart H5.out.2.2.1.box (by decide) rfl)
        have hB4 := (H4.out.2.2.2.1.trans (H5.out.2.1.mono H4.out.2.2.2.1.size)).trans (hN4.toBelow (fun x hx => by rw [List.mem_singleton.1 hx]; exact Nat.le_refl _) (Nat.le_trans H4.out.2.2.2.1.size H5.out.2.1.size))
        have d4 := hg4.at_ 2 (v := .bool ((mm : Int) == 255)) rfl
        have H7 := Lib.hid (And.intro hcut (And.intro hg4 (And.intro hP4 (And.intro hk4 hB4))))
        -- TAIL (printed by gen/tbl.py)
        have hpv : ptake (n0 :: r) = if m0 = 255 then some ((r.take nn, [], true, ()), t) else if t.length < m0.toNat then none else some ((r.take nn, t.take m0.toNat, false, ()), t.drop m0.toNat) := by rw [HT.out.2, pval_cons]
        rw [← HM.out] at hpv
        have hgb : ((mm : Int) == 255) = decide (m0 = 255) := by
          by_cases e : m0 = 255
          · subst e; rw [HM.out, decide_eq_true rfl]; rfl
          · rw [decide_eq_false e, beq_eq_false_iff_ne]
            intro e2
            apply e
            apply UInt8.toNat_inj.1
            rw [← HM.out]
            show mm = 255
            omega
        have HPV := Lib.hid hpv
        rw [hgb] at H7 d4 d2 d3 f2 ⊢
        clear hgb hpv d0 d1 f0 k5 k6
        by_cases hm0 : m0 = 255
        · rw [decide_eq_true hm0] at H7 d4 d2 d3 f2 ⊢
          have hpt := HPV.out.trans (if_pos hm0)
          have h9 := H7.out.2.1
          have hnil : OwnB 5 ((w2.alloc (.cells #[.slice Ak nn ck, .slice none 0 0, .bool true] 115)).setCell ⟨w.heap.size, 0, none⟩ (.slice A5 t.length (c3 - 1))) w.heap.size (.slice none 0 0) [] [] := OwnsC.nil _ _ _ _
          have H8 := Lib.hid (And.intro H7.out.1.1 (And.intro H7.out.2.2.1 (And.intro H7.out.2.2.2.1 (And.intro hnil (And.intro H7.out.2.2.2.2 (And.intro hpt H7.out.1.2))))))
          clear hpt hm0 hnil H7
          -- the pair is whole
          go_wp2_with (first
            | ((with_reducible show wpList _ _ _ ((⟨some 56, _, _, _, _, _⟩ : Oper) :: _) _ _); refine wpList_load_blk (o := ⟨some 56, _, _, _, _, _⟩) (h9) (by rfl) _ _ (by rfl) (by rfl) _ Tryd.underlying115 (by rfl) (sizePair) (by rfl) ?_)
            | fail)
          have hpc := pcheck_any (r.take nn, [], true, ()) Ak none ck 0 ((w2.alloc (.cells #[.slice Ak nn ck, .slice none 0 0, .bool true] 115)).setCell ⟨w.heap.size, 0, none⟩ (.slice A5 t.length (c3 - 1)))
          unfold pairc at hpc
          simp only [HT.out.1] at hpc
          refine hpc.mono ?_
          rintro e w6 ⟨rfl, hbx⟩
          have H9 := Lib.hid (And.intro (H8.out.1.below hbx) (And.intro (h9.below hbx h9.lt) (And.intro (H8.out.2.1.below hbx) (And.intro (OwnsC.ownBelow H8.out.2.2.1 hbx) (And.intro (OwnsC.ownBelow H8.out.2.2.2.1 hbx) (H8.out.2.2.2.2.1.trans (hbx.mono H8.out.2.2.2.2.1.size)))))))
          clear hpc hbx h9
          cases hpk : pok (r.take nn, [], true, ())
          case false =>
            rw [show pokE (r.take nn, [], true, ()) = 2 by unfold pokE; rw [hpk]; rfl]
            have hRf : R = (13, []) := by rw [← HX.out.2.2.1]; exact pfin_none (parse_bad H8.out.2.2.2.2.2.1 hpk)
            have HF := Lib.hid (And.intro hRf H9.out.2.2.2.2.2)
            clear hpk hRf H9
            go_wp2_with fail
            refine bodyPost_ret (results_tmp2 rfl _ _ _) rfl ?_
            refine ⟨.slice none 0 0, [], [], by rw [HF.out.1]; rfl, by rw [HF.out.1]; exact PairsU.nil _ _, HF.out.2⟩
          case true =>
            rw [show pokE (r.take nn, [], true, ()) = 0 by unfold pokE; rw [hpk]; rfl]
            have hnext : pfin (o ++ [(r.take nn, [], true, ())]) t = R := by rw [← HX.out.2.2.1]; exact (pfin_step H8.out.2.2.2.2.2.1 hpk).symm
            have h10 := H9.out.2.1
            have hsl := ptake_len H8.out.2.2.2.2.2.1
            have holen : o.length ≤ 5000 := by have := HX.out.2.2.2.1; omega
            have HN := Lib.hid (And.intro hnext (And.intro hsl holen))
            have hbl := (Below.refl w6.heap.size w6).alloc (Nat.le_refl _) (.cells #[.slice Ak nn ck, .slice none 0 0, .bool true] 115)
            have hra : Reads (w6.alloc (.cells #[.slice Ak nn ck, .slice none 0 0, .bool true] 115)) (some ⟨w6.heap.size, 0, none⟩) [.slice Ak nn ck, .slice none 0 0, .bool true] := reads_new w6 115 [.slice Ak nn ck, .slice none 0 0, .bool true]
            have hP10 := H9.out.2.2.1.below hbl
            have H10 := Lib.hid (And.intro hP10 (And.intro hra (And.intro (OwnsC.ownBelow H9.out.2.2.2.1 hbl) (And.intro (OwnsC.ownBelow H9.out.2.2.2.2.1 hbl) (And.intro (H9.out.2.2.2.2.2.trans (hbl.mono H9.out.2.2.2.2.2.size)) (H9.out.1.below hbl))))))
            obtain ⟨Ao, co, hvo, -, -, -, -⟩ := OwnsC.reads hP10.own
            have HO := Lib.hid hP10.own
            subst hvo
            clear hnext hpk hbl hra hP10 hsl holen
            go_wp2_with (first
              | ((with_reducible show wpList _ _ _ ((⟨some 60, _, _, _, _, _⟩ : Oper) :: _) _ _); refine wpList_load_blk (o := ⟨some 60, _, _, _, _, _⟩) (h10) (by rfl) _ _ (by rfl) (by rfl) _ Tryd.underlying115 (by rfl) (sizePair) (by rfl) ?_)
              | ((with_reducible show wpList _ _ _ ((⟨some 62, _, _, _, _, _⟩ : Oper) :: _) _ _); refine wpList_append_vals (o := ⟨some 62, _, _, _, _, _⟩) (by rfl) _ _ _ (by rfl) w.heap.size 115 (.agg #[.slice none 0 0, .slice none 0 0, .bool false]) 3 56 Tryd.underlying80 infoPair (by rfl) (by omega) (.slice Ao o.length co) o.length rows sp (by rfl) HO.out (some ⟨w6.heap.size, 0, none⟩) 1 1 [.slice Ak nn ck, .slice none 0 0, .bool true] (by rfl) (by rfl) H10.out.2.1 (by simp [Value.oneCell']) (by have := HN.out.2.2; simp only [maxLen]; omega) (by have := HN.out.2.2; omega) H10.out.2.2.2.2.1.size ?_; intro v' W7 sp7 ho7 hg7 hv7 hn7; refine stopped ?_)
              | fail)
            refine Stopped.mk ?_
            have hN7 : Near (Value.slice Ao o.length co).ownBlock.toList _ W7 := Near.grown hg7 (fun x hx => Option.mem_toList.2 hx)
            have hPn := H10.out.1.add (p := (r.take nn, [], true, ())) (show OwnB 5 _ _ (.slice Ak nn ck) (r.take nn) sk by unfold OwnB; rw [HT.out.1]; exact H10.out.2.2.1) H10.out.2.2.2.1 hN7 ho7
            have holow : ∀ x ∈ (Value.slice Ao o.length co).ownBlock.toList, w.heap.size ≤ x := fun x hx => (OwnsC.lt H10.out.1.own x (Option.mem_toList.1 hx)).1
            have hRn := H10.out.2.2.2.2.2.near hN7 (fun hm => by
              obtain ⟨cs, hb⟩ := ownBlk H10.out.1.own (Option.mem_toList.1 hm)
              exact H10.out.2.2.2.2.2.box.apart hb (by decide) rfl) (fun _ ad e hm => by
              have := holow _ hm
              have := H8.out.2.2.2.2.2.2 ad e
              omega)
            have hBn := H10.out.2.2.2.2.1.trans (hN7.toBelow holow H10.out.2.2.2.2.1.size)
            have HZ := Lib.hid (show UpRel w b.length R v' W7 from ⟨_, t, _, sp7, _, _, hPn, hRn, HN.out.1, by have := HN.out.2.1; have := HX.out.2.2.2.1; simp only [List.length_append, List.length_singleton]; omega, fun ad e _ => H8.out.2.2.2.2.2.2 ad e, hBn⟩)
            have HMs := Lib.hid (show restLen w.heap.size W7 < restLen w.heap.size wr by rw [hRn.len, HX.out.2.2.2.2.2.2.1]; exact HN.out.2.1)
            obtain ⟨A7, c7, rfl, -, -, -, -⟩ := OwnsC.reads ho7
            clear hN7 hPn holow hRn hBn ho7 hg7 hv7 hn7 h10
            go_wp2_with fail
            go_roundw
            case rel => exact HZ.out
            case measure => exact HMs.out

        rw [decide_eq_false hm0] at H7 d4 d2 d3 f2 ⊢
        have hpt := HPV.out.trans (if_neg hm0)
        clear hm0
        go_wp2_with fail
        have hgl : ∀ x, u4.ownBlock = some x → x < w2.heap.size := fun x hx => (OwnsC.lt H4.out.2.2.1.own x hx).2
        have HG := Lib.hid (And.intro hgl hpt)
        clear d4 d2 d3 f2 hgl hpt
        generalize ((w2.alloc (.cells #[.slice Ak nn ck, .slice none 0 0, .bool false] 115)).setCell ⟨w.heap.size, 0, none⟩ (.slice A5 t.length (c3 - 1))) = w4 at H7 ⊢
        refine (take_any mm w.heap.size t A5 (c3 - 1) w4 hmm2 H7.out.1.1).mono ?_
        rintro e w5 ⟨vv, sv, A6, c6, rfl, hv, hR5, hA6, hN5⟩
        obtain ⟨Av, cv, hve, -, -, -⟩ := OwnB.open_ hv
        subst hve
        have hg5 := H7.out.2.1.near hN5 (fun hm => by
          have := H4.out.2.1.box.lt
          have := List.mem_singleton.1 hm
          omega)
        have offb : ∀ x cs, Blk w4 x 5 cs → x ∉ [w.heap.size] := fun x cs hb hm => by
          rw [List.mem_singleton.1 hm] at hb
          exact hb.apart H7.out.1.1.box (by decide) rfl
        have hP5 := H7.out.2.2.1.near hN5 (fun x hx hm => by
          obtain ⟨cs, hb⟩ := ownBlk H7.out.2.2.1.own hx
          rw [List.mem_singleton.1 hm] at hb
          exact hb.apart H7.out.1.1.box (by decide) rfl) offb
        have hk5 := OwnsC.nearO H7.out.2.2.2.1 hN5 (fun x hx => by obtain ⟨cs, hb⟩ := ownBlk H7.out.2.2.2.1 hx; exact offb x cs hb)
        have hB5 := H7.out.2.2.2.2.trans (hN5.toBelow (fun x hx => by rw [List.mem_singleton.1 hx]; exact Nat.le_refl _) H7.out.2.2.2.2.size)
        have hlow5 : ∀ ad, A6 = some ad → ad.block < w.heap.size := fun ad e => by
          obtain ⟨ad0, e0, e1⟩ := hA6 ad e
          rw [← e1]; exact H7.out.1.2 ad0 e0
        have hN6 : Near [w2.heap.size] w5 (w5.setCell ⟨w2.heap.size, 1, none⟩ (.slice Av (tookB t mm).length cv)) := near_set (Near.refl _ _) (by simp) _ _
        have hg6 := hg5.set_ 1 (.slice Av (tookB t mm).length cv)
        have off6 : ∀ x cs, Blk w5 x 5 cs → x ∉ [w2.heap.size] := fun x cs hb hm => by
          rw [List.mem_singleton.1 hm] at hb
          exact hb.apart hg5 (by decide) rfl
        have hP6 := hP5.near hN6 (fun x hx hm => by have := HG.out.1 x hx; have := List.mem_singleton.1 hm; omega) off6
        have hk6 := OwnsC.nearO hk5 hN6 (fun x hx => by obtain ⟨cs, hb⟩ := ownBlk hk5 hx; exact off6 x cs hb)
        have hv6 := OwnsC.base_ (base' := w.heap.size) (OwnsC.nearO hv hN6 (fun x hx => by obtain ⟨cs, hb⟩ := ownBlk hv hx; exact off6 x cs hb)) H7.out.2.2.2.2.size
        have hR6 := hR5.near hN6 (fun hm => by have := List.mem_singleton.1 hm; have := H4.out.2.1.box.lt; omega) (fun _ ad e hm => by have := List.mem_singleton.1 hm; have := hlow5 ad e; have := H4.out.2.2.2.1.size; omega)
        have hB6 := hB5.trans (hN6.toBelow (fun x hx => by rw [List.mem_singleton.1 hx]; exact H4.out.2.2.2.1.size) hB5.size)
        have d5 := hg5.at_ 1 (v := .slice none 0 0) rfl
        have f5 := hg5.frozen 1
        have d6 := hg6.at_ 1 (v := .slice Av (tookB t mm).length cv) rfl
        have H8a := Lib.hid (And.intro hR6 (And.intro hP6 (And.intro hk6 (And.intro hv6 (And.intro hB6 (And.intro hlow5 hg6))))))
        clear hg5 offb hP5 hk5 hB5 hlow5 hN6 hg6 off6 hP6 hk6 hv6 hR6 hB6 hv hR5 hA6 hN5 H7 hbl
        by_cases hlt : t.length < mm
        · have kt : tookB t mm = [] := if_pos hlt
          have hpt := HG.out.2.trans (if_pos hlt)
          have hRf : R = (13, []) := by rw [← HX.out.2.2.1]; exact pfin_none (parse_none (by simp) hpt)
          have HF := Lib.hid (And.intro hRf H8a.out.2.2.2.2.1)
          have kz : (((([] : List UInt8).length : Nat) : Int) != (mm : Int)) = true := bne_iff_ne.2 (by simp; omega)
          have kz2 : ((0 : Int) != (mm : Int)) = true := bne_iff_ne.2 (by omega)
          rw [kt] at HF d6 ⊢
          clear kt hpt hRf hlt H8a
          simp only [List.length_nil] at HF d6 ⊢
          go_wp2_with fail
          refine bodyPost_ret (results_tmp2 rfl _ _ _) rfl ?_
          refine ⟨.slice none 0 0, [], [], by rw [HF.out.1]; rfl, by rw [HF.out.1]; exact PairsU.nil _ _, HF.out.2⟩
        have kt : tookB t mm = t.take mm := if_neg hlt
        have kl : leftB t mm = t.drop mm := if_neg hlt
        have hpt := HG.out.2.trans (if_neg hlt)
        have htl : (t.take mm).length = mm := by rw [List.length_take]; omega
        rw [kt, kl] at H8a
        rw [kt] at d6 ⊢
        rw [htl] at d6 ⊢
        have hg9 := H8a.out.2.2.2.2.2.2
        rw [htl] at hg9 H8a
        have H8 := Lib.hid (And.intro H8a.out.1 (And.intro H8a.out.2.1 (And.intro H8a.out.2.2.1 (And.intro (show OwnB 5 _ w.heap.size (.slice Av mm cv) (t.take mm) sv by unfold OwnB; rw [htl]; exact H8a.out.2.2.2.1) (And.intro H8a.out.2.2.2.2.1 (And.intro hpt H8a.out.2.2.2.2.2.1))))))
        have h9 : Blk (w5.setCell ⟨w2.heap.size, 1, none⟩ (.slice Av mm cv)) w2.heap.size 115 #[.slice Ak nn ck, .slice Av mm cv, .bool false] := hg9
        clear kt kl hpt hlt hg9 H8a
        -- the pair is whole
        go_wp2_with (first
          | ((with_reducible show wpList _ _ _ ((⟨some 56, _, _, _, _, _⟩ : Oper) :: _) _ _); refine wpList_load_blk (o := ⟨some 56, _, _, _, _, _⟩) (h9) (by rfl) _ _ (by rfl) (by rfl) _ Tryd.underlying115 (by rfl) (sizePair) (by rfl) ?_)
          | fail)
        have hpc := pcheck_any (r.take nn, t.take mm, false, ()) Ak Av ck cv (w5.setCell ⟨w2.heap.size, 1, none⟩ (.slice Av mm cv))
        unfold pairc at hpc
        simp only [HT.out.1, htl] at hpc
        refine hpc.mono ?_
        rintro e w6 ⟨rfl, hbx⟩
        have H9 := Lib.hid (And.intro (H8.out.1.below hbx) (And.intro (h9.below hbx h9.lt) (And.intro (H8.out.2.1.below hbx) (And.intro (OwnsC.ownBelow H8.out.2.2.1 hbx) (And.intro (OwnsC.ownBelow H8.out.2.2.2.1 hbx) (H8.out.2.2.2.2.1.trans (hbx.mono H8.out.2.2.2.2.1.size)))))))
        clear hpc hbx h9
        cases hpk : pok (r.take nn, t.take mm, false, ())
        case false =>
          rw [show pokE (r.take nn, t.take mm, false, ()) = 2 by unfold pokE; rw [hpk]; rfl]
          have hRf : R = (13, []) := by rw [← HX.out.2.2.1]; exact pfin_none (parse_bad H8.out.2.2.2.2.2.1 hpk)
          have HF := Lib.hid (And.intro hRf H9.out.2.2.2.2.2)
          clear hpk hRf H9
          go_wp2_with fail
          refine bodyPost_ret (results_tmp2 rfl _ _ _) rfl ?_
          refine ⟨.slice none 0 0, [], [], by rw [HF.out.1]; rfl, by rw [HF.out.1]; exact PairsU.nil _ _, HF.out.2⟩
        case true =>
          rw [show pokE (r.take nn, t.take mm, false, ()) = 0 by unfold pokE; rw [hpk]; rfl]
          have hnext : pfin (o ++ [(r.take nn, t.take mm, false, ())]) (t.drop mm) = R := by rw [← HX.out.2.2.1]; exact (pfin_step H8.out.2.2.2.2.2.1 hpk).symm
          have h10 := H9.out.2.1
          have hsl := ptake_len H8.out.2.2.2.2.2.1
          have holen : o.length ≤ 5000 := by have := HX.out.2.2.2.1; omega
          have HN := Lib.hid (And.intro hnext (And.intro hsl holen))
          have hbl := (Below.refl w6.heap.size w6).alloc (Nat.le_refl _) (.cells #[.slice Ak nn ck, .slice Av mm cv, .bool false] 115)
          have hra : Reads (w6.alloc (.cells #[.slice Ak nn ck, .slice Av mm cv, .bool false] 115)) (some ⟨w6.heap.size, 0, none⟩) [.slice Ak nn ck, .slice Av mm cv, .bool false] := reads_new w6 115 [.slice Ak nn ck, .slice Av mm cv, .bool false]
          have hP10 := H9.out.2.2.1.below hbl
          have H10 := Lib.hid (And.intro hP10 (And.intro hra (And.intro (OwnsC.ownBelow H9.out.2.2.2.1 hbl) (And.intro (OwnsC.ownBelow H9.out.2.2.2.2.1 hbl) (And.intro (H9.out.2.2.2.2.2.trans (hbl.mono H9.out.2.2.2.2.2.size)) (H9.out.1.below hbl))))))
          obtain ⟨Ao, co, hvo, -, -, -, -⟩ := OwnsC.reads hP10.own
          have HO := Lib.hid hP10.own
          subst hvo
          clear hnext hpk hbl hra hP10 hsl holen
          go_wp2_with (first
            | ((with_reducible show wpList _ _ _ ((⟨some 60, _, _, _, _, _⟩ : Oper) :: _) _ _); refine wpList_load_blk (o := ⟨some 60, _, _, _, _, _⟩) (h10) (by rfl) _ _ (by rfl) (by rfl) _ Tryd.underlying115 (by rfl) (sizePair) (by rfl) ?_)
            | ((with_reducible show wpList _ _ _ ((⟨some 62, _, _, _, _, _⟩ : Oper) :: _) _ _); refine wpList_append_vals (o := ⟨some 62, _, _, _, _, _⟩) (by rfl) _ _ _ (by rfl) w.heap.size 115 (.agg #[.slice none 0 0, .slice none 0 0, .bool false]) 3 56 Tryd.underlying80 infoPair (by rfl) (by omega) (.slice Ao o.length co) o.length rows sp (by rfl) HO.out (some ⟨w6.heap.size, 0, none⟩) 1 1 [.slice Ak nn ck, .slice Av mm cv, .bool false] (by rfl) (by rfl) H10.out.2.1 (by simp [Value.oneCell']) (by have := HN.out.2.2; simp only [maxLen]; omega) (by have := HN.out.2.2; omega) H10.out.2.2.2.2.1.size ?_; intro v' W7 sp7 ho7 hg7 hv7 hn7; refine stopped ?_)
            | fail)
          refine Stopped.mk ?_
          have hN7 : Near (Value.slice Ao o.length co).ownBlock.toList _ W7 := Near.grown hg7 (fun x hx => Option.mem_toList.2 hx)
          have hPn := H10.out.1.add (p := (r.take nn, t.take mm, false, ())) (show OwnB 5 _ _ (.slice Ak nn ck) (r.take nn) sk by unfold OwnB; rw [HT.out.1]; exact H10.out.2.2.1) H10.out.2.2.2.1 hN7 ho7
          have holow : ∀ x ∈ (Value.slice Ao o.length co).ownBlock.toList, w.heap.size ≤ x := fun x hx => (OwnsC.lt H10.out.1.own x (Option.mem_toList.1 hx)).1
          have hRn := H10.out.2.2.2.2.2.near hN7 (fun hm => by
            obtain ⟨cs, hb⟩ := ownBlk H10.out.1.own (Option.mem_toList.1 hm)
            exact H10.out.2.2.2.2.2.box.apart hb (by decide) rfl) (fun _ ad e hm => by
            have := holow _ hm
            have := H8.out.2.2.2.2.2.2 ad e
            omega)
          have hBn := H10.out.2.2.2.2.1.trans (hN7.toBelow holow H10.out.2.2.2.2.1.size)
          have HZ := Lib.hid (show UpRel w b.length R v' W7 from ⟨_, (t.drop mm), _, sp7, _, _, hPn, hRn, HN.out.1, by have := HN.out.2.1; have := HX.out.2.2.2.1; simp only [List.length_append, List.length_singleton]; omega, fun ad e _ => H8.out.2.2.2.2.2.2 ad e, hBn⟩)
          have HMs := Lib.hid (show restLen w.heap.size W7 < restLen w.heap.size wr by rw [hRn.len, HX.out.2.2.2.2.2.2.1]; exact HN.out.2.1)
          obtain ⟨A7, c7, rfl, -, -, -, -⟩ := OwnsC.reads ho7
          clear hN7 hPn holow hRn hBn ho7 hg7 hv7 hn7 h10
          go_wp2_with fail
          go_roundw
          case rel => exact HZ.out
          case measure => exact HMs.out
end Go.Proofs.YthfdjemlibecgaaDoor

/- A data block of the grid is read: the program's data. Condition: the grid is known. -/
namespace Go.Proofs.YthfdjemlibecgaaDoor
open Go.RowKit
/-- What a data block tells. -/
def tdata (g : Grd) (d : Dsk) (f : Option Fus) (r : RefT) : Int × List PairT × Grd :=
  match (glook g d f r).2.1 with
  | none => ((glook g d f r).1, [], (glook g d f r).2.2)
  | some b => if b.1 = 1 ∧ b.2.2.1 = [] then ((punpack b.2.2.2.1).1, (punpack b.2.2.2.1).2, (glook g d f r).2.2) else (13, [], (glook g d f r).2.2)
theorem tdata_none {g : Grd} {d : Dsk} {f : Option Fus} {r : RefT} (h : (glook g d f r).2.1 = none) : tdata g d f r = ((glook g d f r).1, [], (glook g d f r).2.2) := by unfold tdata; rw [h]
theorem tdata_some {g : Grd} {d : Dsk} {f : Option Fus} {r : RefT} {b : GBT} (h : (glook g d f r).2.1 = some b) : tdata g d f r = if b.1 = 1 ∧ b.2.2.1 = [] then ((punpack b.2.2.2.1).1, (punpack b.2.2.2.1).2, (glook g d f r).2.2) else (13, [], (glook g d f r).2.2) := by unfold tdata; rw [h]
/-- A look that finds nothing has a number. -/
theorem glook_code {g : Grd} {d : Dsk} {f : Option Fus} {r : RefT} : ((glook g d f r).2.1 = none → (glook g d f r).1 ≠ 0) ∧ ((glook g d f r).2.1 ≠ none → (glook g d f r).1 = 0 ∧ (glook g d f r).2.2 = g) := by
  unfold glook
  split
  · exact ⟨fun _ => by simp, fun h => absurd rfl h⟩
  split
  · exact ⟨fun _ => by simp, fun h => absurd rfl h⟩
  cases gthere d r with
  | none => exact ⟨fun _ => by simp, fun h => absurd rfl h⟩
  | some b => exact ⟨fun h => (by cases h), fun _ => ⟨rfl, rfl⟩⟩
theorem read_body (raw : List UInt8) : (GB.read raw).2.2.2.2.1.length ≤ 860 := by
  unfold GB.read
  split
  · simp [GB.none_]
  split
  · simp [GB.none_]
  split
  · simp [GB.none_]
  split
  · rename_i h; exact (GB.ok_spec h.1).2.2.2.1
  · simp [GB.none_]
theorem read_few (raw : List UInt8) : (GB.read raw).2.2.2.1.length ≤ 16 := by
  unfold GB.read
  split
  · simp [GB.none_]
  split
  · simp [GB.none_]
  split
  · simp [GB.none_]
  split
  · rename_i h; exact (GB.ok_spec h.1).2.2.1
  · simp [GB.none_]
theorem look_body {g : Grd} {d : Dsk} {f : Option Fus} {r : RefT} {b : GBT} (h : (glook g d f r).2.1 = some b) : b.2.2.2.1.length ≤ 860 ∧ b.2.2.1.length ≤ 16 := by
  unfold glook at h
  split at h
  · cases h
  split at h
  · cases h
  cases ht : gthere d r with
  | none => rw [ht] at h; cases h
  | some b' =>
    rw [ht] at h
    injection h with h
    subst h
    unfold gthere at ht
    split at ht
    · injection ht with ht
      rw [← ht]
      exact ⟨read_body _, read_few _⟩
    · cases ht
section
variable {w : World} {q : GPl} {g : Grd} {d : Dsk} {f : Option Fus}
set_option maxRecDepth 100000 in
set_option maxHeartbeats 4000000 in
theorem tdata_any (h : GridR w q g d f) (hlen : g.W.length ≤ 1099511627776) (r : RefT) :
    Calls Tryd.prog 121 #[.pointer (some ⟨q.gg, 0, none⟩), .agg #[.int .i64 r.1, .int .i64 r.2.1]] w fun e w' => ∃ (v : Value) (rows sp : List Value), e = .returned (.tuple #[v, .int .i64 (tdata g d f r).1]) ∧ PairsU w' w.heap.size v (tdata g d f r).2.1 rows sp ∧ LPost w q (decide ((tdata g d f r).1 = 0)) (tdata g d f r).2.2 d f w' := by
  have hz := zeroGBrun
  have hB := (Below.refl w.heap.size w).alloc (Nat.le_refl _) (.cells #[.int .i64 r.1, .int .i64 r.2.1] 23)
  have hbr := Blk.new w 23 #[.int .i64 r.1, .int .i64 r.2.1]
  have hr := gread_any (h.below hB) hlen r
  have H0 := Lib.hid (And.intro h hB)
  obtain ⟨T, hT⟩ : ∃ T, T = tdata g d f r := ⟨_, rfl⟩
  rw [← hT]
  have HTT := Lib.hid hT
  clear h hB hT
  go_enter Tryd.func121, Tryd.ntmps121
  go_wp2_with (first
    | ((with_reducible show wpList _ _ _ ((⟨some 10, _, _, _, _, _⟩ : Oper) :: _) _ _); refine wpList_load_blk (o := ⟨some 10, _, _, _, _, _⟩) (hbr) (by rfl) _ _ (by rfl) (by rfl) _ Tryd.underlying23 (by rfl) (size_ref) (by rfl) ?_)
    | fail)
  refine hr.mono ?_
  rintro e w1 ⟨v1, rfl, ⟨v2, A, c, B, e1, C, rfl, -, hA, hBy, hca, hce, hcm, -, -, -⟩, hL⟩
  obtain ⟨o, ho⟩ : ∃ o, o = (glook g d f r).2.1 := ⟨_, rfl⟩
  obtain ⟨cd, hcd⟩ : ∃ cd, cd = (glook g d f r).1 := ⟨_, rfl⟩
  rw [← ho] at hA hBy hca hce hL ⊢
  rw [← hcd]
  have hcode := @glook_code g d f r
  rw [← ho, ← hcd] at hcode
  have HT := Lib.hid (And.intro (show o = none → T = (cd, [], (glook g d f r).2.2) from fun e => by rw [hcd, HTT.out]; exact tdata_none (ho.symm.trans e)) (show ∀ b, o = some b → T = if b.1 = 1 ∧ b.2.2.1 = [] then ((punpack b.2.2.2.1).1, (punpack b.2.2.2.1).2, (glook g d f r).2.2) else (13, [], (glook g d f r).2.2) from fun b e => by rw [HTT.out]; exact tdata_some (ho.symm.trans e)))
  have HB := Lib.hid (show ∀ b, o = some b → b.2.2.2.1.length ≤ 860 ∧ b.2.2.1.length ≤ 16 from fun b e => look_body (ho.symm.trans e))
  clear HTT
  generalize (glook g d f r).2.2 = g2 at hL HT hcode
  have hsz1 := hL.1
  have hg6 := Blk.new w1 46 #[.int .i64 0, .int .i64 0, .int .i64 0, .slice none 0 0, .slice none 0 0]
  have H1 := Lib.hid (And.intro hL (And.intro hA hBy))
  clear hL hA hBy hsz1 ho hcd hr
  cases o with
  | none =>
    have hc0 := hcode.1 rfl
    have kc : (cd != 0) = true := bne_iff_ne.2 hc0
    have HF := Lib.hid (HT.out.1 rfl)
    clear hcode HT HB
    go_wp2_with (first
      | ((with_reducible show wpList _ _ _ ((⟨none, _, _, _, _, _⟩ : Oper) :: _) _ _); refine wpList_store_blk (o := ⟨none, _, _, _, _, _⟩) (hg6) (by rfl) _ _ _ (by rfl) (by rfl) (gbc ((none : Option GBT).getD GB.none_) A c B e1) (by rfl) (sizeGB) (by rfl) (by rfl) (gbc_one _ _ _ _ _) ?_; intro w3 h3 hu3; have hb3 := ((Below.refl w1.heap.size w1).alloc (Nat.le_refl _) (.cells #[.int .i64 0, .int .i64 0, .int .i64 0, .slice none 0 0, .slice none 0 0] 46)).upd hu3 (Nat.le_refl _); have H3 := Lib.hid hb3; clear hu3 hb3 h3)
      | fail)
    refine bodyPost_ret (results_tmp2 rfl _ _ _) rfl ?_
    refine ⟨.slice none 0 0, [], [], by rw [HF.out]; rfl, by rw [HF.out]; exact PairsU.nil _ _, ?_⟩
    rw [HF.out]
    refine ⟨(GPost.trans1 H0.out.2 H1.out.1.1).below H3.out, fun e => absurd (of_decide_eq_true e) hc0⟩
  | some b =>
    obtain ⟨rfl, rfl⟩ := hcode.2 (by simp)
    have hbd := HB.out b rfl
    have hT2 := HT.out.2 b rfl
    have H2 := Lib.hid (And.intro hT2 (And.intro hbd (And.intro hca (And.intro hce hcm))))
    clear hcode HT HB hbd hT2 hca hce hcm
    have hk : ∃ bk, bk = (b.1 != 1) := ⟨_, rfl⟩
    obtain ⟨bk, hbk⟩ := hk
    have hl : ∃ bl, bl = decide (0 < b.2.2.1.length) := ⟨_, rfl⟩
    obtain ⟨bl, hbl⟩ := hl
    have HBK := Lib.hid (And.intro hbk hbl)
    have hbl2 : decide ((b.2.2.1.length : Int) > 0) = bl := by rw [hbl]; exact decide_eq_decide.2 (by omega)
    have hbk2 := hbk.symm
    have hbl3 := hbl.symm
    clear hbk hbl
    cases bk
    case true =>
      have hne : ¬ (b.1 = 1 ∧ b.2.2.1 = []) := fun h => by have := HBK.out.1; rw [h.1] at this; cases this
      have HF := Lib.hid (H2.out.1.trans (if_neg hne))
      clear H2 HBK hne hbl2 hbl3
      go_wp2_with (first
        | ((with_reducible show wpList _ _ _ ((⟨none, _, _, _, _, _⟩ : Oper) :: _) _ _); refine wpList_store_blk (o := ⟨none, _, _, _, _, _⟩) (hg6) (by rfl) _ _ _ (by rfl) (by rfl) (gbc ((some b : Option GBT).getD GB.none_) A c B e1) (by rfl) (sizeGB) (by rfl) (by rfl) (gbc_one _ _ _ _ _) ?_; intro w3 h3 hu3; have hb3 := ((Below.refl w1.heap.size w1).alloc (Nat.le_refl _) (.cells #[.int .i64 0, .int .i64 0, .int .i64 0, .slice none 0 0, .slice none 0 0] 46)).upd hu3 (Nat.le_refl _); have d0 := h3.at_ 0 (v := .int .i64 b.1) rfl; have H3 := Lib.hid hb3; clear hu3 hb3 h3)
        | fail)
      refine bodyPost_ret (results_tmp2 rfl _ _ _) rfl ?_
      refine ⟨.slice none 0 0, [], [], by rw [HF.out]; rfl, by rw [HF.out]; exact PairsU.nil _ _, ?_⟩
      rw [HF.out]
      exact ⟨(GPost.trans1 H0.out.2 H1.out.1.1).below H3.out, fun e => absurd (of_decide_eq_true e) (by simp)⟩
    case false =>
    cases bl
    case true =>
      have hne : ¬ (b.1 = 1 ∧ b.2.2.1 = []) := fun h => by have := HBK.out.2; rw [h.2] at this; cases this
      have HF := Lib.hid (H2.out.1.trans (if_neg hne))
      clear H2 HBK hne
      go_wp2_with (first
        | ((with_reducible show wpList _ _ _ ((⟨none, _, _, _, _, _⟩ : Oper) :: _) _ _); refine wpList_store_blk (o := ⟨none, _, _, _, _, _⟩) (hg6) (by rfl) _ _ _ (by rfl) (by rfl) (gbc ((some b : Option GBT).getD GB.none_) A c B e1) (by rfl) (sizeGB) (by rfl) (by rfl) (gbc_one _ _ _ _ _) ?_; intro w3 h3 hu3; have hb3 := ((Below.refl w1.heap.size w1).alloc (Nat.le_refl _) (.cells #[.int .i64 0, .int .i64 0, .int .i64 0, .slice none 0 0, .slice none 0 0] 46)).upd hu3 (Nat.le_refl _); have d0 := h3.at_ 0 (v := .int .i64 b.1) rfl; have d1 := h3.at_ 3 (v := .slice A b.2.2.1.length c) rfl; have H3 := Lib.hid hb3; clear hu3 hb3 h3)
        | fail)
      refine bodyPost_ret (results_tmp2 rfl _ _ _) rfl ?_
      refine ⟨.slice none 0 0, [], [], by rw [HF.out]; rfl, by rw [HF.out]; exact PairsU.nil _ _, ?_⟩
      rw [HF.out]
      exact ⟨(GPost.trans1 H0.out.2 H1.out.1.1).below H3.out, fun e => absurd (of_decide_eq_true e) (by simp)⟩
    case false =>
      have hyes : b.1 = 1 ∧ b.2.2.1 = [] := ⟨by have := HBK.out.1; simpa using this.symm, by have := HBK.out.2.symm; exact List.eq_nil_of_length_eq_zero (by have := of_decide_eq_false this; omega)⟩
      have HF := Lib.hid (H2.out.1.trans (if_pos hyes))
      clear HBK hyes
      go_wp2_with (first
        | ((with_reducible show wpList _ _ _ ((⟨none, _, _, _, _, _⟩ : Oper) :: _) _ _); refine wpList_store_blk (o := ⟨none, _, _, _, _, _⟩) (hg6) (by rfl) _ _ _ (by rfl) (by rfl) (gbc ((some b : Option GBT).getD GB.none_) A c B e1) (by rfl) (sizeGB) (by rfl) (by rfl) (gbc_one _ _ _ _ _) ?_; intro w3 h3 hu3; have hb3 := ((Below.refl w1.heap.size w1).alloc (Nat.le_refl _) (.cells #[.int .i64 0, .int .i64 0, .int .i64 0, .slice none 0 0, .slice none 0 0] 46)).upd hu3 (Nat.le_refl _); have d0 := h3.at_ 0 (v := .int .i64 b.1) rfl; have d1 := h3.at_ 3 (v := .slice A b.2.2.1.length c) rfl; have d2 := h3.at_ 4 (v := .slice B b.2.2.2.1.length e1) rfl; have H3 := Lib.hid hb3; clear hu3 hb3 h3)
        | fail)
      have hL1 := H1.out.1.2 rfl
      refine (unpack_any B e1 b.2.2.2.1 (by have := H2.out.2.1.1; omega) H2.out.2.2.2.1 H2.out.2.2.2.2 w3 (Bytes.below H1.out.2.2 H3.out)).mono ?_
      rintro e w4 ⟨v, rows, sp, rfl, hP, hbx⟩
      have hb4 := (H0.out.2.trans (hL1.mono H0.out.2.size)).trans ((H3.out.trans (hbx.mono H3.out.size)).mono (H0.out.2.trans (hL1.mono H0.out.2.size)).size)
      have H4 := Lib.hid (And.intro (hP.base_ (b := w.heap.size) (Nat.le_trans (H0.out.2.trans (hL1.mono H0.out.2.size)).size H3.out.size)) (And.intro hb4 ((GPost.trans1 H0.out.2 H1.out.1.1).below (H3.out.trans (hbx.mono H3.out.size)))))
      obtain ⟨Av, cv, rfl, -, -, -, -⟩ := OwnsC.reads hP.own
      clear hP hbx hb4 hL1 d0 d1 d2
      go_wp2_with fail
      refine bodyPost_ret (results_tmp2 rfl _ _ _) rfl ?_
      refine ⟨_, rows, sp, by rw [HF.out]; rfl, by rw [HF.out]; exact H4.out.1, ?_⟩
      rw [HF.out]
      exact ⟨H4.out.2.2, fun _ => H4.out.2.1⟩
end
end Go.Proofs.YthfdjemlibecgaaDoor
