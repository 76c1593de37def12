/- A table is written: the program's Build. Conditions: the grid is known; there is room for the table; each write succeeds. -/
import Derived.Test.YtgkljncigbiffaaDoorMTableKnown18
import Derived.Lib.SliceRun
namespace Go.Proofs.YtgkljncigbiffaaDoor
open Go.RowKit
theorem ppack_ok {l : List PairT} (h : (ppack l).1 = 0) : l ≠ [] ∧ l.length ≤ 64 ∧ psorted l = true ∧ l.all pok = true ∧ (ppack l).2 = pgroups l := by
  unfold ppack at h ⊢
  split at h
  · cases h
  · rename_i hn
    rw [if_neg hn]
    simp only [not_or, Bool.not_eq_false] at hn
    exact ⟨hn.1, by omega, hn.2.2.1, hn.2.2.2, rfl⟩
theorem gkey_ok {l : List PairT} (h : (ppack l).1 = 0) {k : List UInt8} (hk : k ∈ (ppack l).2.map gkey) : 1 ≤ k.length ∧ k.length ≤ 32 := by
  obtain ⟨-, -, -, h4, h5⟩ := ppack_ok h
  have hG := pgroups_ok h4
  rw [h5] at hk
  obtain ⟨g, hg, rfl⟩ := List.mem_map.1 hk
  obtain ⟨a, ha, e⟩ := gkey_mem (hG.ne g hg)
  rw [e]
  have := pok_spec (List.all_eq_true.1 h4 a (by rw [← hG.flat]; exact List.mem_flatten.2 ⟨g, hg, ha⟩))
  exact ⟨this.1, this.2.1⟩
theorem gbody_ok {l : List PairT} (h : (ppack l).1 = 0) {b : List UInt8} (hb : b ∈ (ppack l).2.map gbody) : b.length ≤ 860 := by
  obtain ⟨-, -, -, h4, h5⟩ := ppack_ok h
  rw [h5] at hb
  obtain ⟨g, hg, rfl⟩ := List.mem_map.1 hb
  exact (pgroups_ok h4).small g hg
theorem kbytes_le : ∀ (ks : List (List UInt8)), (∀ k ∈ ks, k.length ≤ 32) → (kbytes ks).length ≤ 33 * ks.length
  | [], _ => by simp [kbytes]
  | k :: ks, h => by
    have h1 := h k (by simp)
    have h2 := kbytes_le ks (fun x hx => h x (by simp [hx]))
    unfold kbytes at h2 ⊢
    rw [List.flatMap_cons, List.length_append, List.length_cons, List.length_cons]
    omega
theorem bu_lt {a b : Nat} (h : b ≤ a) : decide ((a : Int) < (b : Int)) = false := decide_eq_false (by omega)
set_option maxRecDepth 100000 in
set_option maxHeartbeats 8000000 in
theorem tbuild_any {w : World} {q : GPl} {G : Nat → Grd} {D : Nat → Dsk} {R : Nat → RefT} {root : RefT} {s : Int} (h : GridR w q (G 0) (D 0) none) (hT : Tab w) (hTq : 1 ∉ q.all)
    (A : Option Addr) (c : Nat) (l : List PairT) (hl : l.length ≤ 65536) (hP : Pairs w A l) (hX : PairsX q.all w A l) (hok : (ppack l).1 = 0) (hs1 : 0 ≤ s) (hs2 : s ≤ 1073741824)
    (hf : (ppack l).2.length + 1 ≤ cnts (G 0).L 0) (hpt : Puts s ((ppack l).2.map gbody) (kbytes ((ppack l).2.map gkey)) root G D R) (F : List UInt8) (L : List UInt8) (hF : ∃ p, l[0]? = some p ∧ F = p.1) (hL : ∃ p, l[l.length - 1]? = some p ∧ L = p.1) :
    Calls Tryd.prog 10 #[.pointer (some ⟨q.gg, 0, none⟩), .slice A l.length c, .int .i64 s] w fun e w' => ∃ (fv lv : Value) (sf sl : List UInt8), e = .returned (.tuple #[.agg #[.int .i64 root.1, .int .i64 root.2.1, .int .i64 (l.length : Int), fv, lv], .int .i64 0]) ∧ OwnB 5 w' w.heap.size fv F sf ∧ OwnB 5 w' w.heap.size lv L sl ∧ GPost w q (G ((ppack l).2.length + 1)) (D ((ppack l).2.length + 1)) none w' := by
  have hz := zeroRunrun
  have hb1 := (Below.refl w.heap.size w).alloc (Nat.le_refl _) (.cells #[.int .i64 0, .int .i64 0, .int .i64 0, .slice none 0 0, .slice none 0 0] 35)
  have hg6 := Blk.new w 35 #[.int .i64 0, .int .i64 0, .int .i64 0, .slice none 0 0, .slice none 0 0]
  have HW := Lib.hid (And.intro h (And.intro hT (And.intro hTq (And.intro hP (And.intro hX (And.intro hok (And.intro hpt (And.intro hF hL))))))))
  have hno := tnone_any (h.below hb1)
  have H0 := Lib.hid (And.intro hb1 hg6)
  obtain ⟨n, hn⟩ : ∃ n, n = l.length := ⟨_, rfl⟩
  have HN := Lib.hid hn
  rw [← hn] at hl ⊢
  clear h hT hTq hP hX hok hpt hF hL hb1 hg6 hn
  go_enter Tryd.func10, Tryd.ntmps10
  go_wp2_with fail
  refine hno.mono ?_
  rintro e w1 ⟨rfl, hb1⟩
  have hbw1 := H0.out.1.trans (hb1.mono H0.out.1.size)
  have hpk := pack_any (N := fun x => x ∉ q.all) A c l (by rw [← HN.out]; exact hl) w1 (HW.out.2.2.2.1.below hbw1) (fun i b off p A1 c1 hi hA hc hp ad e => by
    subst hA
    obtain ⟨hi2, rfl⟩ := List.getElem?_eq_some_iff.1 hi
    obtain ⟨b', off', ad1, c1', e1, k1, k2, k3, k4, k5, k6⟩ := (HW.out.2.2.2.2.1.near (Near.below hbw1)) i hi2 hp
    injection e1 with e1
    obtain ⟨rfl, rfl⟩ : b = b' ∧ off = off' := by injection e1 with e1 e2; exact ⟨e1, e2⟩
    rw [hc] at k2
    injection k2 with k2
    injection k2 with k2
    rw [e] at k2; injection k2 with k2
    rw [k2]; exact k6)
  rw [← HN.out] at hpk
  have H1 := Lib.hid (And.intro hbw1 (H0.out.2.below hb1 H0.out.2.lt))
  clear hno hb1 hbw1
  go_wp2_with fail
  refine hpk.mono ?_
  rintro e w2 ⟨vb, vk, bs, sp, ks, sk, rfl, hG, hK, -, hb2⟩
  have hbw2 := H1.out.1.trans (hb2.mono H1.out.1.size)
  have hlow : ∀ x ∈ q.all, x < w1.heap.size := fun x hx => Nat.lt_of_lt_of_le (HW.out.1.lt x hx) H1.out.1.size
  obtain ⟨Ab, cb, rfl, hcb, hcbm, hKb⟩ := hG.keysX hlow
  obtain ⟨Ak, ck, rfl, hck, hckm, hKk⟩ := hK.keysX hlow
  obtain ⟨m, hm⟩ : ∃ m, m = (ppack l).2.length := ⟨_, rfl⟩
  rw [HW.out.2.2.2.2.2.1]
  rw [← hm] at hcb hck hf ⊢
  have hcn := gcounts_any (HW.out.1.below hbw2)
  have hc3 := cnts3 (G 0).L HW.out.1.ok.set.le
  have hcl := HW.out.1.ok.len
  have hc5 := HW.out.1.ok.h512
  generalize cnts (G 0).L 0 = a at hcn hf hc3
  generalize cnts (G 0).L 1 = a1 at hcn hc3
  generalize cnts (G 0).L 2 = a2 at hcn hc3
  have hm512 : m < 512 := by omega
  have k1 : decide (s < 0) = false := decide_eq_false (by omega)
  have k2 : decide (s > 1073741824) = false := decide_eq_false (by omega)
  have k2' : decide (1073741824 < s) = false := decide_eq_false (by omega)
  have k3 : wrap64 ((m : Int) + 1) = ((m + 1 : Nat) : Int) := by rw [w64_in (by omega)]; omega
  have k4 : decide ((a : Int) < ((m + 1 : Nat) : Int)) = false := bu_lt hf
  have k5 : decide (a < m + 1) = false := decide_eq_false (Nat.not_lt.2 hf)
  have k6 : decide ((a : Int) < (m : Int) + 1) = false := bu_lt hf
  have H2 := Lib.hid (And.intro hbw2 (And.intro (H1.out.2.below hb2 H1.out.2.lt) (And.intro hKb (And.intro hKk (And.intro hm (And.intro hs1 hs2))))))
  have HC2 := Lib.hid (And.intro hcb (And.intro hck (And.intro hcbm hckm)))
  clear hpk hG hK hb2 hbw2 hlow hKb hKk hm hs1 hs2 hc3 hcl hc5 hf hcb hck hcbm hckm
  go_wp2_with fail
  refine hcn.mono ?_
  rintro e w3 ⟨rfl, hb3⟩
  have hbw3 := H2.out.1.trans (hb3.mono H2.out.1.size)
  have H3 := Lib.hid (And.intro hbw3 (And.intro (H2.out.2.1.below hb3 H2.out.2.1.lt) (And.intro (H2.out.2.2.1.near (Near.below hb3)) (H2.out.2.2.2.1.near (Near.below hb3)))))
  have hml : ((ppack l).2.map gkey).length = m := by rw [List.length_map]; exact H2.out.2.2.2.2.1.symm
  have hst : BuRel w3 q G D R ((ppack l).2.map gkey) (.int .i64 0) (.slice none 0 0) (.slice none 0 0) w3 := ⟨0, q, [], [], Nat.zero_le _, rfl, ⟨OwnsC.nil _ _ _ _, OwnsC.nil _ _ _ _, rfl, rfl, rfl, HW.out.1.below hbw3, Near.refl _ _, fun x hx => .inl hx, fun x hx => by cases hx⟩⟩
  have HS := Lib.hid (And.intro hst hml)
  clear hcn hb3 hbw3 hml hst k1 k2 k2'
  go_wp2_with fail
  go_loopw [14, 15, 57] (fun v14 v15 v57 wr => BuRel w3 q G D R ((ppack l).2.map gkey) v57 v14 v15 wr) (fun _ _ v57 _ => m - (intOf v57).toNat)
  case atStart => exact HS.out.1
  case round =>
    obtain ⟨i, qi, sp1, sp2, hi, rfl, hA⟩ := hrel
    rw [HS.out.2] at hi
    by_cases hlt : i < m
    case neg =>
      have hok := HW.out.2.2.2.2.2.1
      obtain ⟨hne, hn64, -, hall, hpg⟩ := ppack_ok hok
      have hm15 : m ≤ 15 := by rw [H2.out.2.2.2.2.1, hpg]; exact pgroups_few hall hn64
      rw [← HN.out] at hn64
      have hn1 : 1 ≤ n := by
        rw [HN.out]; exact Nat.pos_of_ne_zero (fun e => hne (List.eq_nil_of_length_eq_zero e))
      obtain rfl : i = m := by omega
      have hput := HW.out.2.2.2.2.2.2.1.index
      rw [List.length_map, ← H2.out.2.2.2.2.1] at hput
      rw [List.take_of_length_le (by rw [HS.out.2]; exact Nat.le_refl _)] at hA
      have hkl := kbytes_le ((ppack l).2.map gkey) (fun k hk => (gkey_ok hok hk).2)
      rw [HS.out.2] at hkl
      obtain ⟨A14, c14, h14, -, -, hr14, -⟩ := OwnsC.reads hA.refs
      rw [List.length_map, List.length_range] at h14
      obtain ⟨A15, c15, h15, -, -, hb15⟩ := OwnB.open_ hA.ix
      have hgw := gwrite_any hA.grid 2 s A14 A15 i c14 (kbytes ((ppack l).2.map gkey)).length c15 ((List.range i).map R) (kbytes ((ppack l).2.map gkey)) (by simp) rfl (by simp; omega) (by omega) (Refs.of hr14) hb15 (Tab.near (HW.out.2.1.below H3.out.1) hA.near HW.out.2.2.1)
      rw [hput, hA.gg] at hgw
      subst h14 h15
      obtain ⟨p0, hp0, rfl⟩ := HW.out.2.2.2.2.2.2.2.1
      obtain ⟨p1, hp1, rfl⟩ := HW.out.2.2.2.2.2.2.2.2
      have hq0 := pok_spec (List.all_eq_true.1 hall p0 (List.mem_of_getElem? hp0))
      have hq1 := pok_spec (List.all_eq_true.1 hall p1 (List.mem_of_getElem? hp1))
      obtain ⟨hp0l, hp0e⟩ := List.getElem?_eq_some_iff.1 hp0
      obtain ⟨hp1l, hp1e⟩ := List.getElem?_eq_some_iff.1 hp1
      have hX0 := HW.out.2.2.2.2.1 0 hp0l (by rw [hp0e]; exact hq0.1)
      have hX1 := HW.out.2.2.2.2.1 (l.length - 1) hp1l (by rw [hp1e]; exact hq1.1)
      rw [hp0e] at hX0
      rw [hp1e, ← HN.out] at hX1
      have HBW := Lib.hid (show ∀ ad, A = some ad → ad.block < w.heap.size from fun ad e => by
        obtain ⟨b, off, ad1, c1, e1, -, k, -⟩ := hX0
        rw [e] at e1; injection e1 with e1; subst e1
        exact World.block_lt_of_cell? _ _ k)
      have HI := Lib.hid (And.intro hA (And.intro (hX0.near (Near.below H3.out.1)) (And.intro (hX1.near (Near.below H3.out.1)) (And.intro (show p0.1.length ≤ 32 from hq0.2.1) (show p1.1.length ≤ 32 from hq1.2.1)))))
      have kn : wrap64 ((n : Int) - 1) = ((n - 1 : Nat) : Int) := by rw [w64_in (by omega)]; omega
      clear hA hput hkl hr14 hb15 hq0 hq1 hp0l hp0e hp1l hp1e hp0 hp1 hX0 hX1 hall hpg hne hok
      go_wp2_with fail
      refine hgw.mono ?_
      rintro e w5 ⟨rfl, hp5⟩
      obtain ⟨q5, hA5⟩ := HI.out.1.wrote hp5
      have hP5 : GPost w q (G (i + 1)) (D (i + 1)) none w5 := GPost.trans1 H3.out.1 ⟨q5, hA5.gg, hA5.p, hA5.gf, hA5.grid, hA5.near, hA5.all⟩
      have hg65 := H3.out.2.1.near hA5.near (HW.out.1.offRef (Nat.le_refl _))
      have hx0 := HI.out.2.1.near hA5.near
      have hx1 := HI.out.2.2.1.near hA5.near
      have hb6 := (Below.refl w5.heap.size w5).alloc (Nat.le_refl _) (.cells #[.int .i64 root.1, .int .i64 root.2.1] 33)
      have hb20 := Blk.new w5 33 #[.int .i64 root.1, .int .i64 root.2.1]
      have H5 := Lib.hid (And.intro (hP5.below hb6) (And.intro (hg65.below hb6 hg65.lt) (And.intro (hx0.near (Near.below hb6)) (hx1.near (Near.below hb6)))))
      clear hgw hp5 hA5 hP5 hg65 hx0 hx1 hb6
      go_wp2_with fail
      obtain ⟨b, off, ad0, c0, rfl, -, d0, hc0, hc0m, hB0, -⟩ := H5.out.2.2.1
      obtain ⟨b', off', ad1, c1, e1, -, d1, hc1, hc1m, hB1, -⟩ := H5.out.2.2.2
      injection e1 with e1
      obtain ⟨rfl, rfl⟩ : b = b' ∧ off = off' := by injection e1 with e1 e2; exact ⟨e1, e2⟩
      have H6 := Lib.hid (And.intro hB0 hB1)
      have hw6 : Below (w5.alloc (.cells #[.int .i64 root.1, .int .i64 root.2.1] 33)).heap.size (w5.alloc (.cells #[.int .i64 root.1, .int .i64 root.2.1] 33)) (w5.alloc (.cells #[.int .i64 root.1, .int .i64 root.2.1] 33)).drew := (Below.refl _ _).drew
      have HW6 := Lib.hid hw6
      have hc : Blk (w5.alloc (.cells #[.int .i64 root.1, .int .i64 root.2.1] 33)).drew w5.heap.size 33 #[.int .i64 root.1, .int .i64 root.2.1] ∧ (w5.alloc (.cells #[.int .i64 root.1, .int .i64 root.2.1] 33)).drew.cell? ⟨b, off + 0 * 3, none⟩ = some (.slice (some ad0) p0.1.length c0) ∧ (w5.alloc (.cells #[.int .i64 root.1, .int .i64 root.2.1] 33)).drew.cell? ⟨b, off + (n - 1) * 3, none⟩ = some (.slice (some ad1) p1.1.length c1) := ⟨hb20, d0, d1⟩
      have hlt0 := World.block_lt_of_cell? _ _ d0
      clear d0 d1 hc0 hc0m hc1 hc1m hB0 hB1 e1 hb20 hw6 hm15 hlt hi
      generalize (w5.alloc (.cells #[.int .i64 root.1, .int .i64 root.2.1] 33)) = w6 at H5 H6 HW6 hc hlt0 ⊢
      refine wp_region_tree (fun w' => Blk w' w5.heap.size 33 #[.int .i64 root.1, .int .i64 root.2.1] ∧ w'.cell? ⟨b, off + 0 * 3, none⟩ = some (.slice (some ad0) p0.1.length c0) ∧ w'.cell? ⟨b, off + (n - 1) * 3, none⟩ = some (.slice (some ad1) p1.1.length c1)) [] (PlanT.takes [1, 2, 3, 4, 5, 8, 9, 10, 11, 12, 13] (PlanT.takes [0, 6, 14] (.opt 7 (.opt 15 (PlanT.takes [16] (.opt 17 (PlanT.takes [18] .done) .no)) .no) .no))) (by kernel_rfl) (by kernel_rfl) (hc) ?_
      refine wpTree_pure _ _ _ (by rfl) (by rfl) ?_
      dsimp only [List.filterMap, List.getElem?_cons_zero, List.getElem?_cons_succ]
      repeat (go_big_quiet_step (fail))
      refine wpQuiet_nil ?_
      refine wpTree_takeL _ _ _ (by rfl) (by rfl) (hc) ?_
      dsimp only [List.filterMap, List.getElem?_cons_zero, List.getElem?_cons_succ]
      (refine wpQuiet_load_blk (fun w' hw' => hw'.1) (by rfl) _ _ (by rfl) (by rfl) _ Tryd.underlying33 (by rfl) (size_ref) (by rfl) ?_; simp only [Act.put, List.setIfInBounds_toArray, List.set_cons_zero, List.set_cons_succ])
      (refine wpQuiet_load_cell (fun w' hw' => hw'.2.1) (by rfl) _ _ (by rfl) (by rfl) _ Tryd.underlying22 (by rfl) ?_; simp only [Act.put, List.setIfInBounds_toArray, List.set_cons_zero, List.set_cons_succ])
      (refine wpQuiet_load_cell (fun w' hw' => hw'.2.2) (by rfl) _ _ (by rfl) (by rfl) _ Tryd.underlying22 (by rfl) ?_; simp only [Act.put, List.setIfInBounds_toArray, List.set_cons_zero, List.set_cons_succ])
      refine wpQuiet_nil ?_
      refine wpTree_one _ rfl ?_
      go_wp2_with fail
      refine (bclone_any ad0 c0 p0.1 _ (Bytes.below H6.out.1 HW6.out) (by have := HI.out.2.2.2.1; omega)).mono ?_
      rintro e w7 ⟨fv, sf, rfl, hof, hb7⟩
      obtain ⟨Af, cf, rfl, -, -, -⟩ := OwnB.open_ hof
      have hs7 : Below w6.heap.size w6 w7 := HW6.out.trans hb7
      have hc7 : Blk w7 w5.heap.size 33 #[.int .i64 root.1, .int .i64 root.2.1] ∧ w7.cell? ⟨b, off + 0 * 3, none⟩ = some (.slice (some ad0) p0.1.length c0) ∧ w7.cell? ⟨b, off + (n - 1) * 3, none⟩ = some (.slice (some ad1) p1.1.length c1) := ⟨hc.1.below hb7 hc.1.lt, (hb7.cell (p := ⟨b, off + 0 * 3, none⟩) hlt0).trans hc.2.1, (hb7.cell (p := ⟨b, off + (n - 1) * 3, none⟩) hlt0).trans hc.2.2⟩
      have H7 := Lib.hid (And.intro hof (And.intro hs7 (And.intro trivial (H5.out.2.1.below hs7 H5.out.2.1.lt))))
      clear hof hb7 hs7 hc
      go_wp2_with fail
      refine TreeQ.in_ hc7 ?_
      refine wpTree_one _ rfl ?_
      go_wp2_with fail
      refine (bclone_any ad1 c1 p1.1 _ (Bytes.below H6.out.2 H7.out.2.1) (by have := HI.out.2.2.2.2; omega)).mono ?_
      rintro e w8 ⟨lv, sl, rfl, hol, hb8⟩
      obtain ⟨Al, cl, rfl, -, -, -⟩ := OwnB.open_ hol
      have hs8 : Below w6.heap.size w6 w8 := H7.out.2.1.trans (hb8.mono H7.out.2.1.size)
      have hc8 : Blk w8 w5.heap.size 33 #[.int .i64 root.1, .int .i64 root.2.1] ∧ w8.cell? ⟨b, off + 0 * 3, none⟩ = some (.slice (some ad0) p0.1.length c0) ∧ w8.cell? ⟨b, off + (n - 1) * 3, none⟩ = some (.slice (some ad1) p1.1.length c1) := ⟨hc7.1.below hb8 hc7.1.lt, (hb8.cell (p := ⟨b, off + 0 * 3, none⟩) (Nat.lt_of_lt_of_le hlt0 H7.out.2.1.size)).trans hc7.2.1, (hb8.cell (p := ⟨b, off + (n - 1) * 3, none⟩) (Nat.lt_of_lt_of_le hlt0 H7.out.2.1.size)).trans hc7.2.2⟩
      have hg68 := H7.out.2.2.2.below hb8 H7.out.2.2.2.lt
      have hwsz : w.heap.size ≤ w6.heap.size := by have := H5.out.2.1.lt; omega
      have H8 := Lib.hid (And.intro (OwnsC.base_ (OwnsC.ownBelow H7.out.1 hb8) (Nat.le_trans hwsz HW6.out.size)) (And.intro (OwnsC.base_ hol (Nat.le_trans hwsz H7.out.2.1.size)) (And.intro (H5.out.1.below hs8) hs8.size)))
      clear hol hb8 hs8 hc7
      go_wp2_with fail
      refine TreeQ.in_ hc8 ?_
      refine wpTree_pure _ _ _ (by rfl) (by rfl) ?_
      dsimp only [List.filterMap, List.getElem?_cons_zero, List.getElem?_cons_succ]
      repeat (go_big_quiet_step (fail))
      refine wpQuiet_nil ?_
      refine wpTree_one _ rfl ?_
      go_wp2_with (first
        | ((with_reducible show wpList _ _ _ ((⟨none, _, _, _, _, _⟩ : Oper) :: _) _ _); refine wpList_store_blk (o := ⟨none, _, _, _, _, _⟩) (hg68) (by rfl) _ _ _ (by rfl) (by rfl) (#[.int .i64 root.1, .int .i64 root.2.1, .int .i64 (n : Int), .slice Af p0.1.length cf, .slice Al p1.1.length cl]) (by rfl) (sizeRun) (by rfl) (by rfl) (by simp [Value.oneCell']) ?_; intro w9 h9 hu9; refine stopped ?_)
        | fail)
      refine Stopped.mk ?_
      have hc9 : Blk w9 w5.heap.size 33 #[.int .i64 root.1, .int .i64 root.2.1] ∧ w9.cell? ⟨b, off + 0 * 3, none⟩ = some (.slice (some ad0) p0.1.length c0) ∧ w9.cell? ⟨b, off + (n - 1) * 3, none⟩ = some (.slice (some ad1) p1.1.length c1) := by
        have hne : b ≠ w.heap.size := by have := HBW.out _ rfl; exact fun e => by rw [e] at this; exact Nat.lt_irrefl _ this
        have hbk := hu9.block b hne
        exact ⟨hc8.1.upd hu9 (hc8.1.apart hg68 (by decide)), (World.cell?_of_block hbk).trans hc8.2.1, (World.cell?_of_block hbk).trans hc8.2.2⟩
      have hup := H8.out.2.2.1.upd hu9 (Nat.le_refl _) (fun q' hq' => hq'.offT hg68 (by decide))
      have hf9 := OwnB.upd H8.out.1 hu9 (fun e => by obtain ⟨cs, hb⟩ := ownBlk H8.out.1 e; exact hb.apart hg68 (by decide) rfl)
      have hl9 := OwnB.upd H8.out.2.1 hu9 (fun e => by obtain ⟨cs, hb⟩ := ownBlk H8.out.2.1 e; exact hb.apart hg68 (by decide) rfl)
      have H9 := Lib.hid (And.intro hup (And.intro hf9 hl9))
      clear hup hf9 hl9 hu9 hc8 hg68
      go_wp2_with fail
      refine TreeQ.in_ hc9 ?_
      refine wpTree_pure _ _ _ (by rfl) (by rfl) ?_
      dsimp only [List.filterMap, List.getElem?_cons_zero, List.getElem?_cons_succ]
      repeat (go_big_quiet_step (fail))
      refine wpQuiet_nil ?_
      refine wpTree_done ?_
      clear hc9
      go_wp2_with fail
      refine bodyPost_ret (results_row_tmp (by rfl) _ _ w.heap.size _ _ _ (by rfl) h9 Tryd.underlying35 (by rfl) sizeRun) rfl ?_
      refine ⟨_, _, sf, sl, rfl, H9.out.2.1, H9.out.2.2, ?_⟩
      rw [← H2.out.2.2.2.2.1]
      exact H9.out.1
    have hok := HW.out.2.2.2.2.2.1
    have hlb : i < ((ppack l).2.map gbody).length := by rw [List.length_map, ← H2.out.2.2.2.2.1]; exact hlt
    have hlk : i < ((ppack l).2.map gkey).length := by rw [HS.out.2]; exact hlt
    obtain ⟨bb, ob, hAbe, hbb, hbc⟩ := (H3.out.2.2.1.near hA.near) (by omega)
    obtain ⟨kb, ko, hAke, hkb, hkc⟩ := H3.out.2.2.2 (by omega)
    subst hAbe hAke
    obtain ⟨A1, c1, d1, hc1, hc1m, hB1, -⟩ := hbc i hlb
    obtain ⟨A2, c2, d2, hc2, hc2m, hB2, hN2⟩ := hkc i hlk
    have hput := HW.out.2.2.2.2.2.2.1.data i hlb
    have hbl := gbody_ok hok (List.getElem_mem hlb)
    have hkl := (gkey_ok hok (List.getElem_mem hlk)).2
    have hkt := kbytes_take hlk
    have hil : (kbytes (((ppack l).2.map gkey).take i)).length ≤ 33 * 512 := by
      have := kbytes_le (((ppack l).2.map gkey).take i) (fun k hk => (gkey_ok hok (List.mem_of_mem_take hk)).2)
      rw [List.length_take] at this
      omega
    generalize ((ppack l).2.map gbody)[i] = bd at d1 hc1 hB1 hput hbl
    generalize hky : ((ppack l).2.map gkey)[i] = ky at d2 hc2 hB2 hN2 hkl hkt
    have hgw := gwrite_any hA.grid 1 s none A1 0 0 bd.length c1 [] bd rfl rfl (by simp) (by omega) (fun h => absurd h (by simp)) hB1 (Tab.near (HW.out.2.1.below H3.out.1) hA.near HW.out.2.2.1)
    rw [hput, hA.gg] at hgw
    have hlt3 : kb < w3.heap.size := World.block_lt_of_cell? _ _ d2
    have HI := Lib.hid (And.intro hA (And.intro hkt (And.intro hil (And.intro d2 (And.intro hlt3 (And.intro hkb (And.intro hB2 hN2)))))))
    have hk256 : ky.length < 256 := by omega
    clear hA hkt hky hil hbc hkc hB1 hB2 hN2 hput hc1m hc2m hc1 hc2 d2 hbb hkb hlt3
    clear hlk hlb
    go_wp2_with fail
    refine hgw.mono ?_
    rintro e w5 ⟨rfl, hp5⟩
    obtain ⟨q5, hA5⟩ := HI.out.1.wrote hp5
    have hA6 := hA5.below ((Below.refl _ _).alloc (Nat.le_refl _) (.cells #[.int .i64 (R i).1, .int .i64 (R i).2.1] 33))
    have hA7 := hA6.below ((Below.refl _ _).alloc (Nat.le_refl _) (.cells #[.int .i64 (R i).1, .int .i64 (R i).2.1] 33))
    have hb18 := Blk.new w5 33 #[.int .i64 (R i).1, .int .i64 (R i).2.1]
    have hra : Reads ((w5.alloc (.cells #[.int .i64 (R i).1, .int .i64 (R i).2.1] 33)).alloc (.cells #[.int .i64 (R i).1, .int .i64 (R i).2.1] 33)) (some ⟨w5.heap.size + 1, 0, none⟩) [.int .i64 (R i).1, .int .i64 (R i).2.1] := by
      have := reads_new (w5.alloc (.cells #[.int .i64 (R i).1, .int .i64 (R i).2.1] 33)) 33 [.int .i64 (R i).1, .int .i64 (R i).2.1]
      simpa using this
    have H7 := Lib.hid (And.intro hA7 hra)
    clear hgw hp5 hA5 hA6 hA7 hra
    go_wp2_with (first
      | ((with_reducible show wpList _ _ _ ((⟨some 74, _, _, _, _, _⟩ : Oper) :: _) _ _); refine wpList_load_blk (o := ⟨some 74, _, _, _, _, _⟩) (hb18) (by rfl) _ _ (by rfl) (by rfl) _ Tryd.underlying33 (by rfl) (size_ref) (by rfl) ?_)
      | ((with_reducible show wpList _ _ _ ((⟨some 76, _, _, _, _, _⟩ : Oper) :: _) _ _); refine wpList_append_vals (o := ⟨some 76, _, _, _, _, _⟩) (by rfl) _ _ _ (by rfl) w3.heap.size 33 (.agg #[.int .i64 0, .int .i64 0]) 2 16 Tryd.underlying28 infoRef (by rfl) (by omega) u14 i (refCells ((List.range i).map R)) sp1 (by rfl) (by have := H7.out.1.refs; rwa [List.length_map, List.length_range] at this) (some ⟨w5.heap.size + 1, 0, none⟩) 1 1 [.int .i64 (R i).1, .int .i64 (R i).2.1] (by rfl) (by rfl) H7.out.2 (by simp [Value.oneCell']) (by simp only [maxLen]; omega) (by omega) H7.out.1.near.size ?_; intro v' W8 sp8 ho8 hg8 hv8 hn8; refine stopped ?_)
      | fail)
    refine Stopped.mk ?_
    have hA8 := H7.out.1.ref (r := R i) (by rw [List.length_map, List.length_range]; exact ho8) hg8 hv8
    rw [show (List.range i).map R ++ [R i] = (List.range (i + 1)).map R by rw [List.range_succ, List.map_append]; rfl] at hA8
    have hA9 := hA8.below (Below.refl W8.heap.size W8).drew
    have hc9 : W8.drew.cell? ⟨kb, ko + i, none⟩ = some (.slice A2 ky.length c2) := (hA9.near.cell (p := ⟨kb, ko + i, none⟩) HI.out.2.2.2.2.1 HI.out.2.2.2.2.2.1).trans HI.out.2.2.2.1
    have H9 := Lib.hid hA8
    obtain ⟨A8, c8, rfl, -, -, -, -⟩ := OwnsC.reads ho8
    clear hA8 hA9 ho8 hg8 hv8 hn8 hb18 H7 d1
    go_wp2_with fail
    refine wp_region_tree (fun w' => w'.cell? ⟨kb, ko + i, none⟩ = some (.slice A2 ky.length c2)) [] (PlanT.takes [0, 1, 2, 3, 9, 10, 11] (PlanT.takes [4, 12] (PlanT.takes [5, 6] (.opt 7 (.opt 8 (.opt 13 (PlanT.takes [14] .done) .no) .no) .no)))) (by kernel_rfl) (by kernel_rfl) (hc9) ?_
    refine wpTree_pure _ _ _ (by rfl) (by rfl) ?_
    dsimp only [List.filterMap, List.getElem?_cons_zero, List.getElem?_cons_succ]
    repeat (go_big_quiet_step (fail))
    refine wpQuiet_nil ?_
    refine wpTree_takeL _ _ _ (by rfl) (by rfl) (hc9) ?_
    dsimp only [List.filterMap, List.getElem?_cons_zero, List.getElem?_cons_succ]
    (refine wpQuiet_load_cell (fun w' hw' => hw') (by rfl) _ _ (by rfl) (by rfl) _ Tryd.underlying22 (by rfl) ?_; simp only [Act.put, List.setIfInBounds_toArray, List.set_cons_zero, List.set_cons_succ])
    (refine wpQuiet_load_cell (fun w' hw' => hw') (by rfl) _ _ (by rfl) (by rfl) _ Tryd.underlying22 (by rfl) ?_; simp only [Act.put, List.setIfInBounds_toArray, List.set_cons_zero, List.set_cons_succ])
    refine wpQuiet_nil ?_
    refine wpTree_pure _ _ _ (by rfl) (by rfl) ?_
    dsimp only [List.filterMap, List.getElem?_cons_zero, List.getElem?_cons_succ]
    repeat (go_big_quiet_step (fail))
    refine wpQuiet_nil ?_
    refine wpTree_one _ rfl ?_
    go_wp2_with fail
    have hb10 : Below W8.heap.size W8 (W8.alloc (.cells #[.int .u8 (ky.length : Int)] 5)).drew := ((Below.refl W8.heap.size W8).alloc (Nat.le_refl _) _).drew
    have hA10 := H9.out.below hb10
    have hlit : Bytes (W8.alloc (.cells #[.int .u8 (ky.length : Int)] 5)).drew (some ⟨W8.heap.size, 0, none⟩) [UInt8.ofNat ky.length] := lit_bytesN W8 _ _ rfl hk256
    have hc10 := (hA10.near.cell (p := ⟨kb, ko + i, none⟩) HI.out.2.2.2.2.1 HI.out.2.2.2.2.2.1).trans HI.out.2.2.2.1
    have H10 := Lib.hid (And.intro hA10 hlit)
    clear hb10 hA10 hlit hc9
    generalize (W8.alloc (.cells #[.int .u8 (ky.length : Int)] 5)).drew = w10 at H10 hc10 ⊢
    have hil := HI.out.2.2.1
    refine TreeQ.in_ hc10 ?_
    refine wpTree_one _ rfl ?_
    go_wp2_with (first
      | ((with_reducible show wpList _ _ _ ((⟨some 85, _, _, _, _, _⟩ : Oper) :: _) _ _); refine wpList_append_bytes (o := ⟨some 85, _, _, _, _, _⟩) (by rfl) _ _ _ (by rfl) (w3.heap.size) _ Tryd.underlying22 u8info (u15) (kbytes (((ppack l).2.map gkey).take i)) (sp2) (by rfl) (H10.out.1.ix) (some ⟨W8.heap.size, 0, none⟩) (1) ([UInt8.ofNat ky.length]) (by first | rfl | simp) (H10.out.2) (by first | omega | (simp; omega)) (H10.out.1.near.size) ?_; intro v11 w11 sp11 ho11 hg11 _ _; refine stopped ?_)
      | fail)
    refine Stopped.mk ?_
    have hA11 := H10.out.1.more ho11 hg11
    have hc11 := (hA11.near.cell (p := ⟨kb, ko + i, none⟩) HI.out.2.2.2.2.1 HI.out.2.2.2.2.2.1).trans HI.out.2.2.2.1
    have hby11 := bytes_nearN HI.out.2.2.2.2.2.2.1 hA11.near HI.out.2.2.2.2.2.2.2
    have H11 := Lib.hid (And.intro hA11 hby11)
    obtain ⟨A11, c11, rfl, -, -, -⟩ := OwnB.open_ ho11
    clear ho11 hg11 hA11 hby11 hc10
    go_wp2_with fail
    refine TreeQ.in_ hc11 ?_
    refine wpTree_one _ rfl ?_
    go_wp2_with (first
      | ((with_reducible show wpList _ _ _ ((⟨some 90, _, _, _, _, _⟩ : Oper) :: _) _ _); refine wpList_append_bytes (o := ⟨some 90, _, _, _, _, _⟩) (by rfl) _ _ _ (by rfl) (w3.heap.size) _ Tryd.underlying22 u8info (_) (kbytes (((ppack l).2.map gkey).take i) ++ [UInt8.ofNat ky.length]) (sp11) (by rfl) (H11.out.1.ix) (A2) (c2) (ky) (by first | rfl | simp) (H11.out.2) (by first | omega | (simp; omega)) (H11.out.1.near.size) ?_; intro v12 w12 sp12 ho12 hg12 _ _; refine stopped ?_)
      | fail)
    refine Stopped.mk ?_
    have hA12 := H11.out.1.more ho12 hg12
    have hc12 := (hA12.near.cell (p := ⟨kb, ko + i, none⟩) HI.out.2.2.2.2.1 HI.out.2.2.2.2.2.1).trans HI.out.2.2.2.1
    rw [← HI.out.2.1] at hA12
    have H12 := Lib.hid hA12
    clear ho12 hg12 hA12 hc11
    go_wp2_with fail
    refine TreeQ.in_ hc12 ?_
    refine wpTree_pure _ _ _ (by rfl) (by rfl) ?_
    dsimp only [List.filterMap, List.getElem?_cons_zero, List.getElem?_cons_succ]
    repeat (go_big_quiet_step (fail))
    refine wpQuiet_nil ?_
    refine wpTree_done ?_
    clear hc12
    go_wp2_with fail
    go_roundw
    case rel => exact ⟨i + 1, q5, sp8, sp12, by rw [HS.out.2]; exact hlt, rfl, H12.out⟩
    case measure => exact meas_up (i := i) (m := m) rfl rfl hlt
end Go.Proofs.YtgkljncigbiffaaDoor

/- A list of refs is cloned; what a grid wants is told: its Wanted. Conditions: the list can be read; the grid is known. -/
namespace Go.Proofs.YtgkljncigbiffaaDoor
open Go.RowKit
def RefsTold (l : List RefT) (w : World) (e : Ending) (w' : World) : Prop := ∃ A c, e = .returned (.slice A l.length c) ∧ Refs w' A l ∧ (∀ ad, A = some ad → w.heap.size ≤ ad.block) ∧ Below w.heap.size w w'
section
variable {w : World} {q : GPl} {g : Grd} {d : Dsk} {f : Option Fus}
end
end Go.Proofs.YtgkljncigbiffaaDoor

/- A block is written to a grid whose disk holds; a grid that a statement made. Plain facts of this program. No condition. -/
namespace Go.Proofs.YtgkljncigbiffaaDoor
open Go.RowKit
theorem gput_ok {g : Grd} {d : Dsk} {k s : Int} {l : List RefT} {m : List UInt8} (h : Rm d g.n) (hg : g.L.length = g.n) (hset : SetOk g.L) (hok : GB.ok (k, (1, s, ()), l, m, ()) = true) (he : acqE g.L = 0) :
    ∃ d', gput g d none k l m s = ((0, (acqN g.L, s, ())), { g with L := acqL g.L }, d', none) ∧ Rm d' g.n ∧ d'.N = d.N ∧ gblk d' (acqN g.L) = GB.bytes (k, (acqN g.L, s, ()), l, m, ()) ∧ ∀ c, 1 ≤ c → c ≤ (g.n : Int) → c ≠ acqN g.L → gblk d' c = gblk d c := by
  obtain ⟨h1, h2, h3⟩ := acq_range hset (show ¬ acqE g.L ≠ 0 by rw [he]; simp)
  have hok2 := GB.ok_at hok h1 h3
  obtain ⟨d', e1, e2, e3, e4, e5⟩ := gwrite h h1 (hg ▸ h2) (GB.bytes_length (k, (acqN g.L, s, ()), l, m, ()) (GB.ok_spec hok2).2.2.1 (GB.ok_spec hok2).2.2.2.1)
  refine ⟨d', ?_, e2, e3, e4, e5⟩
  unfold gput
  rw [if_neg (by unfold Dsk.isOut; rw [h.out]; simp), if_neg (by rw [hok]; simp), if_neg (by rw [he]; simp), e1, if_neg (by simp)]
/-- A grid that was made since, and its disk. -/
def GL (B : Nat) (w : World) (gp dp : Nat) (g : Grd) (d : Dsk) : Prop := ∃ q : GPl, q.gg = gp ∧ q.p.gd = dp ∧ q.gf = none ∧ GridR w q g d none ∧ ∀ x ∈ q.all, B ≤ x
section
variable {B gp dp : Nat} {w w' : World} {g : Grd} {d : Dsk}
theorem GL.below (h : GL B w gp dp g d) (k : Below w.heap.size w w') : GL B w' gp dp g d := by
  obtain ⟨q, h1, h2, h3, h4, h5⟩ := h
  exact ⟨q, h1, h2, h3, h4.below k, h5⟩
theorem GL.of_post {q : GPl} {g2 : Grd} {d2 : Dsk} {f : Option Fus} (e1 : q.gg = gp) (e2 : q.p.gd = dp) (e3 : q.gf = none) (e4 : ∀ x ∈ q.all, B ≤ x) (hs : B ≤ w.heap.size) (h : GPost w q g2 d2 f w') : GL B w' gp dp g2 d2 ∧ Below B w w' := by
  obtain ⟨q', k1, k2, k3, k4, k5, k6⟩ := h
  have hf : f = none := by
    have := k4.dk.fr
    rw [k3, e3] at this
    exact this.none_
  subst hf
  exact ⟨⟨q', k1.trans e1, (congrArg Pl.gd k2).trans e2, k3.trans e3, k4, fun x hx => (k6 x hx).elim (e4 x) (fun k => Nat.le_trans hs k)⟩, k5.toBelow e4 hs⟩
instance : KeepsTo w w' (GL B w gp dp g d) (GL B w' gp dp g d) := ⟨fun hb h => h.below hb⟩
end
end Go.Proofs.YtgkljncigbiffaaDoor

/- A table in a grid that was made: which blocks are written, and what is read out of them. Plain facts. No condition. -/
namespace Go.Proofs.YtgkljncigbiffaaDoor
open Go.RowKit
theorem cL_acq20 {n i : Nat} (h : i < n) (hn : n ≤ 20) : acqN (cL n i) = (i : Int) + 1 ∧ acqE (cL n i) = 0 ∧ acqL (cL n i) = cL n (i + 1) := by
  have key : ∀ m : Fin 21, ∀ j : Fin 21, j.1 < m.1 → acqN (cL m.1 j.1) = ((j.1 : Nat) : Int) + 1 ∧ acqE (cL m.1 j.1) = 0 ∧ acqL (cL m.1 j.1) = cL m.1 (j.1 + 1) := by decide +kernel
  exact key ⟨n, by omega⟩ ⟨i, by omega⟩ h
theorem cL_ok20 {n i : Nat} (h : i ≤ n) (hn : n ≤ 20) : SetOk (cL n i) ∧ (cL n i).length = n := by
  have hl : (cL n i).length = n := by unfold cL; simp; omega
  refine ⟨⟨by omega, fun k => ?_⟩, hl⟩
  unfold cL
  rw [List.getD_eq_getElem?_getD, List.getElem?_append]
  split
  · rw [List.getElem?_replicate]; split <;> simp
  · rw [List.getElem?_replicate]; split <;> simp
/-- The ref of a block; the blocks; the disk behind each. -/
def tk (s : Int) (i : Nat) : RefT := ((i : Int) + 1, s, ())
def tb (s : Int) (bs : List (List UInt8)) (ix : List UInt8) (i : Nat) : GBT := if i < bs.length then (1, tk s i, [], bs.getD i [], ()) else (2, tk s i, (List.range bs.length).map (tk s), ix, ())
def tG (n i : Nat) : Grd := ⟨n, cL n i, []⟩
def tD (n : Nat) (s : Int) (bs : List (List UInt8)) (ix : List UInt8) (d : Dsk) : Nat → Dsk
  | 0 => d
  | j + 1 => (gput (tG n j) (tD n s bs ix d j) none (tb s bs ix j).1 (tb s bs ix j).2.2.1 (tb s bs ix j).2.2.2.1 s).2.2.1
section
variable {n : Nat} {s : Int} {bs : List (List UInt8)} {ix : List UInt8} {d : Dsk} {N j : Nat}
theorem tk_ok (hs1 : 0 ≤ s) (hs2 : s ≤ 1073741824) {i : Nat} (hi : i < 512) : refOk (tk s i) = true := by
  show (decide (1 ≤ (i : Int) + 1) && decide ((i : Int) + 1 ≤ 512) && decide (0 ≤ s) && decide (s ≤ 1073741824)) = true
  simp only [Bool.and_eq_true, decide_eq_true_eq]
  omega
theorem tb_ok (hs1 : 0 ≤ s) (hs2 : s ≤ 1073741824) (hm : bs.length ≤ 16) (hb : ∀ b ∈ bs, b.length ≤ 860) (hix : ix.length ≤ 860) {i : Nat} (hi : i < 512) (r : RefT) (hr : refOk r = true) : GB.ok ((tb s bs ix i).1, r, (tb s bs ix i).2.2.1, (tb s bs ix i).2.2.2.1, ()) = true := by
  unfold tb
  by_cases h : i < bs.length
  · rw [if_pos h]
    simp only [GB.ok, Bool.and_eq_true, decide_eq_true_eq, List.all_eq_true]
    refine ⟨⟨⟨⟨⟨by omega, by omega⟩, hr⟩, by simp⟩, ?_⟩, by simp⟩
    rw [List.getD_eq_getElem?_getD, List.getElem?_eq_getElem h]
    exact hb _ (List.getElem_mem h)
  · rw [if_neg h]
    simp only [GB.ok, Bool.and_eq_true, decide_eq_true_eq, List.all_eq_true]
    refine ⟨⟨⟨⟨⟨by omega, by omega⟩, hr⟩, by simpa using hm⟩, hix⟩, fun x hx => ?_⟩
    obtain ⟨j, hj, rfl⟩ := List.mem_map.1 hx
    exact tk_ok hs1 hs2 (by have := List.mem_range.1 hj; omega)
/-- So many blocks were written. -/
structure TWr (n : Nat) (s : Int) (bs : List (List UInt8)) (ix : List UInt8) (N : Nat) (j : Nat) (d : Dsk) : Prop where
  rm : Rm d n
  N : d.N = N
  blk : ∀ i, i < j → gblk d ((i : Int) + 1) = GB.bytes (tb s bs ix i)
theorem tb_ref (i : Nat) : (tb s bs ix i).2.1 = tk s i := by unfold tb; split <;> rfl
theorem tput (hs1 : 0 ≤ s) (hs2 : s ≤ 1073741824) (hm : bs.length ≤ 16) (hb : ∀ b ∈ bs, b.length ≤ 860) (hix : ix.length ≤ 860) (hn : n ≤ 20) {N : Nat} (hd : Rm d n) (hN : d.N = N) : ∀ (j : Nat), j ≤ n → TWr n s bs ix N j (tD n s bs ix d j) ∧ (j < n → gput (tG n j) (tD n s bs ix d j) none (tb s bs ix j).1 (tb s bs ix j).2.2.1 (tb s bs ix j).2.2.2.1 s = ((0, tk s j), tG n (j + 1), tD n s bs ix d (j + 1), none)) := by
  have step : ∀ (j : Nat), j < n → TWr n s bs ix N j (tD n s bs ix d j) → TWr n s bs ix N (j + 1) (tD n s bs ix d (j + 1)) ∧ gput (tG n j) (tD n s bs ix d j) none (tb s bs ix j).1 (tb s bs ix j).2.2.1 (tb s bs ix j).2.2.2.1 s = ((0, tk s j), tG n (j + 1), tD n s bs ix d (j + 1), none) := fun j hj h => by
    obtain ⟨k1, k2, k3⟩ := cL_acq20 hj hn
    obtain ⟨k4, k5⟩ := cL_ok20 (Nat.le_of_lt hj) hn
    obtain ⟨d', e1, e2, e3, e4, e5⟩ := gput_ok (g := tG n j) (k := (tb s bs ix j).1) (s := s) (l := (tb s bs ix j).2.2.1) (m := (tb s bs ix j).2.2.2.1) h.rm k5 k4 (tb_ok hs1 hs2 hm hb hix (by omega) (1, s, ()) (tk_ok (i := 0) hs1 hs2 (by omega))) k2
    have eD : tD n s bs ix d (j + 1) = d' := by show (gput _ _ _ _ _ _ _).2.2.1 = d'; rw [e1]
    simp only [tG] at k1 k3 e1 e4 e5 ⊢
    rw [k1, k3] at e1
    rw [k1] at e4 e5
    refine ⟨⟨eD ▸ e2, by rw [eD, e3, h.N], fun i hi => ?_⟩, by rw [e1, eD]; rfl⟩
    rw [eD]
    by_cases hij : i = j
    · subst hij
      rw [e4, ← show (tb s bs ix i).2.1 = ((i : Int) + 1, s, ()) from tb_ref i]
    · rw [e5 ((i : Int) + 1) (by omega) (by show (i : Int) + 1 ≤ (n : Int); omega) (by omega)]
      exact h.blk i (by omega)
  have all : ∀ (j : Nat), j ≤ n → TWr n s bs ix N j (tD n s bs ix d j) := fun j => by
    induction j with
    | zero => exact fun _ => ⟨hd, hN, fun i hi => absurd hi (by omega)⟩
    | succ j ih => exact fun hj => (step j (by omega) (ih (by omega))).1
  exact fun j hj => ⟨all j hj, fun h => (step j h (all j hj)).2⟩
/-- All of a table is written. -/
theorem puts_new (hs1 : 0 ≤ s) (hs2 : s ≤ 1073741824) (hm : bs.length ≤ 16) (hb : ∀ b ∈ bs, b.length ≤ 860) (hix : ix.length ≤ 860) (hn : n ≤ 20) (hmn : bs.length + 1 ≤ n) (hd : Rm d n) : Puts s bs ix (tk s bs.length) (tG n) (tD n s bs ix d) (tk s) ∧ TWr n s bs ix d.N (bs.length + 1) (tD n s bs ix d (bs.length + 1)) := by
  refine ⟨⟨fun i h => ?_, ?_⟩, (tput hs1 hs2 hm hb hix hn hd rfl (bs.length + 1) hmn).1⟩
  · have := (tput hs1 hs2 hm hb hix hn hd rfl i (by omega)).2 (by omega)
    rw [show tb s bs ix i = (1, tk s i, [], bs[i], ()) by unfold tb; rw [if_pos h, List.getD_eq_getElem?_getD, List.getElem?_eq_getElem h]; rfl] at this
    exact this
  · have := (tput hs1 hs2 hm hb hix hn hd rfl bs.length (by omega)).2 (by omega)
    rw [show tb s bs ix bs.length = (2, tk s bs.length, (List.range bs.length).map (tk s), ix, ()) by unfold tb; rw [if_neg (Nat.lt_irrefl _)]] at this
    exact this
theorem tk_of (hs1 : 0 ≤ s) (hs2 : s ≤ 1073741824) {g : Grd} {i : Nat} (hi : i < g.n) : g.of (tk s i) = true := by
  show (decide (1 ≤ (i : Int) + 1) && (decide ((i : Int) + 1 ≤ (g.n : Int)) && (decide (0 ≤ s) && decide (s ≤ 1073741824)))) = true
  simp only [Bool.and_eq_true, decide_eq_true_eq]
  omega
/-- What is read. -/
theorem TWr.look (h : TWr n s bs ix N j d) (hs1 : 0 ≤ s) (hs2 : s ≤ 1073741824) (hm : bs.length ≤ 16) (hb : ∀ b ∈ bs, b.length ≤ 860) (hix : ix.length ≤ 860) (hn : n ≤ 20) {i : Nat} (hi : i < j) (hjn : j ≤ n) {g : Grd} (hg : g.n = n) : glook g d none (tk s i) = (0, some (tb s bs ix i), g) := by
  have hok : GB.ok (tb s bs ix i) = true := by
    have := tb_ok hs1 hs2 hm hb hix (i := i) (by omega) (tk s i) (tk_ok hs1 hs2 (by omega))
    rw [← tb_ref (bs := bs) (ix := ix) i] at this
    exact this
  have ht : gthere d (tk s i) = some (tb s bs ix i) := by
    rw [← tb_ref (bs := bs) (ix := ix) i]
    exact gthere_some hok (by rw [tb_ref]; exact h.blk i hi)
  unfold glook
  rw [if_neg (by unfold Dsk.isOut; rw [h.rm.out]; simp), if_neg (by rw [tk_of hs1 hs2 (by omega)]; simp), ht]
/-- The table of some pairs stands there. -/
theorem table_open {l : List PairT} (hp : (ppack l).1 = 0) (h : TWr n s ((ppack l).2.map gbody) (kbytes ((ppack l).2.map gkey)) N ((ppack l).2.length + 1) d) (hs1 : 0 ≤ s) (hs2 : s ≤ 1073741824) (hn : n ≤ 20) (hmn : (ppack l).2.length + 1 ≤ n) {g : Grd} (hg : g.n = n) :
    topen g d none (tk s (ppack l).2.length) = (0, ((List.range (ppack l).2.length).map (tk s), (ppack l).2.map gkey), g) ∧ ∀ i, (hi : i < (ppack l).2.length) → tdata g d none (tk s i) = (0, (ppack l).2[i], g) := by
  obtain ⟨p1, p2, p3, p4, p5⟩ := ppack_ok hp
  have hG := pgroups_ok p4
  have hm15 := pgroups_few p4 p2
  have hne := pgroups_ne p4 p1
  have hbd : ∀ b ∈ (ppack l).2.map gbody, b.length ≤ 860 := fun b hb => gbody_ok hp hb
  have hkl := kbytes_le ((ppack l).2.map gkey) (fun k hk => (gkey_ok hp hk).2)
  have hkk : ∀ k ∈ (ppack l).2.map gkey, k.length < 256 := fun k hk => by have := (gkey_ok hp hk).2; omega
  rw [p5] at h hmn hbd hkl hkk ⊢
  rw [List.length_map] at hkl
  have hlk := fun i hi => h.look hs1 hs2 (by rw [List.length_map]; omega) hbd (by omega) hn (i := i) hi hmn hg
  refine ⟨?_, fun i hi => ?_⟩
  · have hl := hlk (pgroups l).length (by omega)
    rw [show tb s ((pgroups l).map gbody) (kbytes ((pgroups l).map gkey)) (pgroups l).length = (2, tk s (pgroups l).length, (List.range (pgroups l).length).map (tk s), kbytes ((pgroups l).map gkey), ()) by unfold tb; rw [if_neg (by rw [List.length_map]; omega), List.length_map]] at hl
    rw [topen_some (b := (2, tk s (pgroups l).length, (List.range (pgroups l).length).map (tk s), kbytes ((pgroups l).map gkey), ())) (ks := (pgroups l).map gkey) (by rw [hl]) (kparse_kbytes _ hkk), if_pos ⟨rfl, by simp [hne], by simp⟩, hl]
  · have hl := hlk i (by omega)
    rw [show tb s ((pgroups l).map gbody) (kbytes ((pgroups l).map gkey)) i = (1, tk s i, [], gbody (pgroups l)[i], ()) by unfold tb; rw [if_pos (by rw [List.length_map]; exact hi), List.getD_eq_getElem?_getD, List.getElem?_map, List.getElem?_eq_getElem hi]; rfl] at hl
    have hgm := List.getElem_mem hi
    have hga : (pgroups l)[i].all pok = true := List.all_eq_true.2 fun x hx => List.all_eq_true.1 p4 x (by rw [← hG.flat]; exact List.mem_flatten.2 ⟨_, hgm, hx⟩)
    have hso : GrSo (pgroups l) := ⟨by rw [hG.flat]; exact psorted_pair p3, hG.ne⟩
    rw [tdata_some (b := (1, tk s i, [], gbody (pgroups l)[i], ())) (by rw [hl]), if_pos ⟨rfl, rfl⟩, hl, punpack_gbody hga (pair_psorted (hso.group _ hgm)) (hG.ne _ hgm)]
/-- What Get tells of it. -/
theorem table_get {l : List PairT} (hp : (ppack l).1 = 0) (h : TWr n s ((ppack l).2.map gbody) (kbytes ((ppack l).2.map gkey)) N ((ppack l).2.length + 1) d) (hs1 : 0 ≤ s) (hs2 : s ≤ 1073741824) (hn : n ≤ 20) (hmn : (ppack l).2.length + 1 ≤ n) {g : Grd} (hg : g.n = n) (key : List UInt8) :
    tget g d none (tk s (ppack l).2.length) key = ((match pfind l key with | none => 6 | some _ => 0), (pfind l key).getD pnone, g) ∧ ∀ a b : Nat, a ≤ b → b < (topen g d none (tk s (ppack l).2.length)).2.1.2.length → key < (topen g d none (tk s (ppack l).2.length)).2.1.2.getD a [] → key < (topen g d none (tk s (ppack l).2.length)).2.1.2.getD b [] := by
  obtain ⟨ho, hda⟩ := table_open hp h hs1 hs2 hn hmn hg
  obtain ⟨p1, p2, p3, p4, p5⟩ := ppack_ok hp
  have hG := pgroups_ok p4
  have hso : GrSo (pgroups l) := ⟨by rw [hG.flat]; exact psorted_pair p3, hG.ne⟩
  have hf := find_groups hso key
  rw [hG.flat] at hf
  rw [p5] at ho hda ⊢
  refine ⟨?_, fun a b hab hb hk => ?_⟩
  · unfold tget
    rw [ho]
    simp only
    rw [if_neg (by simp)]
    by_cases hk : kbef ((pgroups l).map gkey) key = 0
    · rw [if_pos hk, hf, if_pos hk]; rfl
    · have hkl := kbef_le ((pgroups l).map gkey) key
      rw [List.length_map] at hkl
      have hi : kbef ((pgroups l).map gkey) key - 1 < (pgroups l).length := by omega
      rw [if_neg hk, show ((List.range (pgroups l).length).map (tk s)).getD (kbef ((pgroups l).map gkey) key - 1) (0, 0, ()) = tk s (kbef ((pgroups l).map gkey) key - 1) by rw [List.getD_eq_getElem?_getD, List.getElem?_map, List.getElem?_range hi]; rfl, hda _ hi]
      simp only
      rw [if_neg (by simp), hf, if_neg hk, List.getD_eq_getElem?_getD, List.getElem?_eq_getElem hi]
      rfl
  · rw [ho] at hb hk ⊢
    simp only [List.length_map] at hb hk ⊢
    rw [List.getD_eq_getElem?_getD, List.getElem?_map, List.getElem?_eq_getElem (by omega)] at hk
    rw [List.getD_eq_getElem?_getD, List.getElem?_map, List.getElem?_eq_getElem hb]
    exact hso.mono key hab hb hk
end
end Go.Proofs.YtgkljncigbiffaaDoor

/- A table's blocks are told: the program's Blocks. Condition: the grid is known. -/
namespace Go.Proofs.YtgkljncigbiffaaDoor
open Go.RowKit
/-- What Blocks tells. -/
def tblocks (g : Grd) (d : Dsk) (f : Option Fus) (r : RefT) : Int × List RefT × Grd :=
  if (topen g d f r).1 ≠ 0 then ((topen g d f r).1, [], (topen g d f r).2.2) else (0, r :: (topen g d f r).2.1.1, (topen g d f r).2.2)
section
variable {w : World} {q : GPl} {g : Grd} {d : Dsk} {f : Option Fus}
set_option maxRecDepth 100000 in
set_option maxHeartbeats 2000000 in
theorem tblocks_any (h : GridR w q g d f) (hlen : g.W.length ≤ 1099511627776) (r : RefT) (n : Int) (F L : Option Addr) (nf cf nl cl : Nat) :
    Calls Tryd.prog 14 #[.pointer (some ⟨q.gg, 0, none⟩), .agg (runv r n F L nf cf nl cl)] w fun e w' => ∃ (v : Value) (sp : List Value), e = .returned (.tuple #[v, .int .i64 (tblocks g d f r).1]) ∧ OwnsC 33 2 w' w.heap.size v (tblocks g d f r).2.1.length (refCells (tblocks g d f r).2.1) sp ∧ LPost w q (decide ((tblocks g d f r).1 = 0)) (tblocks g d f r).2.2 d f w' := by
  have hb1 := (Below.refl w.heap.size w).alloc (Nat.le_refl _) (.cells (runv r n F L nf cf nl cl) 35)
  have hg3 := Blk.new w 35 (runv r n F L nf cf nl cl)
  have hop := topen_any (h.below hb1) hlen r n F L nf cf nl cl
  obtain ⟨T, hT⟩ : ∃ T, T = tblocks g d f r := ⟨_, rfl⟩
  rw [← hT]
  have HG := Lib.hid h
  have H0 := Lib.hid (And.intro hb1 (And.intro hg3 (And.intro (h.below hb1) hT)))
  clear h hb1 hlen hT
  unfold runv at H0 hg3 hop ⊢
  go_enter Tryd.func14, Tryd.ntmps14
  go_wp2_with (first
    | ((with_reducible show wpList _ _ _ ((⟨some 10, _, _, _, _, _⟩ : Oper) :: _) _ _); refine wpList_load_blk (o := ⟨some 10, _, _, _, _, _⟩) (hg3) (by rfl) _ _ (by rfl) (by rfl) _ Tryd.underlying35 (by rfl) (sizeRun) (by rfl) ?_)
    | fail)
  refine hop.mono ?_
  rintro e w2 ⟨A, c, K, ck, rfl, hI, hL⟩
  have hg32 := hL.1.blk H0.out.2.2.1 H0.out.2.1 (by decide)
  have hz0 := @topen_zero g d f r
  obtain ⟨cd, hcd⟩ : ∃ cd, cd = (topen g d f r).1 := ⟨_, rfl⟩
  obtain ⟨x, hx⟩ : ∃ x, x = (topen g d f r).2.1 := ⟨_, rfl⟩
  obtain ⟨g2, hg2⟩ : ∃ g2, g2 = (topen g d f r).2.2 := ⟨_, rfl⟩
  have HT := Lib.hid (show T = if cd ≠ 0 then (cd, [], g2) else (0, r :: x.1, g2) by rw [H0.out.2.2.2, hcd, hx, hg2]; rfl)
  rw [← hcd, ← hx, ← hg2] at hz0
  rw [← hx] at hI
  rw [← hcd, ← hg2] at hL
  rw [← hcd, ← hx]
  have HP := Lib.hid (And.intro (GPost.trans1 H0.out.1 hL.1) (And.intro (show cd = 0 → Below w.heap.size w w2 from fun e => H0.out.1.trans ((hL.2 (decide_eq_true e)).mono H0.out.1.size)) hz0))
  clear hop hg3 hcd hx hg2 hL hz0
  unfold indc
  have hb3 := (Below.refl w2.heap.size w2).alloc (Nat.le_refl _) (.cells #[.slice A x.1.length c, .slice K x.2.length ck] 128)
  by_cases hc0 : cd = 0
  case neg =>
    have kc : (cd != 0) = true := bne_iff_ne.2 hc0
    have HF := Lib.hid (HT.out.trans (if_pos hc0))
    have HP3 := Lib.hid (HP.out.1.below hb3)
    have HN := Lib.hid hc0
    clear hc0 hb3 hI hg32
    go_wp2_with fail
    refine bodyPost_ret (results_tmp2 rfl _ _ _) rfl ?_
    refine ⟨.slice none 0 0, [], by rw [HF.out]; rfl, by rw [HF.out]; exact OwnsC.nil _ _ _ _, ?_⟩
    rw [HF.out]
    exact ⟨HP3.out, fun e => absurd (of_decide_eq_true e) HN.out⟩
  subst hc0
  have HF := Lib.hid (HT.out.trans (if_neg (by simp)))
  have hx6 := (Blk.new w2 128 #[.slice A x.1.length c, .slice K x.2.length ck]).alloc (.cells #[.int .i64 r.1, .int .i64 r.2.1] 33)
  have d6 := (Blk.new w2 128 #[.slice A x.1.length c, .slice K x.2.length ck]).at_ 0 (v := .slice A x.1.length c) rfl
  have hr3 := hg32.alloc (.cells #[.slice A x.1.length c, .slice K x.2.length ck] 128)
  have e1 := hr3.at_ 0 (v := .int .i64 r.1) rfl
  have e2 := hr3.at_ 1 (v := .int .i64 r.2.1) rfl
  have hx16 : x.1.length ≤ 16 := by have := (HP.out.2.2 rfl).2; omega
  have hbw := (HP.out.2.1 rfl)
  have HZ := Lib.hid (HP.out.2.2 rfl).1
  have hbw3 := (hbw.alloc hbw.size (.cells #[.slice A x.1.length c, .slice K x.2.length ck] 128)).alloc (by simp; have := hbw.size; omega) (.cells #[.int .i64 r.1, .int .i64 r.2.1] 33)
  have hbz := hb3.alloc (by simp) (.cells #[.int .i64 r.1, .int .i64 r.2.1] 33)
  have hown := OwnsC.lit (e := 33) (size := 2) (base := w.heap.size) (w2.alloc (.cells #[.slice A x.1.length c, .slice K x.2.length ck] 128)) #[.int .i64 r.1, .int .i64 r.2.1] 1 (Nat.le_trans hbw.size (by simp)) (by simp [maxLen]) (by simp)
  rw [show (w2.alloc (.cells #[.slice A x.1.length c, .slice K x.2.length ck] 128)).heap.size = w2.heap.size + 1 by simp] at hown
  have hrs := (hI.refs.below hbz).reads
  have HI := Lib.hid (And.intro hown (And.intro hrs (And.intro hbw3 (And.intro (show w.heap.size ≤ ((w2.alloc (.cells #[.slice A x.1.length c, .slice K x.2.length ck] 128)).alloc (.cells #[.int .i64 r.1, .int .i64 r.2.1] 33)).heap.size from hbw3.size) ((HP.out.1.below hbz))))))
  clear hx6 hr3 hg32 hbw hbw3 hbz hown hrs hI hb3
  go_wp2_with (first
    | ((with_reducible show wpList _ _ _ ((⟨some 18, _, _, _, _, _⟩ : Oper) :: _) _ _); refine wpList_load_mid (o := ⟨some 18, _, _, _, _, _⟩) (range2 e1 e2) (by rfl) _ _ (by rfl) (by rfl) _ Tryd.underlying33 (by rfl) size_ref (by rfl) ?_)
    | ((with_reducible show wpList _ _ _ ((⟨some 22, _, _, _, _, _⟩ : Oper) :: _) _ _); refine wpList_append_vals (o := ⟨some 22, _, _, _, _, _⟩) (by rfl) _ _ _ (by rfl) w.heap.size 33 (.agg #[.int .i64 0, .int .i64 0]) 2 16 Tryd.underlying28 infoRef (by rfl) (by omega) (.slice (some ⟨w2.heap.size + 1, 0, none⟩) 1 1) 1 [.int .i64 r.1, .int .i64 r.2.1] [] (by rfl) HI.out.1 A x.1.length c (refCells x.1) (by rfl) (refCells_length x.1) HI.out.2.1 (refCells_one x.1) (by simp only [maxLen]; omega) (by omega) HI.out.2.2.2.1 ?_; intro v' W5 sp5 ho5 hg5 hv5 hn5; refine stopped ?_)
    | fail)
  refine Stopped.mk ?_
  have hbf := HI.out.2.2.1.grown hg5 HI.out.2.2.2.1 (fun k hk => (OwnsC.lt HI.out.1 k hk).1)
  have H5 := Lib.hid (And.intro ho5 hbf)
  clear ho5 hg5 hv5 hn5 hbf d6 e1 e2
  go_wp2_with fail
  refine bodyPost_ret (results_tmp2 rfl _ _ _) rfl ?_
  refine ⟨v', sp5, by rw [HF.out]; rfl, ?_, ?_⟩
  · rw [HF.out]
    show OwnsC _ _ _ _ _ (r :: x.1).length (refCells (r :: x.1)) _
    rw [List.length_cons, Nat.add_comm]
    exact H5.out.1
  · rw [HF.out]
    exact ⟨by rw [HZ.out]; exact GPost.same HG.out H5.out.2, fun _ => H5.out.2⟩
end
end Go.Proofs.YtgkljncigbiffaaDoor

/- A table is dropped: the program's Drop. Condition: the grid is known, and has no fuse. -/
namespace Go.Proofs.YtgkljncigbiffaaDoor
open Go.RowKit
/-- Blocks are released, as long as they can be. -/
def trel (g : Grd) : List RefT → Int × Grd
  | [] => (0, g)
  | r :: l => if turnCode g.L r.1 1 ≠ 0 then (turnCode g.L r.1 1, { g with L := turnL g.L r.1 1 2 }) else trel { g with L := turnL g.L r.1 1 2 } l
def tdrop (g : Grd) (d : Dsk) (r : RefT) : Int × Grd := if (tblocks g d none r).1 ≠ 0 then ((tblocks g d none r).1, (tblocks g d none r).2.2) else trel (tblocks g d none r).2.2 (tblocks g d none r).2.1
theorem read_refsOk (raw : List UInt8) : ∀ r ∈ (GB.read raw).2.2.2.1, refOk r = true := by
  unfold GB.read
  split
  · simp [GB.none_]
  split
  · simp [GB.none_]
  split
  · simp [GB.none_]
  split
  · rename_i h; exact (GB.ok_spec h.1).2.2.2.2
  · simp [GB.none_]
theorem tblocks_ok {g : Grd} {d : Dsk} {f : Option Fus} {r : RefT} (hr : -9223372036854775808 ≤ r.1 ∧ r.1 ≤ 9223372036854775807) : ∀ x ∈ (tblocks g d f r).2.1, -9223372036854775808 ≤ x.1 ∧ x.1 ≤ 9223372036854775807 := by
  have hk : ∀ x ∈ (topen g d f r).2.1.1, refOk x = true := by
    cases ho : (glook g d f r).2.1 with
    | none => rw [topen_none ho]; simp
    | some b =>
      have hb : ∀ x ∈ b.2.2.1, refOk x = true := by
        unfold glook at ho
        split at ho
        · cases ho
        split at ho
        · cases ho
        cases ht : gthere d r with
        | none => rw [ht] at ho; cases ho
        | some b' =>
          rw [ht] at ho
          injection ho with ho
          subst ho
          unfold gthere at ht
          split at ht
          · injection ht with ht
            subst ht
            exact read_refsOk _
          · cases ht
      cases hp : kparse b.2.2.2.1 with
      | none => rw [topen_bad ho hp]; simp
      | some ks =>
        rw [topen_some ho hp]
        split
        · exact hb
        · simp
  unfold tblocks
  split
  · simp
  · intro x hx
    rcases List.mem_cons.1 hx with e | e
    · subst e; exact hr
    · have := refOk_spec (hk x e); omega
theorem tblocks_zero {g : Grd} {d : Dsk} {f : Option Fus} {r : RefT} (h : (tblocks g d f r).1 = 0) : (tblocks g d f r).2.2 = g := by
  unfold tblocks at h ⊢
  split at h
  · rename_i hn; exact absurd h hn
  · rename_i hn; rw [if_neg hn]; exact (topen_zero (by simpa using hn)).1
theorem trel_step {g : Grd} {l : List RefT} {i : Nat} (hi : i < l.length) (h : turnCode g.L l[i].1 1 = 0) : trel g (l.drop i) = trel { g with L := turnL g.L l[i].1 1 2 } (l.drop (i + 1)) := by
  rw [List.drop_eq_getElem_cons hi, trel, if_neg (by rw [h]; simp)]
theorem trel_stop {g : Grd} {l : List RefT} {i : Nat} (hi : i < l.length) (h : turnCode g.L l[i].1 1 ≠ 0) : trel g (l.drop i) = (turnCode g.L l[i].1 1, { g with L := turnL g.L l[i].1 1 2 }) := by
  rw [List.drop_eq_getElem_cons hi, trel, if_pos h]
/-- Ahead of each ref. -/
def DrRel (w : World) (q : GPl) (d : Dsk) (l : List RefT) (v : Value) (sp : List Value) (R : Int × Grd) (x : Value) (wr : World) : Prop :=
  ∃ (i : Nat) (gi : Grd) (qi : GPl), i ≤ l.length ∧ x = .int .i64 (i : Int) ∧ R = trel gi (l.drop i) ∧ BuAt w q gi d l [] v (.slice none 0 0) qi sp [] wr
section
variable {w : World} {q : GPl} {g : Grd} {d : Dsk}
set_option maxRecDepth 100000 in
set_option maxHeartbeats 2000000 in
theorem tdrop_any (h : GridR w q g d none) (hlen : g.W.length ≤ 1099511627776) (r : RefT) (hr : -9223372036854775808 ≤ r.1 ∧ r.1 ≤ 9223372036854775807) (n : Int) (F L : Option Addr) (nf cf nl cl : Nat) :
    Calls Tryd.prog 15 #[.pointer (some ⟨q.gg, 0, none⟩), .agg (runv r n F L nf cf nl cl)] w fun e w' => e = .returned (.int .i64 (tdrop g d r).1) ∧ GPost w q (tdrop g d r).2 d none w' := by
  have hb1 := (Below.refl w.heap.size w).alloc (Nat.le_refl _) (.cells (runv r n F L nf cf nl cl) 35)
  have hg3 := Blk.new w 35 (runv r n F L nf cf nl cl)
  have hop := tblocks_any (h.below hb1) hlen r n F L nf cf nl cl
  have hok := tblocks_ok (g := g) (d := d) (f := none) hr
  obtain ⟨T, hT⟩ : ∃ T, T = tdrop g d r := ⟨_, rfl⟩
  rw [← hT]
  have H0 := Lib.hid (And.intro hb1 (And.intro (h.below hb1) hT))
  clear h hb1 hlen hT
  unfold runv at H0 hg3 hop ⊢
  go_enter Tryd.func15, Tryd.ntmps15
  go_wp2_with (first
    | ((with_reducible show wpList _ _ _ ((⟨some 12, _, _, _, _, _⟩ : Oper) :: _) _ _); refine wpList_load_blk (o := ⟨some 12, _, _, _, _, _⟩) (hg3) (by rfl) _ _ (by rfl) (by rfl) _ Tryd.underlying35 (by rfl) (sizeRun) (by rfl) ?_)
    | fail)
  refine hop.mono ?_
  rintro e w2 ⟨v, sp, rfl, hO, hL⟩
  obtain ⟨cd, hcd⟩ : ∃ cd, cd = (tblocks g d none r).1 := ⟨_, rfl⟩
  obtain ⟨l, hl⟩ : ∃ l, l = (tblocks g d none r).2.1 := ⟨_, rfl⟩
  obtain ⟨g2, hg2⟩ : ∃ g2, g2 = (tblocks g d none r).2.2 := ⟨_, rfl⟩
  have HT := Lib.hid (show T = if cd ≠ 0 then (cd, g2) else trel g2 l by rw [H0.out.2.2, hcd, hl, hg2]; rfl)
  rw [← hl] at hO hok
  rw [← hcd, ← hg2] at hL
  rw [← hcd]
  have hzz := @tblocks_zero g d none r
  rw [← hcd, ← hg2] at hzz
  have HP := Lib.hid (And.intro (GPost.trans1 H0.out.1 hL.1) (And.intro hok (And.intro hL hzz)))
  clear hop hg3 hcd hl hg2 hL hok hzz
  by_cases hc0 : cd = 0
  case neg =>
    have kc : (cd != 0) = true := bne_iff_ne.2 hc0
    have HF := Lib.hid (HT.out.trans (if_pos hc0))
    clear hc0 hO
    go_wp2_with fail
    go_ret
    rw [HF.out]
    exact ⟨rfl, HP.out.1⟩
  subst hc0
  have HF := Lib.hid (HT.out.trans (if_neg (by simp)))
  obtain ⟨A, c, rfl, hc, hm, hrd, -⟩ := OwnsC.reads hO
  have hb2 := HP.out.2.2.1.2 rfl
  have hA0 : BuAt (w.alloc (.cells #[.int .i64 r.1, .int .i64 r.2.1, .int .i64 n, .slice F nf cf, .slice L nl cl] 35)) q g2 d l [] (.slice A l.length c) (.slice none 0 0) q sp [] w2 := by
    rw [HP.out.2.2.2 rfl]
    exact ⟨hO, OwnsC.nil _ _ _ _, rfl, rfl, rfl, H0.out.2.1.below hb2, Near.below hb2, fun x hx => .inl hx, fun x hx hm => by have := (OwnsC.lt hO x hx).1; have := H0.out.2.1.lt x hm; omega⟩
  have HB := Lib.hid H0.out.1
  have HA0 := Lib.hid hA0
  have hc9 : l.length ≤ 9223372036854775807 := Nat.le_trans hc (Nat.le_trans hm (by simp [maxLen]))
  clear hb2 hA0 hO hc hm hrd HT
  generalize (w.alloc (.cells #[.int .i64 r.1, .int .i64 r.2.1, .int .i64 n, .slice F nf cf, .slice L nl cl] 35)) = w1 at HA0 HB
  go_wp2_with fail
  go_loopw [21] (fun v wr => DrRel w1 q d l (.slice A l.length c) sp T v wr) (fun v _ => l.length - (intOf v).toNat)
  case atStart => exact ⟨0, g2, q, Nat.zero_le _, rfl, HF.out, HA0.out⟩
  case round =>
    obtain ⟨i, gi, qi, hi, rfl, hT, hA⟩ := hrel
    by_cases hlt : i < l.length
    case neg =>
      have hF : T = (0, gi) := by rw [hT, List.drop_eq_nil_of_le (by omega)]; rfl
      have HG := Lib.hid (And.intro hF (GPost.trans1 HB.out ⟨qi, hA.gg, hA.p, hA.gf, hA.grid, hA.near, hA.all⟩))
      clear hF hT hA
      go_wp2_with fail
      go_ret
      rw [HG.out.1]
      exact ⟨rfl, HG.out.2⟩
    obtain ⟨A', c', e', -, -, hrd, -⟩ := OwnsC.reads hA.refs
    obtain ⟨b, off, hAe, -, hcl⟩ := (Refs.of hrd) (by omega)
    injection e' with e1 e2 e3
    subst e1 e3
    obtain ⟨d1, d2⟩ := hcl i hlt
    have hrk := HP.out.2.1 l[i] (List.getElem_mem hlt)
    obtain ⟨ri, hri⟩ : ∃ ri, ri = l[i] := ⟨_, rfl⟩
    have hst := fun h => trel_step (g := gi) hlt h
    have hsp := fun h => trel_stop (g := gi) hlt h
    rw [← hri] at d1 d2 hrk hst hsp
    rw [← hT] at hst hsp
    have hr2 := range2 d1 d2
    have hb8 := (Below.refl wr.heap.size wr).alloc (Nat.le_refl _) (.cells #[.int .i64 ri.1, .int .i64 ri.2.1] 33)
    have hg8 := Blk.new wr 33 #[.int .i64 ri.1, .int .i64 ri.2.1]
    have hA8 := hA.below hb8
    have hgr := grelease_any hA8.grid ri hrk.1 hrk.2
    rw [hA8.gg] at hgr
    have H8 := Lib.hid (And.intro hA8 (And.intro hst hsp))
    subst hAe
    clear hT hA hrd hcl d1 d2 hrk hri hst hsp hb8 hA8
    go_wp2_with (first
      | ((with_reducible show wpList _ _ _ ((⟨some 24, _, _, _, _, _⟩ : Oper) :: _) _ _); refine wpList_load_mid (o := ⟨some 24, _, _, _, _, _⟩) hr2 (by rfl) _ _ (by rfl) (by rfl) _ Tryd.underlying33 (by rfl) size_ref (by rfl) ?_)
      | ((with_reducible show wpList _ _ _ ((⟨some 26, _, _, _, _, _⟩ : Oper) :: _) _ _); refine wpList_load_blk (o := ⟨some 26, _, _, _, _, _⟩) (hg8) (by rfl) _ _ (by rfl) (by rfl) _ Tryd.underlying33 (by rfl) (size_ref) (by rfl) ?_)
      | fail)
    refine hgr.mono ?_
    rintro e w9 ⟨rfl, hp9⟩
    obtain ⟨q9, hA9⟩ := H8.out.1.wrote hp9
    obtain ⟨tc, htc⟩ : ∃ tc, tc = turnCode gi.L ri.1 1 := ⟨_, rfl⟩
    rw [← htc]
    by_cases hc0 : tc = 0
    case neg =>
      have kc : (tc != 0) = true := bne_iff_ne.2 hc0
      have hF := H8.out.2.2 (by rw [← htc]; exact hc0)
      have HG := Lib.hid (And.intro hF (And.intro htc (GPost.trans1 HB.out ⟨q9, hA9.gg, hA9.p, hA9.gf, hA9.grid, hA9.near, hA9.all⟩)))
      clear hF hA9 hp9 hgr hr2 hg8 hc0 htc
      go_wp2_with fail
      go_ret
      rw [HG.out.1, HG.out.2.1]
      exact ⟨rfl, HG.out.2.2⟩
    subst hc0
    have hF := H8.out.2.1 htc.symm
    have HG := Lib.hid (show DrRel w1 q d l (.slice (some ⟨b, off, none⟩) l.length c) sp T (.int .i64 ((i + 1 : Nat) : Int)) w9 from ⟨i + 1, _, q9, by omega, rfl, hF, hA9⟩)
    clear hF hA9 hp9 hgr hr2 hg8 htc
    go_wp2_with fail
    go_roundw
    case rel => exact HG.out
    case measure => exact meas_up (i := i) (m := l.length) rfl rfl hlt
end
end Go.Proofs.YtgkljncigbiffaaDoor

/- A range over a function that keeps maps of its own and yields a fixed row of items. Plain facts over any program. No condition. -/
namespace Go
open Go.RowKit
section
variable {F : Fence} {n : Nat} {P : Program}
/-- The function's part: it may write what is no cells, where it came later. -/
def RowOfK (F : Fence) (n : Nat) (P : Program) (gf : Nat) (lb : Array Value) (encs : Nat → Array Value) (I : Nat → World → Prop) (N : Nat) : Prop :=
  ∀ (l : Nat) (J : Nat → World → Prop) (Jx : World → Prop) (W : World), (∀ k W, J k W → I k W) → (∀ k W1 W2, J k W1 → Kept W.heap.size W1 W2 → J k W2) → (∀ W1 W2, Jx W1 → Kept W.heap.size W1 W2 → Jx W2) →
    (∀ k W, J k W → k < N → YieldAt F (n - 1) P l (encs k) W fun e W' => (e = .returned (.bool true) ∧ J (k + 1) W') ∨ (e = .returned (.bool false) ∧ Jx W')) →
    J 0 W → CallsIn F n P gf (#[.func (.yield l) #[] #[]] ++ lb) W fun e W' => (∃ v, e = .returned v) ∧ (J N W' ∨ Jx W')
theorem Kept.refl (B : Nat) (W : World) : Kept B W W := ⟨rfl, rfl, rfl, Nat.le_refl _, fun _ _ _ => rfl, fun _ _ h _ => h⟩
theorem Kept.trans {B : Nat} {W W' W'' : World} (h : Kept B W W') (k : Kept B W' W'') : Kept B W W'' :=
  ⟨k.os.trans h.os, k.tape.trans h.tape, k.output.trans h.output, Nat.le_trans h.size k.size, fun j hj hl => (k.low j hj (Nat.lt_of_lt_of_le hl h.size)).trans (h.low j hj hl), fun j o ho hc => k.cells j o (h.cells j o ho hc) hc⟩
/-- Blocks that came later may be written as well. -/
theorem Kept.new {B g : Nat} {W W' W'' : World} (h : Kept B W W') (u : Upd g W' W'') (hg : W.heap.size ≤ g) (hB : B ≤ g) : Kept B W W'' :=
  ⟨u.os.trans h.os, u.tape.trans h.tape, u.output.trans h.output, by rw [u.size]; exact h.size, fun j hj hl => (u.block j (by omega)).trans (h.low j hj hl), fun j o ho hc => by
    have hj := (Array.getElem?_eq_some_iff.1 ho).1
    exact (u.block j (by omega)).trans (h.cells j o ho hc)⟩
/-- A map may be written. -/
theorem Kept.map {B g : Nat} {W W' : World} {es : Array MapEntry} {c : Nat} (u : Upd g W W') (hm : MapB W g es c) (hB : B ≤ g) : Kept B W W' :=
  ⟨u.os, u.tape, u.output, by rw [u.size]; exact Nat.le_refl _, fun j hj _ => u.block j (by omega), fun j o ho hc => by
    by_cases e : j = g
    · subst e
      have hm : W.heap[j]? = some (.map es c) := hm
      rw [hm] at ho; injection ho with ho; subst ho; cases hc
    · exact (u.block j e).trans ho⟩
theorem wpIn_rangeRowK {g : Operand} {ps : Array Tmp} {assign body : Code} {Q : Exit → Act → World → Prop} {a : Act} {w : World}
    (hro : F.round = none) (h1 : 1 ≤ n) {gf : Nat} {lb : Array Value} (hg : a.eval g = .func (.func gf) #[] lb) (hFg : F.fn gf) (eg : ∀ args w, (callFunc gf args).run P w = .ok (.enter gf args) w)
    (encs : Nat → Array Value) (hps : ∀ k, (encs k).size = ps.size) (N : Nat) (I : Nat → World → Prop) (Ix : Code → World → Prop)
    (hI : ∀ k W W', I k W → Kept w.heap.size W W' → I k W') (hIx : ∀ c W W', Ix c W → Kept w.heap.size W W' → Ix c W') (h0 : I 0 w)
    (hrow : RowOfK F (n - 1) P gf lb encs I N)
    (hround : ∀ l k W, w.heap.size ≤ l → l < W.heap.size → I k W → k < N → assign.wpIn (F.inRound l) (n - 1 - 1) P
      (Exit.then (fun a₁ W₁ => Below W.heap.size W W₁ ∧ ∀ W₂, Kept w.heap.size W₁ W₂ → body.wpIn (F.inRound l) (n - 1 - 1) P (rowPost w.heap.size (I (k + 1)) Ix W₂) a₁ W₂) (fun _ _ _ => False))
      { tmps := (ps.zip (encs k)).foldl (fun t (p, v) => t.setIfInBounds p v) a.tmps, defers := [] } W)
    (hdone : ∀ D W, w.heap.size ≤ D → I N W → W.heap[D]? = some (.deferred (some [])) → Q .normal { a with defers := { target := .collected D, args := #[] } :: a.defers } W)
    (hstop : ∀ D c W, w.heap.size ≤ D → Ix c W → W.heap[D]? = some (.deferred (some [])) → c.wpIn F n P Q { a with defers := { target := .collected D, args := #[] } :: a.defers } W) :
    (Code.rangeFunc g ps assign body).wpIn F n P Q a w := by
  refine wpIn_rangeFunc fun fn hfn => ?_
  rw [hro]
  -- the loop's record, in a state; the two blocks that the loop lays
  let R : LoopState → Option Code → Obj := fun st pe => .loop { state := st, pending := pe, fn, tmps := a.tmps, params := ps, assign, body, defers := w.heap.size }
  let D := w.heap.size
  let l := w.heap.size + 1
  -- what the loop needs of a world, beside the caller's own
  let Bk : LoopState → Option Code → World → Prop := fun st pe W => W.heap[l]? = some (R st pe) ∧ W.heap[D]? = some (.deferred (some []))
  have bklt : ∀ {st pe W}, Bk st pe W → l < W.heap.size := fun h => (Array.getElem?_eq_some_iff.1 h.1).1
  have bkput : ∀ {st pe W} st' pe', Bk st pe W → Bk st' pe' (W.putObj l (R st' pe')) := fun st' pe' h =>
    ⟨World.putObj_heap_same (bklt h), (World.putObj_heap_other (by show D ≠ l; omega)).trans h.2⟩
  have bkput' : ∀ {st pe W} (o : Obj), Bk st pe W → (W.putObj l o).heap[D]? = some (.deferred (some [])) := fun o h => (World.putObj_heap_other (by show D ≠ l; omega)).trans h.2
  have bkbel : ∀ {st pe W W'}, Bk st pe W → Below W.heap.size W W' → Bk st pe W' := fun h k =>
    ⟨(k.block _ (bklt h)).trans h.1, (k.block _ (by have := bklt h; omega)).trans h.2⟩
  have low : ∀ {st pe W}, Bk st pe W → w.heap.size ≤ W.heap.size := fun h => by have := bklt h; omega
  have put : ∀ {st pe W} (o : Obj), Bk st pe W → Kept w.heap.size W (W.putObj l o) := fun o h => Kept.put (by show D ≤ l; omega) h.1 rfl
  -- the world behind the loop's entry
  let W1 := (w.alloc (.deferred (some []))).alloc (R .ready none)
  have e1 : Below w.heap.size w W1 := ((Below.refl _ w).alloc (Nat.le_refl _) _).alloc (by simp) _
  have b1 : Bk .ready none W1 := by
    refine ⟨?_, ?_⟩
    · have h := World.alloc_heap_new (w.alloc (.deferred (some []))) (R .ready none)
      rwa [World.size_alloc] at h
    · exact (Below.heap_alloc _ _ _ (by rw [World.size_alloc]; exact Nat.lt_succ_self _)).trans (World.alloc_heap_new w _)
  have hW1 : W1.heap.size = w.heap.size + 2 := by show ((w.alloc _).alloc _).heap.size = _; rw [World.size_alloc, World.size_alloc]
  have kw : ∀ {W W' : World}, Kept W1.heap.size W W' → Kept w.heap.size W W' := fun k => ⟨k.os, k.tape, k.output, k.size, fun j hj h => k.low j (by omega) h, k.cells⟩
  have bkkept : ∀ {st pe W W'}, Bk st pe W → Kept W1.heap.size W W' → Bk st pe W' := fun h k =>
    ⟨(k.low _ (by rw [hW1]; show w.heap.size + 1 < _; omega) (bklt h)).trans h.1, (k.low _ (by rw [hW1]; show w.heap.size < _; omega) (by have := bklt h; omega)).trans h.2⟩
  refine ⟨l, [{ target := .collected D, args := #[] }], W1, { target := .fn (.func gf) lb, args := #[.func (.yield l) #[] #[]] }, W1, gf, #[.func (.yield l) #[] #[]] ++ lb, W1,
    run_enterLoop_outer _ _ _ _ _, ?_, ?_, ?_, fun _ => h1, ?_⟩
  · simp only [resolve, hg]
    simp [go_sem]
  · intro f' hf'
    simp [Target.leads] at hf'
    exact hf' ▸ hFg
  · simp [invoke, go_sem, eg]
  refine (hrow l (fun k W => I k W ∧ Bk .ready none W) (fun W => ∃ c, Ix c W ∧ Bk .done (some c) W) W1 (fun _ _ h => h.1)
    (fun k W W' h b => ⟨hI k W W' h.1 (kw b), bkkept h.2 b⟩) (fun W W' h b => by obtain ⟨c, hc, hb⟩ := h; exact ⟨c, hIx c W W' hc (kw b), bkkept hb b⟩) ?_ ⟨hI 0 w W1 h0 (Kept.below e1), b1⟩).mono ?_
  · -- a round
    rintro k W ⟨hi, hb⟩ hk
    refine ⟨fn, _, assign, body, run_yield hb.1 (hps k), roundIn_of_wpIn hfn ?_⟩
    refine wpIn_mono (hround l k W (by show D ≤ l; omega) (bklt hb) hi hk) ?_
    rintro e a1 W2 he
    cases e
    case normal =>
      obtain ⟨hB, hbody⟩ := he
      have hb2 := bkbel hb hB
      refine ⟨_, run_beginRound hb2.1 rfl, ?_⟩
      have hb3 := bkput .busy none hb2
      refine wpIn_mono (hbody _ (Kept.put (by show D ≤ l; omega) hb2.1 rfl)) ?_
      rintro e3 a3 W4 hp
      have fin : KeepsFrom w.heap.size (W2.putObj l (R .busy none)) W4 → Bk .busy none W4 := fun hkf => ⟨hkf.same _ _ (by show D ≤ l; omega) hb3.1 rfl, hkf.same _ _ (Nat.le_refl _) hb3.2 rfl⟩
      cases e3 with
      | normal =>
        have hb4 := fin hp.1
        exact ⟨_, _, run_endRound none hb4.1, .inl ⟨rfl, hI _ _ _ hp.2 (put _ hb4), bkput .ready none hb4⟩⟩
      | ret =>
        have hb4 := fin hp.1
        exact ⟨_, _, run_endRound (some .ret) hb4.1, .inr ⟨rfl, .ret, hIx _ _ _ hp.2 (put _ hb4), bkput .done (some .ret) hb4⟩⟩
      | exit i =>
        have hb4 := fin hp.1
        exact ⟨_, _, run_endRound (some (.exit i)) hb4.1, .inr ⟨rfl, .exit i, hIx _ _ _ hp.2 (put _ hb4), bkput .done (some (.exit i)) hb4⟩⟩
      | goto t =>
        have hb4 := fin hp.1
        exact ⟨_, _, run_endRound (some (.goto t)) hb4.1, .inr ⟨rfl, .goto t, hIx _ _ _ hp.2 (put _ hb4), bkput .done (some (.goto t)) hb4⟩⟩
      | panic ch => exact hp.elim
      | outgrown => exact hp.elim
    all_goals exact he.elim
  · -- behind the function
    rintro e W2 ⟨⟨v, rfl⟩, (⟨hi, hb⟩ | ⟨c, hc, hb⟩)⟩
    · exact ⟨none, _, run_endLoop hb.1 (by simp), hdone D _ (Nat.le_refl _) (hI _ _ _ hi (put _ hb)) (bkput' _ hb)⟩
    · exact ⟨some c, _, run_endLoop hb.1 (by simp), hstop D c _ (Nat.le_refl _) (hIx _ _ _ hc (put _ hb)) (bkput' _ hb)⟩
end
end Go
