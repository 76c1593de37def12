/- A table is written: the program's Build. Conditions: the grid is known; there is room for the table; each write succeeds. -/
import Derived.Test.YthfdjemlibecgaaDoorMTableNone19
import Derived.Lib.SliceRun
import Derived.Lib.ConvBytes
namespace Go.Proofs.YthfdjemlibecgaaDoor
open Go.RowKit
theorem ppack_ok {l : List PairT} (h : (ppack l).1 = 0) : l ≠ [] ∧ l.length ≤ 64 ∧ psorted l = true ∧ l.all pok = true ∧ (ppack l).2 = pgroups l := by
  unfold ppack at h ⊢
  split at h
  · cases h
  · rename_i hn
    rw [if_neg hn]
    simp only [not_or, Bool.not_eq_false] at hn
    exact ⟨hn.1, by omega, hn.2.2.1, hn.2.2.2, rfl⟩
theorem gkey_ok {l : List PairT} (h : (ppack l).1 = 0) {k : List UInt8} (hk : k ∈ (ppack l).2.map gkey) : 1 ≤ k.length ∧ k.length ≤ 32 := by
  obtain ⟨-, -, -, h4, h5⟩ := ppack_ok h
  have hG := pgroups_ok h4
  rw [h5] at hk
  obtain ⟨g, hg, rfl⟩ := List.mem_map.1 hk
  obtain ⟨a, ha, e⟩ := gkey_mem (hG.ne g hg)
  rw [e]
  have := pok_spec (List.all_eq_true.1 h4 a (by rw [← hG.flat]; exact List.mem_flatten.2 ⟨g, hg, ha⟩))
  exact ⟨this.1, this.2.1⟩
theorem gbody_ok {l : List PairT} (h : (ppack l).1 = 0) {b : List UInt8} (hb : b ∈ (ppack l).2.map gbody) : b.length ≤ 860 := by
  obtain ⟨-, -, -, h4, h5⟩ := ppack_ok h
  rw [h5] at hb
  obtain ⟨g, hg, rfl⟩ := List.mem_map.1 hb
  exact (pgroups_ok h4).small g hg
theorem kbytes_le : ∀ (ks : List (List UInt8)), (∀ k ∈ ks, k.length ≤ 32) → (kbytes ks).length ≤ 33 * ks.length
  | [], _ => by simp [kbytes]
  | k :: ks, h => by
    have h1 := h k (by simp)
    have h2 := kbytes_le ks (fun x hx => h x (by simp [hx]))
    unfold kbytes at h2 ⊢
    rw [List.flatMap_cons, List.length_append, List.length_cons, List.length_cons]
    omega
theorem bu_lt {a b : Nat} (h : b ≤ a) : decide ((a : Int) < (b : Int)) = false := decide_eq_false (by omega)
set_option maxRecDepth 100000 in
set_option maxHeartbeats 8000000 in
theorem tbuild_any {w : World} {q : GPl} {G : Nat → Grd} {D : Nat → Dsk} {R : Nat → RefT} {root : RefT} {s : Int} (h : GridR w q (G 0) (D 0) none) (hT : Tab w) (hTq : 0 ∉ q.all)
    (A : Option Addr) (c : Nat) (l : List PairT) (hl : l.length ≤ 65536) (hP : Pairs w A l) (hX : PairsX q.all w A l) (hok : (ppack l).1 = 0) (hs1 : 0 ≤ s) (hs2 : s ≤ 1073741824)
    (hf : (ppack l).2.length + 1 ≤ cnts (G 0).L 0) (hpt : Puts s ((ppack l).2.map gbody) (kbytes ((ppack l).2.map gkey)) root G D R) (F : List UInt8) (L : List UInt8) (hF : ∃ p, l[0]? = some p ∧ F = p.1) (hL : ∃ p, l[l.length - 1]? = some p ∧ L = p.1) :
    Calls Tryd.prog 62 #[.pointer (some ⟨q.gg, 0, none⟩), .slice A l.length c, .int .i64 s] w fun e w' => ∃ (fv lv : Value) (sf sl : List UInt8), e = .returned (.tuple #[.agg #[.int .i64 root.1, .int .i64 root.2.1, .int .i64 (l.length : Int), fv, lv], .int .i64 0]) ∧ OwnB 5 w' w.heap.size fv F sf ∧ OwnB 5 w' w.heap.size lv L sl ∧ GPost w q (G ((ppack l).2.length + 1)) (D ((ppack l).2.length + 1)) none w' := by
  have hz := zeroRunrun
  have hb1 := (Below.refl w.heap.size w).alloc (Nat.le_refl _) (.cells #[.int .i64 0, .int .i64 0, .int .i64 0, .slice none 0 0, .slice none 0 0] 111)
  have hg6 := Blk.new w 111 #[.int .i64 0, .int .i64 0, .int .i64 0, .slice none 0 0, .slice none 0 0]
  have HW := Lib.hid (And.intro h (And.intro hT (And.intro hTq (And.intro hP (And.intro hX (And.intro hok (And.intro hpt (And.intro hF hL))))))))
  have hno := tnone_any (h.below hb1)
  have H0 := Lib.hid (And.intro hb1 hg6)
  obtain ⟨n, hn⟩ : ∃ n, n = l.length := ⟨_, rfl⟩
  have HN := Lib.hid hn
  rw [← hn] at hl ⊢
  clear h hT hTq hP hX hok hpt hF hL hb1 hg6 hn
  go_enter Tryd.func62, Tryd.ntmps62
  go_wp2_with fail
  refine hno.mono ?_
  rintro e w1 ⟨rfl, hb1⟩
  have hbw1 := H0.out.1.trans (hb1.mono H0.out.1.size)
  have hpk := pack_any (N := fun x => x ∉ q.all) A c l (by rw [← HN.out]; exact hl) w1 (HW.out.2.2.2.1.below hbw1) (fun i b off p A1 c1 hi hA hc hp ad e => by
    subst hA
    obtain ⟨hi2, rfl⟩ := List.getElem?_eq_some_iff.1 hi
    obtain ⟨b', off', ad1, c1', e1, k1, k2, k3, k4, k5, k6⟩ := (HW.out.2.2.2.2.1.near (Near.below hbw1)) i hi2 hp
    injection e1 with e1
    obtain ⟨rfl, rfl⟩ : b = b' ∧ off = off' := by injection e1 with e1 e2; exact ⟨e1, e2⟩
    rw [hc] at k2
    injection k2 with k2
    injection k2 with k2
    rw [e] at k2; injection k2 with k2
    rw [k2]; exact k6)
  rw [← HN.out] at hpk
  have H1 := Lib.hid (And.intro hbw1 (H0.out.2.below hb1 H0.out.2.lt))
  clear hno hb1 hbw1
  go_wp2_with fail
  refine hpk.mono ?_
  rintro e w2 ⟨vb, vk, bs, sp, ks, sk, rfl, hG, hK, -, hb2⟩
  have hbw2 := H1.out.1.trans (hb2.mono H1.out.1.size)
  have hlow : ∀ x ∈ q.all, x < w1.heap.size := fun x hx => Nat.lt_of_lt_of_le (HW.out.1.lt x hx) H1.out.1.size
  obtain ⟨Ab, cb, rfl, hcb, hcbm, hKb⟩ := hG.keysX hlow
  obtain ⟨Ak, ck, rfl, hck, hckm, hKk⟩ := hK.keysX hlow
  obtain ⟨m, hm⟩ : ∃ m, m = (ppack l).2.length := ⟨_, rfl⟩
  rw [HW.out.2.2.2.2.2.1]
  rw [← hm] at hcb hck hf ⊢
  have hcn := gcounts_any (HW.out.1.below hbw2)
  have hc3 := cnts3 (G 0).L HW.out.1.ok.set.le
  have hcl := HW.out.1.ok.len
  have hc5 := HW.out.1.ok.h512
  generalize cnts (G 0).L 0 = a at hcn hf hc3
  generalize cnts (G 0).L 1 = a1 at hcn hc3
  generalize cnts (G 0).L 2 = a2 at hcn hc3
  have hm512 : m < 512 := by omega
  have k1 : decide (s < 0) = false := decide_eq_false (by omega)
  have k2 : decide (s > 1073741824) = false := decide_eq_false (by omega)
  have k2' : decide (1073741824 < s) = false := decide_eq_false (by omega)
  have k3 : wrap64 ((m : Int) + 1) = ((m + 1 : Nat) : Int) := by rw [w64_in (by omega)]; omega
  have k4 : decide ((a : Int) < ((m + 1 : Nat) : Int)) = false := bu_lt hf
  have k5 : decide (a < m + 1) = false := decide_eq_false (Nat.not_lt.2 hf)
  have k6 : decide ((a : Int) < (m : Int) + 1) = false := bu_lt hf
  have H2 := Lib.hid (And.intro hbw2 (And.intro (H1.out.2.below hb2 H1.out.2.lt) (And.intro hKb (And.intro hKk (And.intro hm (And.intro hs1 hs2))))))
  have HC2 := Lib.hid (And.intro hcb (And.intro hck (And.intro hcbm hckm)))
  clear hpk hG hK hb2 hbw2 hlow hKb hKk hm hs1 hs2 hc3 hcl hc5 hf hcb hck hcbm hckm
  go_wp2_with fail
  refine hcn.mono ?_
  rintro e w3 ⟨rfl, hb3⟩
  have hbw3 := H2.out.1.trans (hb3.mono H2.out.1.size)
  have H3 := Lib.hid (And.intro hbw3 (And.intro (H2.out.2.1.below hb3 H2.out.2.1.lt) (And.intro (H2.out.2.2.1.near (Near.below hb3)) (H2.out.2.2.2.1.near (Near.below hb3)))))
  have hml : ((ppack l).2.map gkey).length = m := by rw [List.length_map]; exact H2.out.2.2.2.2.1.symm
  have hst : BuRel w3 q G D R ((ppack l).2.map gkey) (.int .i64 0) (.slice none 0 0) (.slice none 0 0) w3 := ⟨0, q, [], [], Nat.zero_le _, rfl, ⟨OwnsC.nil _ _ _ _, OwnsC.nil _ _ _ _, rfl, rfl, rfl, HW.out.1.below hbw3, Near.refl _ _, fun x hx => .inl hx, fun x hx => by cases hx⟩⟩
  have HS := Lib.hid (And.intro hst hml)
  clear hcn hb3 hbw3 hml hst k1 k2 k2'
  go_wp2_with fail
  go_loopw [14, 15, 57] (fun v14 v15 v57 wr => BuRel w3 q G D R ((ppack l).2.map gkey) v57 v14 v15 wr) (fun _ _ v57 _ => m - (intOf v57).toNat)
  case atStart => exact HS.out.1
  case round =>
    obtain ⟨i, qi, sp1, sp2, hi, rfl, hA⟩ := hrel
    rw [HS.out.2] at hi
    by_cases hlt : i < m
    case neg =>
      have hok := HW.out.2.2.2.2.2.1
      obtain ⟨hne, hn64, -, hall, hpg⟩ := ppack_ok hok
      have hm15 : m ≤ 15 := by rw [H2.out.2.2.2.2.1, hpg]; exact pgroups_few hall hn64
      rw [← HN.out] at hn64
      have hn1 : 1 ≤ n := by
        rw [HN.out]; exact Nat.pos_of_ne_zero (fun e => hne (List.eq_nil_of_length_eq_zero e))
      obtain rfl : i = m := by omega
      have hput := HW.out.2.2.2.2.2.2.1.index
      rw [List.length_map, ← H2.out.2.2.2.2.1] at hput
      rw [List.take_of_length_le (by rw [HS.out.2]; exact Nat.le_refl _)] at hA
      have hkl := kbytes_le ((ppack l).2.map gkey) (fun k hk => (gkey_ok hok hk).2)
      rw [HS.out.2] at hkl
      obtain ⟨A14, c14, h14, -, -, hr14, -⟩ := OwnsC.reads hA.refs
      rw [List.length_map, List.length_range] at h14
      obtain ⟨A15, c15, h15, -, -, hb15⟩ := OwnB.open_ hA.ix
      have hgw := gwrite_any hA.grid 2 s A14 A15 i c14 (kbytes ((ppack l).2.map gkey)).length c15 ((List.range i).map R) (kbytes ((ppack l).2.map gkey)) (by simp) rfl (by simp; omega) (by omega) (Refs.of hr14) hb15 (Tab.near (HW.out.2.1.below H3.out.1) hA.near HW.out.2.2.1)
      rw [hput, hA.gg] at hgw
      subst h14 h15
      obtain ⟨p0, hp0, rfl⟩ := HW.out.2.2.2.2.2.2.2.1
      obtain ⟨p1, hp1, rfl⟩ := HW.out.2.2.2.2.2.2.2.2
      have hq0 := pok_spec (List.all_eq_true.1 hall p0 (List.mem_of_getElem? hp0))
      have hq1 := pok_spec (List.all_eq_true.1 hall p1 (List.mem_of_getElem? hp1))
      obtain ⟨hp0l, hp0e⟩ := List.getElem?_eq_some_iff.1 hp0
      obtain ⟨hp1l, hp1e⟩ := List.getElem?_eq_some_iff.1 hp1
      have hX0 := HW.out.2.2.2.2.1 0 hp0l (by rw [hp0e]; exact hq0.1)
      have hX1 := HW.out.2.2.2.2.1 (l.length - 1) hp1l (by rw [hp1e]; exact hq1.1)
      rw [hp0e] at hX0
      rw [hp1e, ← HN.out] at hX1
      have HBW := Lib.hid (show ∀ ad, A = some ad → ad.block < w.heap.size from fun ad e => by
        obtain ⟨b, off, ad1, c1, e1, -, k, -⟩ := hX0
        rw [e] at e1; injection e1 with e1; subst e1
        exact World.block_lt_of_cell? _ _ k)
      have HI := Lib.hid (And.intro hA (And.intro (hX0.near (Near.below H3.out.1)) (And.intro (hX1.near (Near.below H3.out.1)) (And.intro (show p0.1.length ≤ 32 from hq0.2.1) (show p1.1.length ≤ 32 from hq1.2.1)))))
      have kn : wrap64 ((n : Int) - 1) = ((n - 1 : Nat) : Int) := by rw [w64_in (by omega)]; omega
      clear hA hput hkl hr14 hb15 hq0 hq1 hp0l hp0e hp1l hp1e hp0 hp1 hX0 hX1 hall hpg hne hok
      go_wp2_with fail
      refine hgw.mono ?_
      rintro e w5 ⟨rfl, hp5⟩
      obtain ⟨q5, hA5⟩ := HI.out.1.wrote hp5
      have hP5 : GPost w q (G (i + 1)) (D (i + 1)) none w5 := GPost.trans1 H3.out.1 ⟨q5, hA5.gg, hA5.p, hA5.gf, hA5.grid, hA5.near, hA5.all⟩
      have hg65 := H3.out.2.1.near hA5.near (HW.out.1.offRef (Nat.le_refl _))
      have hx0 := HI.out.2.1.near hA5.near
      have hx1 := HI.out.2.2.1.near hA5.near
      have hb6 := (Below.refl w5.heap.size w5).alloc (Nat.le_refl _) (.cells #[.int .i64 root.1, .int .i64 root.2.1] 23)
      have hb20 := Blk.new w5 23 #[.int .i64 root.1, .int .i64 root.2.1]
      have H5 := Lib.hid (And.intro (hP5.below hb6) (And.intro (hg65.below hb6 hg65.lt) (And.intro (hx0.near (Near.below hb6)) (hx1.near (Near.below hb6)))))
      clear hgw hp5 hA5 hP5 hg65 hx0 hx1 hb6
      go_wp2_with fail
      obtain ⟨b, off, ad0, c0, rfl, -, d0, hc0, hc0m, hB0, -⟩ := H5.out.2.2.1
      obtain ⟨b', off', ad1, c1, e1, -, d1, hc1, hc1m, hB1, -⟩ := H5.out.2.2.2
      injection e1 with e1
      obtain ⟨rfl, rfl⟩ : b = b' ∧ off = off' := by injection e1 with e1 e2; exact ⟨e1, e2⟩
      have H6 := Lib.hid (And.intro hB0 hB1)
      have hw6 : Below (w5.alloc (.cells #[.int .i64 root.1, .int .i64 root.2.1] 23)).heap.size (w5.alloc (.cells #[.int .i64 root.1, .int .i64 root.2.1] 23)) (w5.alloc (.cells #[.int .i64 root.1, .int .i64 root.2.1] 23)).drew := (Below.refl _ _).drew
      have HW6 := Lib.hid hw6
      have hc : Blk (w5.alloc (.cells #[.int .i64 root.1, .int .i64 root.2.1] 23)).drew w5.heap.size 23 #[.int .i64 root.1, .int .i64 root.2.1] ∧ (w5.alloc (.cells #[.int .i64 root.1, .int .i64 root.2.1] 23)).drew.cell? ⟨b, off + 0 * 3, none⟩ = some (.slice (some ad0) p0.1.length c0) ∧ (w5.alloc (.cells #[.int .i64 root.1, .int .i64 root.2.1] 23)).drew.cell? ⟨b, off + (n - 1) * 3, none⟩ = some (.slice (some ad1) p1.1.length c1) := ⟨hb20, d0, d1⟩
      have hlt0 := World.block_lt_of_cell? _ _ d0
      clear d0 d1 hc0 hc0m hc1 hc1m hB0 hB1 e1 hb20 hw6 hm15 hlt hi
      generalize (w5.alloc (.cells #[.int .i64 root.1, .int .i64 root.2.1] 23)) = w6 at H5 H6 HW6 hc hlt0 ⊢
      refine wp_region_tree (fun w' => Blk w' w5.heap.size 23 #[.int .i64 root.1, .int .i64 root.2.1] ∧ w'.cell? ⟨b, off + 0 * 3, none⟩ = some (.slice (some ad0) p0.1.length c0) ∧ w'.cell? ⟨b, off + (n - 1) * 3, none⟩ = some (.slice (some ad1) p1.1.length c1)) [] (PlanT.takes [1, 2, 3, 4, 5, 8, 9, 10, 11, 12, 13] (PlanT.takes [0, 6, 14] (.opt 7 (.opt 15 (PlanT.takes [16] (.opt 17 (PlanT.takes [18] .done) .no)) .no) .no))) (by kernel_rfl) (by kernel_rfl) (hc) ?_
      refine wpTree_pure _ _ _ (by rfl) (by rfl) ?_
      dsimp only [List.filterMap, List.getElem?_cons_zero, List.getElem?_cons_succ]
      repeat (go_big_quiet_step (fail))
      refine wpQuiet_nil ?_
      refine wpTree_takeL _ _ _ (by rfl) (by rfl) (hc) ?_
      dsimp only [List.filterMap, List.getElem?_cons_zero, List.getElem?_cons_succ]
      (refine wpQuiet_load_blk (fun w' hw' => hw'.1) (by rfl) _ _ (by rfl) (by rfl) _ Tryd.underlying23 (by rfl) (size_ref) (by rfl) ?_; simp only [Act.put, List.setIfInBounds_toArray, List.set_cons_zero, List.set_cons_succ])
      (refine wpQuiet_load_cell (fun w' hw' => hw'.2.1) (by rfl) _ _ (by rfl) (by rfl) _ Tryd.underlying44 (by rfl) ?_; simp only [Act.put, List.setIfInBounds_toArray, List.set_cons_zero, List.set_cons_succ])
      (refine wpQuiet_load_cell (fun w' hw' => hw'.2.2) (by rfl) _ _ (by rfl) (by rfl) _ Tryd.underlying44 (by rfl) ?_; simp only [Act.put, List.setIfInBounds_toArray, List.set_cons_zero, List.set_cons_succ])
      refine wpQuiet_nil ?_
      refine wpTree_one _ rfl ?_
      go_wp2_with fail
      refine (bclone_any ad0 c0 p0.1 _ (Bytes.below H6.out.1 HW6.out) (by have := HI.out.2.2.2.1; omega)).mono ?_
      rintro e w7 ⟨fv, sf, rfl, hof, hb7⟩
      obtain ⟨Af, cf, rfl, -, -, -⟩ := OwnB.open_ hof
      have hs7 : Below w6.heap.size w6 w7 := HW6.out.trans hb7
      have hc7 : Blk w7 w5.heap.size 23 #[.int .i64 root.1, .int .i64 root.2.1] ∧ w7.cell? ⟨b, off + 0 * 3, none⟩ = some (.slice (some ad0) p0.1.length c0) ∧ w7.cell? ⟨b, off + (n - 1) * 3, none⟩ = some (.slice (some ad1) p1.1.length c1) := ⟨hc.1.below hb7 hc.1.lt, (hb7.cell (p := ⟨b, off + 0 * 3, none⟩) hlt0).trans hc.2.1, (hb7.cell (p := ⟨b, off + (n - 1) * 3, none⟩) hlt0).trans hc.2.2⟩
      have H7 := Lib.hid (And.intro hof (And.intro hs7 (And.intro trivial (H5.out.2.1.below hs7 H5.out.2.1.lt))))
      clear hof hb7 hs7 hc
      go_wp2_with fail
      refine TreeQ.in_ hc7 ?_
      refine wpTree_one _ rfl ?_
      go_wp2_with fail
      refine (bclone_any ad1 c1 p1.1 _ (Bytes.below H6.out.2 H7.out.2.1) (by have := HI.out.2.2.2.2; omega)).mono ?_
      rintro e w8 ⟨lv, sl, rfl, hol, hb8⟩
      obtain ⟨Al, cl, rfl, -, -, -⟩ := OwnB.open_ hol
      have hs8 : Below w6.heap.size w6 w8 := H7.out.2.1.trans (hb8.mono H7.out.2.1.size)
      have hc8 : Blk w8 w5.heap.size 23 #[.int .i64 root.1, .int .i64 root.2.1] ∧ w8.cell? ⟨b, off + 0 * 3, none⟩ = some (.slice (some ad0) p0.1.length c0) ∧ w8.cell? ⟨b, off + (n - 1) * 3, none⟩ = some (.slice (some ad1) p1.1.length c1) := ⟨hc7.1.below hb8 hc7.1.lt, (hb8.cell (p := ⟨b, off + 0 * 3, none⟩) (Nat.lt_of_lt_of_le hlt0 H7.out.2.1.size)).trans hc7.2.1, (hb8.cell (p := ⟨b, off + (n - 1) * 3, none⟩) (Nat.lt_of_lt_of_le hlt0 H7.out.2.1.size)).trans hc7.2.2⟩
      have hg68 := H7.out.2.2.2.below hb8 H7.out.2.2.2.lt
      have hwsz : w.heap.size ≤ w6.heap.size := by have := H5.out.2.1.lt; omega
      have H8 := Lib.hid (And.intro (OwnsC.base_ (OwnsC.ownBelow H7.out.1 hb8) (Nat.le_trans hwsz HW6.out.size)) (And.intro (OwnsC.base_ hol (Nat.le_trans hwsz H7.out.2.1.size)) (And.intro (H5.out.1.below hs8) hs8.size)))
      clear hol hb8 hs8 hc7
      go_wp2_with fail
      refine TreeQ.in_ hc8 ?_
      refine wpTree_pure _ _ _ (by rfl) (by rfl) ?_
      dsimp only [List.filterMap, List.getElem?_cons_zero, List.getElem?_cons_succ]
      repeat (go_big_quiet_step (fail))
      refine wpQuiet_nil ?_
      refine wpTree_one _ rfl ?_
      go_wp2_with (first
        | ((with_reducible show wpList _ _ _ ((⟨none, _, _, _, _, _⟩ : Oper) :: _) _ _); refine wpList_store_blk (o := ⟨none, _, _, _, _, _⟩) (hg68) (by rfl) _ _ _ (by rfl) (by rfl) (#[.int .i64 root.1, .int .i64 root.2.1, .int .i64 (n : Int), .slice Af p0.1.length cf, .slice Al p1.1.length cl]) (by rfl) (sizeRun) (by rfl) (by rfl) (by simp [Value.oneCell']) ?_; intro w9 h9 hu9; refine stopped ?_)
        | fail)
      refine Stopped.mk ?_
      have hc9 : Blk w9 w5.heap.size 23 #[.int .i64 root.1, .int .i64 root.2.1] ∧ w9.cell? ⟨b, off + 0 * 3, none⟩ = some (.slice (some ad0) p0.1.length c0) ∧ w9.cell? ⟨b, off + (n - 1) * 3, none⟩ = some (.slice (some ad1) p1.1.length c1) := by
        have hne : b ≠ w.heap.size := by have := HBW.out _ rfl; exact fun e => by rw [e] at this; exact Nat.lt_irrefl _ this
        have hbk := hu9.block b hne
        exact ⟨hc8.1.upd hu9 (hc8.1.apart hg68 (by decide)), (World.cell?_of_block hbk).trans hc8.2.1, (World.cell?_of_block hbk).trans hc8.2.2⟩
      have hup := H8.out.2.2.1.upd hu9 (Nat.le_refl _) (fun q' hq' => hq'.offT hg68 (by decide))
      have hf9 := OwnB.upd H8.out.1 hu9 (fun e => by obtain ⟨cs, hb⟩ := ownBlk H8.out.1 e; exact hb.apart hg68 (by decide) rfl)
      have hl9 := OwnB.upd H8.out.2.1 hu9 (fun e => by obtain ⟨cs, hb⟩ := ownBlk H8.out.2.1 e; exact hb.apart hg68 (by decide) rfl)
      have H9 := Lib.hid (And.intro hup (And.intro hf9 hl9))
      clear hup hf9 hl9 hu9 hc8 hg68
      go_wp2_with fail
      refine TreeQ.in_ hc9 ?_
      refine wpTree_pure _ _ _ (by rfl) (by rfl) ?_
      dsimp only [List.filterMap, List.getElem?_cons_zero, List.getElem?_cons_succ]
      repeat (go_big_quiet_step (fail))
      refine wpQuiet_nil ?_
      refine wpTree_done ?_
      clear hc9
      go_wp2_with fail
      refine bodyPost_ret (results_row_tmp (by rfl) _ _ w.heap.size _ _ _ (by rfl) h9 Tryd.underlying111 (by rfl) sizeRun) rfl ?_
      refine ⟨_, _, sf, sl, rfl, H9.out.2.1, H9.out.2.2, ?_⟩
      rw [← H2.out.2.2.2.2.1]
      exact H9.out.1
    have hok := HW.out.2.2.2.2.2.1
    have hlb : i < ((ppack l).2.map gbody).length := by rw [List.length_map, ← H2.out.2.2.2.2.1]; exact hlt
    have hlk : i < ((ppack l).2.map gkey).length := by rw [HS.out.2]; exact hlt
    obtain ⟨bb, ob, hAbe, hbb, hbc⟩ := (H3.out.2.2.1.near hA.near) (by omega)
    obtain ⟨kb, ko, hAke, hkb, hkc⟩ := H3.out.2.2.2 (by omega)
    subst hAbe hAke
    obtain ⟨A1, c1, d1, hc1, hc1m, hB1, -⟩ := hbc i hlb
    obtain ⟨A2, c2, d2, hc2, hc2m, hB2, hN2⟩ := hkc i hlk
    have hput := HW.out.2.2.2.2.2.2.1.data i hlb
    have hbl := gbody_ok hok (List.getElem_mem hlb)
    have hkl := (gkey_ok hok (List.getElem_mem hlk)).2
    have hkt := kbytes_take hlk
    have hil : (kbytes (((ppack l).2.map gkey).take i)).length ≤ 33 * 512 := by
      have := kbytes_le (((ppack l).2.map gkey).take i) (fun k hk => (gkey_ok hok (List.mem_of_mem_take hk)).2)
      rw [List.length_take] at this
      omega
    generalize ((ppack l).2.map gbody)[i] = bd at d1 hc1 hB1 hput hbl
    generalize hky : ((ppack l).2.map gkey)[i] = ky at d2 hc2 hB2 hN2 hkl hkt
    have hgw := gwrite_any hA.grid 1 s none A1 0 0 bd.length c1 [] bd rfl rfl (by simp) (by omega) (fun h => absurd h (by simp)) hB1 (Tab.near (HW.out.2.1.below H3.out.1) hA.near HW.out.2.2.1)
    rw [hput, hA.gg] at hgw
    have hlt3 : kb < w3.heap.size := World.block_lt_of_cell? _ _ d2
    have HI := Lib.hid (And.intro hA (And.intro hkt (And.intro hil (And.intro d2 (And.intro hlt3 (And.intro hkb (And.intro hB2 hN2)))))))
    have hk256 : ky.length < 256 := by omega
    clear hA hkt hky hil hbc hkc hB1 hB2 hN2 hput hc1m hc2m hc1 hc2 d2 hbb hkb hlt3
    clear hlk hlb
    go_wp2_with fail
    refine hgw.mono ?_
    rintro e w5 ⟨rfl, hp5⟩
    obtain ⟨q5, hA5⟩ := HI.out.1.wrote hp5
    have hA6 := hA5.below ((Below.refl _ _).alloc (Nat.le_refl _) (.cells #[.int .i64 (R i).1, .int .i64 (R i).2.1] 23))
    have hA7 := hA6.below ((Below.refl _ _).alloc (Nat.le_refl _) (.cells #[.int .i64 (R i).1, .int .i64 (R i).2.1] 23))
    have hb18 := Blk.new w5 23 #[.int .i64 (R i).1, .int .i64 (R i).2.1]
    have hra : Reads ((w5.alloc (.cells #[.int .i64 (R i).1, .int .i64 (R i).2.1] 23)).alloc (.cells #[.int .i64 (R i).1, .int .i64 (R i).2.1] 23)) (some ⟨w5.heap.size + 1, 0, none⟩) [.int .i64 (R i).1, .int .i64 (R i).2.1] := by
      have := reads_new (w5.alloc (.cells #[.int .i64 (R i).1, .int .i64 (R i).2.1] 23)) 23 [.int .i64 (R i).1, .int .i64 (R i).2.1]
      simpa using this
    have H7 := Lib.hid (And.intro hA7 hra)
    clear hgw hp5 hA5 hA6 hA7 hra
    go_wp2_with (first
      | ((with_reducible show wpList _ _ _ ((⟨some 74, _, _, _, _, _⟩ : Oper) :: _) _ _); refine wpList_load_blk (o := ⟨some 74, _, _, _, _, _⟩) (hb18) (by rfl) _ _ (by rfl) (by rfl) _ Tryd.underlying23 (by rfl) (size_ref) (by rfl) ?_)
      | ((with_reducible show wpList _ _ _ ((⟨some 76, _, _, _, _, _⟩ : Oper) :: _) _ _); refine wpList_append_vals (o := ⟨some 76, _, _, _, _, _⟩) (by rfl) _ _ _ (by rfl) w3.heap.size 23 (.agg #[.int .i64 0, .int .i64 0]) 2 16 Tryd.underlying29 infoRef (by rfl) (by omega) u14 i (refCells ((List.range i).map R)) sp1 (by rfl) (by have := H7.out.1.refs; rwa [List.length_map, List.length_range] at this) (some ⟨w5.heap.size + 1, 0, none⟩) 1 1 [.int .i64 (R i).1, .int .i64 (R i).2.1] (by rfl) (by rfl) H7.out.2 (by simp [Value.oneCell']) (by simp only [maxLen]; omega) (by omega) H7.out.1.near.size ?_; intro v' W8 sp8 ho8 hg8 hv8 hn8; refine stopped ?_)
      | fail)
    refine Stopped.mk ?_
    have hA8 := H7.out.1.ref (r := R i) (by rw [List.length_map, List.length_range]; exact ho8) hg8 hv8
    rw [show (List.range i).map R ++ [R i] = (List.range (i + 1)).map R by rw [List.range_succ, List.map_append]; rfl] at hA8
    have hA9 := hA8.below (Below.refl W8.heap.size W8).drew
    have hc9 : W8.drew.cell? ⟨kb, ko + i, none⟩ = some (.slice A2 ky.length c2) := (hA9.near.cell (p := ⟨kb, ko + i, none⟩) HI.out.2.2.2.2.1 HI.out.2.2.2.2.2.1).trans HI.out.2.2.2.1
    have H9 := Lib.hid hA8
    obtain ⟨A8, c8, rfl, -, -, -, -⟩ := OwnsC.reads ho8
    clear hA8 hA9 ho8 hg8 hv8 hn8 hb18 H7 d1
    go_wp2_with fail
    refine wp_region_tree (fun w' => w'.cell? ⟨kb, ko + i, none⟩ = some (.slice A2 ky.length c2)) [] (PlanT.takes [0, 1, 2, 3, 9, 10, 11] (PlanT.takes [4, 12] (PlanT.takes [5, 6] (.opt 7 (.opt 8 (.opt 13 (PlanT.takes [14] .done) .no) .no) .no)))) (by kernel_rfl) (by kernel_rfl) (hc9) ?_
    refine wpTree_pure _ _ _ (by rfl) (by rfl) ?_
    dsimp only [List.filterMap, List.getElem?_cons_zero, List.getElem?_cons_succ]
    repeat (go_big_quiet_step (fail))
    refine wpQuiet_nil ?_
    refine wpTree_takeL _ _ _ (by rfl) (by rfl) (hc9) ?_
    dsimp only [List.filterMap, List.getElem?_cons_zero, List.getElem?_cons_succ]
    (refine wpQuiet_load_cell (fun w' hw' => hw') (by rfl) _ _ (by rfl) (by rfl) _ Tryd.underlying44 (by rfl) ?_; simp only [Act.put, List.setIfInBounds_toArray, List.set_cons_zero, List.set_cons_succ])
    (refine wpQuiet_load_cell (fun w' hw' => hw') (by rfl) _ _ (by rfl) (by rfl) _ Tryd.underlying44 (by rfl) ?_; simp only [Act.put, List.setIfInBounds_toArray, List.set_cons_zero, List.set_cons_succ])
    refine wpQuiet_nil ?_
    refine wpTree_pure _ _ _ (by rfl) (by rfl) ?_
    dsimp only [List.filterMap, List.getElem?_cons_zero, List.getElem?_cons_succ]
    repeat (go_big_quiet_step (fail))
    refine wpQuiet_nil ?_
    refine wpTree_one _ rfl ?_
    go_wp2_with fail
    have hb10 : Below W8.heap.size W8 (W8.alloc (.cells #[.int .u8 (ky.length : Int)] 5)).drew := ((Below.refl W8.heap.size W8).alloc (Nat.le_refl _) _).drew
    have hA10 := H9.out.below hb10
    have hlit : Bytes (W8.alloc (.cells #[.int .u8 (ky.length : Int)] 5)).drew (some ⟨W8.heap.size, 0, none⟩) [UInt8.ofNat ky.length] := lit_bytesN W8 _ _ rfl hk256
    have hc10 := (hA10.near.cell (p := ⟨kb, ko + i, none⟩) HI.out.2.2.2.2.1 HI.out.2.2.2.2.2.1).trans HI.out.2.2.2.1
    have H10 := Lib.hid (And.intro hA10 hlit)
    clear hb10 hA10 hlit hc9
    generalize (W8.alloc (.cells #[.int .u8 (ky.length : Int)] 5)).drew = w10 at H10 hc10 ⊢
    have hil := HI.out.2.2.1
    refine TreeQ.in_ hc10 ?_
    refine wpTree_one _ rfl ?_
    go_wp2_with (first
      | ((with_reducible show wpList _ _ _ ((⟨some 85, _, _, _, _, _⟩ : Oper) :: _) _ _); refine wpList_append_bytes (o := ⟨some 85, _, _, _, _, _⟩) (by rfl) _ _ _ (by rfl) (w3.heap.size) _ Tryd.underlying44 u8info (u15) (kbytes (((ppack l).2.map gkey).take i)) (sp2) (by rfl) (H10.out.1.ix) (some ⟨W8.heap.size, 0, none⟩) (1) ([UInt8.ofNat ky.length]) (by first | rfl | simp) (H10.out.2) (by first | omega | (simp; omega)) (H10.out.1.near.size) ?_; intro v11 w11 sp11 ho11 hg11 _ _; refine stopped ?_)
      | fail)
    refine Stopped.mk ?_
    have hA11 := H10.out.1.more ho11 hg11
    have hc11 := (hA11.near.cell (p := ⟨kb, ko + i, none⟩) HI.out.2.2.2.2.1 HI.out.2.2.2.2.2.1).trans HI.out.2.2.2.1
    have hby11 := bytes_nearN HI.out.2.2.2.2.2.2.1 hA11.near HI.out.2.2.2.2.2.2.2
    have H11 := Lib.hid (And.intro hA11 hby11)
    obtain ⟨A11, c11, rfl, -, -, -⟩ := OwnB.open_ ho11
    clear ho11 hg11 hA11 hby11 hc10
    go_wp2_with fail
    refine TreeQ.in_ hc11 ?_
    refine wpTree_one _ rfl ?_
    go_wp2_with (first
      | ((with_reducible show wpList _ _ _ ((⟨some 90, _, _, _, _, _⟩ : Oper) :: _) _ _); refine wpList_append_bytes (o := ⟨some 90, _, _, _, _, _⟩) (by rfl) _ _ _ (by rfl) (w3.heap.size) _ Tryd.underlying44 u8info (_) (kbytes (((ppack l).2.map gkey).take i) ++ [UInt8.ofNat ky.length]) (sp11) (by rfl) (H11.out.1.ix) (A2) (c2) (ky) (by first | rfl | simp) (H11.out.2) (by first | omega | (simp; omega)) (H11.out.1.near.size) ?_; intro v12 w12 sp12 ho12 hg12 _ _; refine stopped ?_)
      | fail)
    refine Stopped.mk ?_
    have hA12 := H11.out.1.more ho12 hg12
    have hc12 := (hA12.near.cell (p := ⟨kb, ko + i, none⟩) HI.out.2.2.2.2.1 HI.out.2.2.2.2.2.1).trans HI.out.2.2.2.1
    rw [← HI.out.2.1] at hA12
    have H12 := Lib.hid hA12
    clear ho12 hg12 hA12 hc11
    go_wp2_with fail
    refine TreeQ.in_ hc12 ?_
    refine wpTree_pure _ _ _ (by rfl) (by rfl) ?_
    dsimp only [List.filterMap, List.getElem?_cons_zero, List.getElem?_cons_succ]
    repeat (go_big_quiet_step (fail))
    refine wpQuiet_nil ?_
    refine wpTree_done ?_
    clear hc12
    go_wp2_with fail
    go_roundw
    case rel => exact ⟨i + 1, q5, sp8, sp12, by rw [HS.out.2]; exact hlt, rfl, H12.out⟩
    case measure => exact meas_up (i := i) (m := m) rfl rfl hlt
end Go.Proofs.YthfdjemlibecgaaDoor

/- A list of refs is cloned; what a grid wants is told: its Wanted. Conditions: the list can be read; the grid is known. -/
namespace Go.Proofs.YthfdjemlibecgaaDoor
open Go.RowKit
def RefsTold (l : List RefT) (w : World) (e : Ending) (w' : World) : Prop := ∃ A c, e = .returned (.slice A l.length c) ∧ Refs w' A l ∧ (∀ ad, A = some ad → w.heap.size ≤ ad.block) ∧ Below w.heap.size w w'
set_option maxRecDepth 100000 in
set_option maxHeartbeats 2000000 in
theorem cloneRefs_any (A : Option Addr) (n c : Nat) (l : List RefT) (w : World) (hn : n = l.length) (hl : l.length ≤ 1099511627776) (hr : Refs w A l) :
    Calls Tryd.prog 89 #[.slice A n c] w (RefsTold l w) := by
  cases A with
  | none =>
    have hl0 : l = [] := by
      rcases Nat.eq_zero_or_pos l.length with h | h
      · exact List.eq_nil_of_length_eq_zero h
      · obtain ⟨b, off, e, -⟩ := hr h
        cases e
    subst hl0
    subst hn
    clear hr hl
    have he : ∀ w', (binOp .eql 29 (.slice none 0 c) (.slice none 0 0)).run Tryd.prog w' = .ok (.bool true) w' := fun w' => Lib.run_eql_slice_nil w' 29 23 none _ _ _ _ Tryd.underlying29
    go_enter Tryd.func89, Tryd.ntmps89
    go_wp2
    go_ret
    exact ⟨none, 0, rfl, (fun h => absurd h (by simp)), (fun _ e => by cases e), Below.refl _ _⟩
  | some ad =>
    subst hn
    have hB := (Below.refl w.heap.size w).alloc (Nat.le_refl _) (.cells #[] 23)
    have hr1 := (hr.below hB).reads
    have ho : OwnsC 23 2 (w.alloc (.cells #[] 23)) w.heap.size (.slice (some ⟨w.heap.size, 0, none⟩) 0 0) 0 [] [] := by
      have := OwnsC.lit (e := 23) (size := 2) (base := w.heap.size) w #[] 0 (by simp) (by simp) (by simp)
      simpa using this
    have hs1 : w.heap.size ≤ (w.alloc (.cells #[] 23)).heap.size := by simp
    have H0 := Lib.hid (And.intro hB (And.intro hr1 (And.intro ho hs1)))
    have HL := Lib.hid hl
    clear hB hr1 ho hs1 hr hl
    have he : ∀ w', (binOp .eql 29 (.slice (some ad) l.length c) (.slice none 0 0)).run Tryd.prog w' = .ok (.bool false) w' := fun w' => Lib.run_eql_slice_nil w' 29 23 (some ad) _ _ _ _ Tryd.underlying29
    go_enter Tryd.func89, Tryd.ntmps89
    go_wp2_with (first
      | ((with_reducible show wpList _ _ _ ((⟨some 7, _, _, _, _, _⟩ : Oper) :: _) _ _); generalize (w.alloc (.cells #[] 23)) = w1 at H0 ⊢; refine wpList_append_vals (o := ⟨some 7, _, _, _, _, _⟩) (by rfl) _ _ _ (by rfl) w.heap.size 23 (.agg #[.int .i64 0, .int .i64 0]) 2 16 Tryd.underlying29 infoRef (by rfl) (by omega) _ 0 [] [] (by rfl) H0.out.2.2.1 (some ad) l.length c (refCells l) (by rfl) (refCells_length l) H0.out.2.1 (refCells_one l) (by have := HL.out; unfold maxLen; omega) (by have := HL.out; omega) H0.out.2.2.2 ?_; intro v2 w2 sp2 ho2 hg2 hv2 hn2)
      | fail)
    go_ret
    rw [Nat.zero_add, List.nil_append] at ho2
    have hlt := OwnsC.lt ho2
    obtain ⟨A2, c2, rfl, -, -, hrd, -⟩ := OwnsC.reads ho2
    refine ⟨A2, c2, rfl, Refs.of hrd, (fun ad2 e => (hlt ad2.block (by rw [e]; rfl)).1), ?_⟩
    exact H0.out.1.grown hg2 H0.out.1.size (fun k hk => by simp [Value.ownBlock] at hk; omega)
section
variable {w : World} {q : GPl} {g : Grd} {d : Dsk} {f : Option Fus}
set_option maxRecDepth 100000 in
theorem gwanted_any (h : GridR w q g d f) (hl : g.W.length ≤ 1099511627776) : Calls Tryd.prog 30 #[.pointer (some ⟨q.gg, 0, none⟩)] w (RefsTold g.W w) := by
  obtain ⟨wv, sp, h1, h2, h3⟩ := h.wn
  obtain ⟨B, c, rfl, -, -, hrd, -⟩ := OwnsC.reads h3
  have d4 := h2.at_ 4 (v := .slice B g.W.length c) rfl
  have hn := gnone_any h
  have hc := cloneRefs_any B g.W.length c g.W w rfl hl (Refs.of hrd)
  clear h h1 h2 h3 hrd
  go_enter Tryd.func30, Tryd.ntmps30
  go_wp2_with fail
  refine hn.mono ?_
  rintro e w1 ⟨rfl, hw⟩
  obtain rfl := hw.symm
  clear hn hw
  go_wp2_with fail
  refine hc.mono ?_
  rintro e w2 ⟨A2, c2, rfl, h4⟩
  have H4 := Lib.hid h4
  clear h4 hc
  go_wp2
  go_ret
  exact ⟨A2, c2, rfl, H4.out⟩
end
end Go.Proofs.YthfdjemlibecgaaDoor

/- A block is written to a grid whose disk holds; a grid that a statement made. Plain facts of this program. No condition. -/
namespace Go.Proofs.YthfdjemlibecgaaDoor
open Go.RowKit
theorem gput_ok {g : Grd} {d : Dsk} {k s : Int} {l : List RefT} {m : List UInt8} (h : Rm d g.n) (hg : g.L.length = g.n) (hset : SetOk g.L) (hok : GB.ok (k, (1, s, ()), l, m, ()) = true) (he : acqE g.L = 0) :
    ∃ d', gput g d none k l m s = ((0, (acqN g.L, s, ())), { g with L := acqL g.L }, d', none) ∧ Rm d' g.n ∧ d'.N = d.N ∧ gblk d' (acqN g.L) = GB.bytes (k, (acqN g.L, s, ()), l, m, ()) ∧ ∀ c, 1 ≤ c → c ≤ (g.n : Int) → c ≠ acqN g.L → gblk d' c = gblk d c := by
  obtain ⟨h1, h2, h3⟩ := acq_range hset (show ¬ acqE g.L ≠ 0 by rw [he]; simp)
  have hok2 := GB.ok_at hok h1 h3
  obtain ⟨d', e1, e2, e3, e4, e5⟩ := gwrite h h1 (hg ▸ h2) (GB.bytes_length (k, (acqN g.L, s, ()), l, m, ()) (GB.ok_spec hok2).2.2.1 (GB.ok_spec hok2).2.2.2.1)
  refine ⟨d', ?_, e2, e3, e4, e5⟩
  unfold gput
  rw [if_neg (by unfold Dsk.isOut; rw [h.out]; simp), if_neg (by rw [hok]; simp), if_neg (by rw [he]; simp), e1, if_neg (by simp)]
/-- A grid that was made since, and its disk. -/
def GL (B : Nat) (w : World) (gp dp : Nat) (g : Grd) (d : Dsk) : Prop := ∃ q : GPl, q.gg = gp ∧ q.p.gd = dp ∧ q.gf = none ∧ GridR w q g d none ∧ ∀ x ∈ q.all, B ≤ x
section
variable {B gp dp : Nat} {w w' : World} {g : Grd} {d : Dsk}
theorem GL.below (h : GL B w gp dp g d) (k : Below w.heap.size w w') : GL B w' gp dp g d := by
  obtain ⟨q, h1, h2, h3, h4, h5⟩ := h
  exact ⟨q, h1, h2, h3, h4.below k, h5⟩
theorem GL.of_post {q : GPl} {g2 : Grd} {d2 : Dsk} {f : Option Fus} (e1 : q.gg = gp) (e2 : q.p.gd = dp) (e3 : q.gf = none) (e4 : ∀ x ∈ q.all, B ≤ x) (hs : B ≤ w.heap.size) (h : GPost w q g2 d2 f w') : GL B w' gp dp g2 d2 ∧ Below B w w' := by
  obtain ⟨q', k1, k2, k3, k4, k5, k6⟩ := h
  have hf : f = none := by
    have := k4.dk.fr
    rw [k3, e3] at this
    exact this.none_
  subst hf
  exact ⟨⟨q', k1.trans e1, (congrArg Pl.gd k2).trans e2, k3.trans e3, k4, fun x hx => (k6 x hx).elim (e4 x) (fun k => Nat.le_trans hs k)⟩, k5.toBelow e4 hs⟩
instance : KeepsTo w w' (GL B w gp dp g d) (GL B w' gp dp g d) := ⟨fun hb h => h.below hb⟩
end
end Go.Proofs.YthfdjemlibecgaaDoor

/- A table in a grid that was made: which blocks are written, and what is read out of them. Plain facts. No condition. -/
namespace Go.Proofs.YthfdjemlibecgaaDoor
open Go.RowKit
theorem cL_acq20 {n i : Nat} (h : i < n) (hn : n ≤ 20) : acqN (cL n i) = (i : Int) + 1 ∧ acqE (cL n i) = 0 ∧ acqL (cL n i) = cL n (i + 1) := by
  have key : ∀ m : Fin 21, ∀ j : Fin 21, j.1 < m.1 → acqN (cL m.1 j.1) = ((j.1 : Nat) : Int) + 1 ∧ acqE (cL m.1 j.1) = 0 ∧ acqL (cL m.1 j.1) = cL m.1 (j.1 + 1) := by decide +kernel
  exact key ⟨n, by omega⟩ ⟨i, by omega⟩ h
theorem cL_ok20 {n i : Nat} (h : i ≤ n) (hn : n ≤ 20) : SetOk (cL n i) ∧ (cL n i).length = n := by
  have hl : (cL n i).length = n := by unfold cL; simp; omega
  refine ⟨⟨by omega, fun k => ?_⟩, hl⟩
  unfold cL
  rw [List.getD_eq_getElem?_getD, List.getElem?_append]
  split
  · rw [List.getElem?_replicate]; split <;> simp
  · rw [List.getElem?_replicate]; split <;> simp
/-- The ref of a block; the blocks; the disk behind each. -/
def tk (s : Int) (i : Nat) : RefT := ((i : Int) + 1, s, ())
def tb (s : Int) (bs : List (List UInt8)) (ix : List UInt8) (i : Nat) : GBT := if i < bs.length then (1, tk s i, [], bs.getD i [], ()) else (2, tk s i, (List.range bs.length).map (tk s), ix, ())
def tG (n i : Nat) : Grd := ⟨n, cL n i, []⟩
def tD (n : Nat) (s : Int) (bs : List (List UInt8)) (ix : List UInt8) (d : Dsk) : Nat → Dsk
  | 0 => d
  | j + 1 => (gput (tG n j) (tD n s bs ix d j) none (tb s bs ix j).1 (tb s bs ix j).2.2.1 (tb s bs ix j).2.2.2.1 s).2.2.1
section
variable {n : Nat} {s : Int} {bs : List (List UInt8)} {ix : List UInt8} {d : Dsk} {N j : Nat}
theorem tk_ok (hs1 : 0 ≤ s) (hs2 : s ≤ 1073741824) {i : Nat} (hi : i < 512) : refOk (tk s i) = true := by
  show (decide (1 ≤ (i : Int) + 1) && decide ((i : Int) + 1 ≤ 512) && decide (0 ≤ s) && decide (s ≤ 1073741824)) = true
  simp only [Bool.and_eq_true, decide_eq_true_eq]
  omega
theorem tb_ok (hs1 : 0 ≤ s) (hs2 : s ≤ 1073741824) (hm : bs.length ≤ 16) (hb : ∀ b ∈ bs, b.length ≤ 860) (hix : ix.length ≤ 860) {i : Nat} (hi : i < 512) (r : RefT) (hr : refOk r = true) : GB.ok ((tb s bs ix i).1, r, (tb s bs ix i).2.2.1, (tb s bs ix i).2.2.2.1, ()) = true := by
  unfold tb
  by_cases h : i < bs.length
  · rw [if_pos h]
    simp only [GB.ok, Bool.and_eq_true, decide_eq_true_eq, List.all_eq_true]
    refine ⟨⟨⟨⟨⟨by omega, by omega⟩, hr⟩, by simp⟩, ?_⟩, by simp⟩
    rw [List.getD_eq_getElem?_getD, List.getElem?_eq_getElem h]
    exact hb _ (List.getElem_mem h)
  · rw [if_neg h]
    simp only [GB.ok, Bool.and_eq_true, decide_eq_true_eq, List.all_eq_true]
    refine ⟨⟨⟨⟨⟨by omega, by omega⟩, hr⟩, by simpa using hm⟩, hix⟩, fun x hx => ?_⟩
    obtain ⟨j, hj, rfl⟩ := List.mem_map.1 hx
    exact tk_ok hs1 hs2 (by have := List.mem_range.1 hj; omega)
/-- So many blocks were written. -/
structure TWr (n : Nat) (s : Int) (bs : List (List UInt8)) (ix : List UInt8) (N : Nat) (j : Nat) (d : Dsk) : Prop where
  rm : Rm d n
  N : d.N = N
  blk : ∀ i, i < j → gblk d ((i : Int) + 1) = GB.bytes (tb s bs ix i)
theorem tb_ref (i : Nat) : (tb s bs ix i).2.1 = tk s i := by unfold tb; split <;> rfl
theorem tput (hs1 : 0 ≤ s) (hs2 : s ≤ 1073741824) (hm : bs.length ≤ 16) (hb : ∀ b ∈ bs, b.length ≤ 860) (hix : ix.length ≤ 860) (hn : n ≤ 20) {N : Nat} (hd : Rm d n) (hN : d.N = N) : ∀ (j : Nat), j ≤ n → TWr n s bs ix N j (tD n s bs ix d j) ∧ (j < n → gput (tG n j) (tD n s bs ix d j) none (tb s bs ix j).1 (tb s bs ix j).2.2.1 (tb s bs ix j).2.2.2.1 s = ((0, tk s j), tG n (j + 1), tD n s bs ix d (j + 1), none)) := by
  have step : ∀ (j : Nat), j < n → TWr n s bs ix N j (tD n s bs ix d j) → TWr n s bs ix N (j + 1) (tD n s bs ix d (j + 1)) ∧ gput (tG n j) (tD n s bs ix d j) none (tb s bs ix j).1 (tb s bs ix j).2.2.1 (tb s bs ix j).2.2.2.1 s = ((0, tk s j), tG n (j + 1), tD n s bs ix d (j + 1), none) := fun j hj h => by
    obtain ⟨k1, k2, k3⟩ := cL_acq20 hj hn
    obtain ⟨k4, k5⟩ := cL_ok20 (Nat.le_of_lt hj) hn
    obtain ⟨d', e1, e2, e3, e4, e5⟩ := gput_ok (g := tG n j) (k := (tb s bs ix j).1) (s := s) (l := (tb s bs ix j).2.2.1) (m := (tb s bs ix j).2.2.2.1) h.rm k5 k4 (tb_ok hs1 hs2 hm hb hix (by omega) (1, s, ()) (tk_ok (i := 0) hs1 hs2 (by omega))) k2
    have eD : tD n s bs ix d (j + 1) = d' := by show (gput _ _ _ _ _ _ _).2.2.1 = d'; rw [e1]
    simp only [tG] at k1 k3 e1 e4 e5 ⊢
    rw [k1, k3] at e1
    rw [k1] at e4 e5
    refine ⟨⟨eD ▸ e2, by rw [eD, e3, h.N], fun i hi => ?_⟩, by rw [e1, eD]; rfl⟩
    rw [eD]
    by_cases hij : i = j
    · subst hij
      rw [e4, ← show (tb s bs ix i).2.1 = ((i : Int) + 1, s, ()) from tb_ref i]
    · rw [e5 ((i : Int) + 1) (by omega) (by show (i : Int) + 1 ≤ (n : Int); omega) (by omega)]
      exact h.blk i (by omega)
  have all : ∀ (j : Nat), j ≤ n → TWr n s bs ix N j (tD n s bs ix d j) := fun j => by
    induction j with
    | zero => exact fun _ => ⟨hd, hN, fun i hi => absurd hi (by omega)⟩
    | succ j ih => exact fun hj => (step j (by omega) (ih (by omega))).1
  exact fun j hj => ⟨all j hj, fun h => (step j h (all j hj)).2⟩
/-- All of a table is written. -/
theorem puts_new (hs1 : 0 ≤ s) (hs2 : s ≤ 1073741824) (hm : bs.length ≤ 16) (hb : ∀ b ∈ bs, b.length ≤ 860) (hix : ix.length ≤ 860) (hn : n ≤ 20) (hmn : bs.length + 1 ≤ n) (hd : Rm d n) : Puts s bs ix (tk s bs.length) (tG n) (tD n s bs ix d) (tk s) ∧ TWr n s bs ix d.N (bs.length + 1) (tD n s bs ix d (bs.length + 1)) := by
  refine ⟨⟨fun i h => ?_, ?_⟩, (tput hs1 hs2 hm hb hix hn hd rfl (bs.length + 1) hmn).1⟩
  · have := (tput hs1 hs2 hm hb hix hn hd rfl i (by omega)).2 (by omega)
    rw [show tb s bs ix i = (1, tk s i, [], bs[i], ()) by unfold tb; rw [if_pos h, List.getD_eq_getElem?_getD, List.getElem?_eq_getElem h]; rfl] at this
    exact this
  · have := (tput hs1 hs2 hm hb hix hn hd rfl bs.length (by omega)).2 (by omega)
    rw [show tb s bs ix bs.length = (2, tk s bs.length, (List.range bs.length).map (tk s), ix, ()) by unfold tb; rw [if_neg (Nat.lt_irrefl _)]] at this
    exact this
theorem tk_of (hs1 : 0 ≤ s) (hs2 : s ≤ 1073741824) {g : Grd} {i : Nat} (hi : i < g.n) : g.of (tk s i) = true := by
  show (decide (1 ≤ (i : Int) + 1) && (decide ((i : Int) + 1 ≤ (g.n : Int)) && (decide (0 ≤ s) && decide (s ≤ 1073741824)))) = true
  simp only [Bool.and_eq_true, decide_eq_true_eq]
  omega
/-- What is read. -/
theorem TWr.look (h : TWr n s bs ix N j d) (hs1 : 0 ≤ s) (hs2 : s ≤ 1073741824) (hm : bs.length ≤ 16) (hb : ∀ b ∈ bs, b.length ≤ 860) (hix : ix.length ≤ 860) (hn : n ≤ 20) {i : Nat} (hi : i < j) (hjn : j ≤ n) {g : Grd} (hg : g.n = n) : glook g d none (tk s i) = (0, some (tb s bs ix i), g) := by
  have hok : GB.ok (tb s bs ix i) = true := by
    have := tb_ok hs1 hs2 hm hb hix (i := i) (by omega) (tk s i) (tk_ok hs1 hs2 (by omega))
    rw [← tb_ref (bs := bs) (ix := ix) i] at this
    exact this
  have ht : gthere d (tk s i) = some (tb s bs ix i) := by
    rw [← tb_ref (bs := bs) (ix := ix) i]
    exact gthere_some hok (by rw [tb_ref]; exact h.blk i hi)
  unfold glook
  rw [if_neg (by unfold Dsk.isOut; rw [h.rm.out]; simp), if_neg (by rw [tk_of hs1 hs2 (by omega)]; simp), ht]
/-- The table of some pairs stands there. -/
theorem table_open {l : List PairT} (hp : (ppack l).1 = 0) (h : TWr n s ((ppack l).2.map gbody) (kbytes ((ppack l).2.map gkey)) N ((ppack l).2.length + 1) d) (hs1 : 0 ≤ s) (hs2 : s ≤ 1073741824) (hn : n ≤ 20) (hmn : (ppack l).2.length + 1 ≤ n) {g : Grd} (hg : g.n = n) :
    topen g d none (tk s (ppack l).2.length) = (0, ((List.range (ppack l).2.length).map (tk s), (ppack l).2.map gkey), g) ∧ ∀ i, (hi : i < (ppack l).2.length) → tdata g d none (tk s i) = (0, (ppack l).2[i], g) := by
  obtain ⟨p1, p2, p3, p4, p5⟩ := ppack_ok hp
  have hG := pgroups_ok p4
  have hm15 := pgroups_few p4 p2
  have hne := pgroups_ne p4 p1
  have hbd : ∀ b ∈ (ppack l).2.map gbody, b.length ≤ 860 := fun b hb => gbody_ok hp hb
  have hkl := kbytes_le ((ppack l).2.map gkey) (fun k hk => (gkey_ok hp hk).2)
  have hkk : ∀ k ∈ (ppack l).2.map gkey, k.length < 256 := fun k hk => by have := (gkey_ok hp hk).2; omega
  rw [p5] at h hmn hbd hkl hkk ⊢
  rw [List.length_map] at hkl
  have hlk := fun i hi => h.look hs1 hs2 (by rw [List.length_map]; omega) hbd (by omega) hn (i := i) hi hmn hg
  refine ⟨?_, fun i hi => ?_⟩
  · have hl := hlk (pgroups l).length (by omega)
    rw [show tb s ((pgroups l).map gbody) (kbytes ((pgroups l).map gkey)) (pgroups l).length = (2, tk s (pgroups l).length, (List.range (pgroups l).length).map (tk s), kbytes ((pgroups l).map gkey), ()) by unfold tb; rw [if_neg (by rw [List.length_map]; omega), List.length_map]] at hl
    rw [topen_some (b := (2, tk s (pgroups l).length, (List.range (pgroups l).length).map (tk s), kbytes ((pgroups l).map gkey), ())) (ks := (pgroups l).map gkey) (by rw [hl]) (kparse_kbytes _ hkk), if_pos ⟨rfl, by simp [hne], by simp⟩, hl]
  · have hl := hlk i (by omega)
    rw [show tb s ((pgroups l).map gbody) (kbytes ((pgroups l).map gkey)) i = (1, tk s i, [], gbody (pgroups l)[i], ()) by unfold tb; rw [if_pos (by rw [List.length_map]; exact hi), List.getD_eq_getElem?_getD, List.getElem?_map, List.getElem?_eq_getElem hi]; rfl] at hl
    have hgm := List.getElem_mem hi
    have hga : (pgroups l)[i].all pok = true := List.all_eq_true.2 fun x hx => List.all_eq_true.1 p4 x (by rw [← hG.flat]; exact List.mem_flatten.2 ⟨_, hgm, hx⟩)
    have hso : GrSo (pgroups l) := ⟨by rw [hG.flat]; exact psorted_pair p3, hG.ne⟩
    rw [tdata_some (b := (1, tk s i, [], gbody (pgroups l)[i], ())) (by rw [hl]), if_pos ⟨rfl, rfl⟩, hl, punpack_gbody hga (pair_psorted (hso.group _ hgm)) (hG.ne _ hgm)]
/-- What Get tells of it. -/
theorem table_get {l : List PairT} (hp : (ppack l).1 = 0) (h : TWr n s ((ppack l).2.map gbody) (kbytes ((ppack l).2.map gkey)) N ((ppack l).2.length + 1) d) (hs1 : 0 ≤ s) (hs2 : s ≤ 1073741824) (hn : n ≤ 20) (hmn : (ppack l).2.length + 1 ≤ n) {g : Grd} (hg : g.n = n) (key : List UInt8) :
    tget g d none (tk s (ppack l).2.length) key = ((match pfind l key with | none => 6 | some _ => 0), (pfind l key).getD pnone, g) ∧ ∀ a b : Nat, a ≤ b → b < (topen g d none (tk s (ppack l).2.length)).2.1.2.length → key < (topen g d none (tk s (ppack l).2.length)).2.1.2.getD a [] → key < (topen g d none (tk s (ppack l).2.length)).2.1.2.getD b [] := by
  obtain ⟨ho, hda⟩ := table_open hp h hs1 hs2 hn hmn hg
  obtain ⟨p1, p2, p3, p4, p5⟩ := ppack_ok hp
  have hG := pgroups_ok p4
  have hso : GrSo (pgroups l) := ⟨by rw [hG.flat]; exact psorted_pair p3, hG.ne⟩
  have hf := find_groups hso key
  rw [hG.flat] at hf
  rw [p5] at ho hda ⊢
  refine ⟨?_, fun a b hab hb hk => ?_⟩
  · unfold tget
    rw [ho]
    simp only
    rw [if_neg (by simp)]
    by_cases hk : kbef ((pgroups l).map gkey) key = 0
    · rw [if_pos hk, hf, if_pos hk]; rfl
    · have hkl := kbef_le ((pgroups l).map gkey) key
      rw [List.length_map] at hkl
      have hi : kbef ((pgroups l).map gkey) key - 1 < (pgroups l).length := by omega
      rw [if_neg hk, show ((List.range (pgroups l).length).map (tk s)).getD (kbef ((pgroups l).map gkey) key - 1) (0, 0, ()) = tk s (kbef ((pgroups l).map gkey) key - 1) by rw [List.getD_eq_getElem?_getD, List.getElem?_map, List.getElem?_range hi]; rfl, hda _ hi]
      simp only
      rw [if_neg (by simp), hf, if_neg hk, List.getD_eq_getElem?_getD, List.getElem?_eq_getElem hi]
      rfl
  · rw [ho] at hb hk ⊢
    simp only [List.length_map] at hb hk ⊢
    rw [List.getD_eq_getElem?_getD, List.getElem?_map, List.getElem?_eq_getElem (by omega)] at hk
    rw [List.getD_eq_getElem?_getD, List.getElem?_map, List.getElem?_eq_getElem hb]
    exact hso.mono key hab hb hk
end
end Go.Proofs.YthfdjemlibecgaaDoor

/- []byte(s) of a string that is no constant. Plain facts over any program. No condition. -/
namespace Go
open Go.RowKit
theorem bytesWorld_below (w : World) (e : TypeId) (s : ByteArray) : Below w.heap.size w (Lib.bytesWorld w e s) :=
  ⟨by simp [Lib.bytesWorld, World.freeze, World.alloc, World.drew, -World.alloc_eq, -World.drew_eq], by simp [Lib.bytesWorld, World.freeze, World.alloc, World.drew, -World.alloc_eq, -World.drew_eq], by simp [Lib.bytesWorld, World.freeze, World.alloc, World.drew, -World.alloc_eq, -World.drew_eq], by rw [Lib.bytesWorld_size]; omega, fun k hk => Lib.bytesWorld_at_old w e s k hk⟩
theorem bytesWorld_bytes (w : World) (e : TypeId) (l : List UInt8) : Bytes (Lib.bytesWorld w e (str l)) (some ⟨w.heap.size, 0, none⟩) l := fun _ => ⟨w.heap.size, 0, rfl, fun j v hv => by
  rw [List.getElem?_map] at hv
  have hj : j < l.length := by
    rcases Nat.lt_or_ge j l.length with h | h
    · exact h
    · rw [List.getElem?_eq_none h] at hv; cases hv
  rw [Nat.zero_add, Lib.bytesWorld_cell w e (str l) j (by simpa [str, ByteArray.size] using hj)]
  rw [List.getElem?_eq_getElem hj] at hv
  rw [← hv]
  simp [str, List.getD, List.getElem?_eq_getElem hj, u8v, iu8]⟩
theorem wpList_str_bytes {P : Program} {w : World} {Q : Exit → Act → World → Prop} {ops : Array Oper} {rest : List Oper} {o : Oper} {a : Act} (hgd : o.guard = none) (src dst e : TypeId) (x : Operand) (ho : o.op = .convert src dst x)
    (hs : P.underlying src = some .string) (hd : P.underlying dst = some (.slice e)) (he : P.underlying e = some (.int .u8)) (l : List UInt8) (hx : a.eval x = .string (str l))
    (h : ∀ w' c, Bytes w' (some ⟨w.heap.size, 0, none⟩) l → Below w.heap.size w w' → w'.heap.size = w.heap.size + 1 → wpList P ops Q rest (a.put o.dst (.slice (some ⟨w.heap.size, 0, none⟩) l.length c)) w') : wpList P ops Q (o :: rest) a w := by
  refine wpList_plain hgd fun K hK => ?_
  unfold Oper.wp execOp
  have hr := Lib.run_convert_string_bytes (P := P) w src dst e (str l) hs hd he
  simp only [ho, hx, Sem.run_bind, hr, Result.andThen_ok, Sem.run_pure]
  have hsz : (str l).size = l.length := by simp [str, ByteArray.size]
  rw [hsz]
  exact hK _ _ (h _ _ (bytesWorld_bytes w e l) (bytesWorld_below w e (str l)) (Lib.bytesWorld_size w e (str l)))
end Go

/- The law's small calls: a ref, a grid that is made, a block that is written. Conditions: as each says. -/
namespace Go.Proofs.YthfdjemlibecgaaDoor
open Go.RowKit
theorem lref_any (a s : Int) (w : World) : Calls Tryd.prog 24 #[.int .i64 a, .int .i64 s] w fun e w' => e = .returned (.agg #[.int .i64 a, .int .i64 s]) ∧ Below w.heap.size w w' := by
  have hzr := zeroRefrun
  have hB := Lib.hid ((Below.refl w.heap.size w).alloc (Nat.le_refl _) (.cells #[.int .i64 0, .int .i64 0] 23))
  have hbz := Blk.new w 23 #[.int .i64 0, .int .i64 0]
  go_enter Tryd.func24, Tryd.ntmps24
  go_wp2_with (first
    | ((with_reducible show wpList _ _ _ ((⟨none, _, _, _, _, _⟩ : Oper) :: _) _ _); refine wpList_store_blk (o := ⟨none, _, _, _, _, _⟩) (hbz) (by rfl) _ _ _ (by rfl) (by rfl) (#[.int .i64 a, .int .i64 s]) (by rfl) (size_ref) (by rfl) (by rfl) (by simp [Value.oneCell']) ?_; intro w6 h6 hu6)
    | fail)
  refine bodyPost_ret (results_cell_row (by rfl) _ _ w.heap.size _ _ _ _ (by rfl) h6 Tryd.underlying23 (by rfl) size_ref) rfl ?_
  exact ⟨rfl, hB.out.upd hu6 (Nat.le_refl _)⟩
set_option maxRecDepth 100000 in
set_option maxHeartbeats 2000000 in
theorem lmade_any (n : Nat) (h1 : 1 ≤ n) (h2 : n ≤ 512) (w : World) :
    Calls Tryd.prog 35 #[.int .i64 (n : Int)] w fun e w' => ∃ gp dp, e = .returned (.tuple #[.pointer (some ⟨dp, 0, none⟩), .pointer (some ⟨gp, 0, none⟩), .bool true]) ∧ GL w.heap.size w' gp dp ⟨n, List.replicate n 0, []⟩ (Dsk.new (104 + 4 * n)) ∧ Below w.heap.size w w' := by
  have hn := new_all (104 + 4 * n) (by omega) w
  have hw1 : wrap64 (4 * (n : Int)) = 4 * (n : Int) := w64_in (by omega)
  have hw2 : wrap64 (104 + 4 * (n : Int)) = 104 + 4 * (n : Int) := w64_in (by omega)
  rw [show ((104 + 4 * n : Nat) : Int) = 104 + 4 * (n : Int) by omega] at hn
  have H0 := Lib.hid (And.intro h1 h2)
  clear h1 h2
  go_enter Tryd.func35, Tryd.ntmps35
  go_wp2_with fail
  refine hn.mono ?_
  rintro e w2 ⟨p, rfl, hd, hge, hbx⟩
  have hdk : DkOk w2 p none (Dsk.new (104 + 4 * n)) none := ⟨hd, trivial, Dsk.Ok.new (by have := H0.out; omega)⟩
  have H2 := Lib.hid (And.intro hdk (And.intro hge hbx))
  clear hn hd hge hbx hdk hw1 hw2
  go_wp2_with fail
  refine (gnew_any H2.out.1 (by rfl) n H0.out.1 H0.out.2 (Nat.le_refl _)).mono ?_
  rintro e w3 ⟨q, hqp, hqf, rfl, hG, hge, hbx⟩
  have H3 := Lib.hid (And.intro hqp (And.intro hqf (And.intro hG (And.intro hge hbx))))
  clear hqp hqf hG hge hbx
  go_wp2
  go_ret3
  refine ⟨q.gg, p.gd, rfl, ⟨q, rfl, by rw [H3.out.1], H3.out.2.1, H3.out.2.2.1, fun x hx => ?_⟩, H2.out.2.2.trans (H3.out.2.2.2.2.mono H2.out.2.2.size)⟩
  have hs := H2.out.2.2.size
  have k := H3.out.2.2.2.1
  have k2 := H2.out.2.1
  rcases GPl.mem.1 hx with e | e | e | e | e
  · omega
  · omega
  · omega
  · rw [k.2.2.2] at e; cases e
  · rw [H3.out.1, H3.out.2.1] at e
    unfold Pl.all at e
    simp only [List.cons_append, List.nil_append, List.mem_cons, Option.toList_none, List.not_mem_nil, or_false] at e
    omega
end Go.Proofs.YthfdjemlibecgaaDoor

/- The tables' laws: a grid that is made, the chapter's pairs, runs that are the same. No condition. -/
namespace Go.Proofs.YthfdjemlibecgaaDoor
open Go.RowKit
set_option maxRecDepth 100000 in
set_option maxHeartbeats 2000000 in
theorem tmade_any (n : Nat) (h1 : 1 ≤ n) (h2 : n ≤ 512) (w : World) :
    Calls Tryd.prog 68 #[.int .i64 (n : Int)] w fun e w' => ∃ gp dp, e = .returned (.tuple #[.pointer (some ⟨dp, 0, none⟩), .pointer (some ⟨gp, 0, none⟩), .bool true]) ∧ GL w.heap.size w' gp dp ⟨n, List.replicate n 0, []⟩ (Dsk.new (104 + 4 * n)) ∧ Below w.heap.size w w' := by
  have hn := new_all (104 + 4 * n) (by omega) w
  have hw1 : wrap64 (4 * (n : Int)) = 4 * (n : Int) := w64_in (by omega)
  have hw2 : wrap64 (104 + 4 * (n : Int)) = 104 + 4 * (n : Int) := w64_in (by omega)
  rw [show ((104 + 4 * n : Nat) : Int) = 104 + 4 * (n : Int) by omega] at hn
  have H0 := Lib.hid (And.intro h1 h2)
  clear h1 h2
  go_enter Tryd.func68, Tryd.ntmps68
  go_wp2_with fail
  refine hn.mono ?_
  rintro e w2 ⟨p, rfl, hd, hge, hbx⟩
  have hdk : DkOk w2 p none (Dsk.new (104 + 4 * n)) none := ⟨hd, trivial, Dsk.Ok.new (by have := H0.out; omega)⟩
  have H2 := Lib.hid (And.intro hdk (And.intro hge hbx))
  clear hn hd hge hbx hdk hw1 hw2
  go_wp2_with fail
  refine (gnew_any H2.out.1 (by rfl) n H0.out.1 H0.out.2 (Nat.le_refl _)).mono ?_
  rintro e w3 ⟨q, hqp, hqf, rfl, hG, hge, hbx⟩
  have H3 := Lib.hid (And.intro hqp (And.intro hqf (And.intro hG (And.intro hge hbx))))
  clear hqp hqf hG hge hbx
  go_wp2
  go_ret3
  refine ⟨q.gg, p.gd, rfl, ⟨q, rfl, by rw [H3.out.1], H3.out.2.1, H3.out.2.2.1, fun x hx => ?_⟩, H2.out.2.2.trans (H3.out.2.2.2.2.mono H2.out.2.2.size)⟩
  have hs := H2.out.2.2.size
  have k := H3.out.2.2.2.1
  have k2 := H2.out.2.1
  rcases GPl.mem.1 hx with e | e | e | e | e
  · omega
  · omega
  · omega
  · rw [k.2.2.2] at e; cases e
  · rw [H3.out.1, H3.out.2.1] at e
    unfold Pl.all at e
    simp only [List.cons_append, List.nil_append, List.mem_cons, Option.toList_none, List.not_mem_nil, or_false] at e
    omega
/-- The chapter's pairs. -/
def abcL : List PairT := [([97], [49], false, ()), ([98], [], true, ()), ([99], [50], false, ())]
theorem PairsX.of3 {X : List Nat} {w : World} {b : Nat} {a0 a1 a2 : Addr} {c0 c1 c2 : Nat} {l : List PairT} (hl : l.length = 3) (hb : b ∉ X)
    (h0 : w.cell? ⟨b, 0, none⟩ = some (.slice (some a0) (l[0]'(by omega)).1.length c0) ∧ (l[0]'(by omega)).1.length ≤ c0 ∧ c0 ≤ 9223372036854775807 ∧ Bytes w (some a0) (l[0]'(by omega)).1 ∧ a0.block ∉ X)
    (h1 : w.cell? ⟨b, 3, none⟩ = some (.slice (some a1) (l[1]'(by omega)).1.length c1) ∧ (l[1]'(by omega)).1.length ≤ c1 ∧ c1 ≤ 9223372036854775807 ∧ Bytes w (some a1) (l[1]'(by omega)).1 ∧ a1.block ∉ X)
    (h2 : w.cell? ⟨b, 6, none⟩ = some (.slice (some a2) (l[2]'(by omega)).1.length c2) ∧ (l[2]'(by omega)).1.length ≤ c2 ∧ c2 ≤ 9223372036854775807 ∧ Bytes w (some a2) (l[2]'(by omega)).1 ∧ a2.block ∉ X) : PairsX X w (some ⟨b, 0, none⟩) l := fun i hi _ => by
  have h3 : i = 0 ∨ i = 1 ∨ i = 2 := by omega
  rcases h3 with rfl | rfl | rfl
  · exact ⟨b, 0, a0, c0, rfl, hb, h0.1, h0.2.1, h0.2.2.1, h0.2.2.2.1, h0.2.2.2.2⟩
  · exact ⟨b, 0, a1, c1, rfl, hb, h1.1, h1.2.1, h1.2.2.1, h1.2.2.2.1, h1.2.2.2.2⟩
  · exact ⟨b, 0, a2, c2, rfl, hb, h2.1, h2.2.1, h2.2.2.1, h2.2.2.2.1, h2.2.2.2.2⟩
/-- What abc answers. -/
def AbcTold (w : World) (e : Ending) (w' : World) : Prop := ∃ b : Nat, e = .returned (.slice (some ⟨b, 0, none⟩) 3 3) ∧ Pairs w' (some ⟨b, 0, none⟩) abcL ∧ (∀ X : List Nat, (∀ x ∈ X, x < w.heap.size) → PairsX X w' (some ⟨b, 0, none⟩) abcL) ∧ Below w.heap.size w w' ∧ ∃ a0 b0, w'.rangeAt b 0 [.slice (some ⟨a0, 0, none⟩) 1 1, .slice (some ⟨b0, 0, none⟩) 1 1, .bool false] ∧ PairAt w' ([97], [49], false, ()) (some ⟨a0, 0, none⟩) 1 (some ⟨b0, 0, none⟩) 1 ∧ w.heap.size ≤ a0 ∧ w.heap.size ≤ b0
set_option maxRecDepth 100000 in
set_option maxHeartbeats 2000000 in
theorem abc_any (w : World) : Calls Tryd.prog 69 #[] w (AbcTold w) := by
  have hz := zeroPairrun
  go_enter Tryd.func69, Tryd.ntmps69
  go_wp2_with (first
    | ((with_reducible show wpList _ _ _ ((⟨some 2, _, _, _, _, _⟩ : Oper) :: _) _ _); refine wpList_bytes_const (o := ⟨some 2, _, _, _, _, _⟩) (by rfl) _ _ _ (by rfl) Tryd.underlying44 Tryd.underlying5 [97] _ (by rfl) 1 (by rfl) ?_; intro w1 hb1 hk1 hsz; clear hsz)
    | ((with_reducible show wpList _ _ _ ((⟨some 4, _, _, _, _, _⟩ : Oper) :: _) _ _); refine wpList_bytes_const (o := ⟨some 4, _, _, _, _, _⟩) (by rfl) _ _ _ (by rfl) Tryd.underlying44 Tryd.underlying5 [49] _ (by rfl) 1 (by rfl) ?_; intro w2 hb2 hk2 hsz; clear hsz)
    | ((with_reducible show wpList _ _ _ ((⟨some 7, _, _, _, _, _⟩ : Oper) :: _) _ _); refine wpList_bytes_const (o := ⟨some 7, _, _, _, _, _⟩) (by rfl) _ _ _ (by rfl) Tryd.underlying44 Tryd.underlying5 [98] _ (by rfl) 1 (by rfl) ?_; intro w3 hb3 hk3 hsz; clear hsz)
    | ((with_reducible show wpList _ _ _ ((⟨some 10, _, _, _, _, _⟩ : Oper) :: _) _ _); refine wpList_bytes_const (o := ⟨some 10, _, _, _, _, _⟩) (by rfl) _ _ _ (by rfl) Tryd.underlying44 Tryd.underlying5 [99] _ (by rfl) 1 (by rfl) ?_; intro w4 hb4 hk4 hsz; clear hsz)
    | ((with_reducible show wpList _ _ _ ((⟨some 12, _, _, _, _, _⟩ : Oper) :: _) _ _); refine wpList_bytes_const (o := ⟨some 12, _, _, _, _, _⟩) (by rfl) _ _ _ (by rfl) Tryd.underlying44 Tryd.underlying5 [50] _ (by rfl) 1 (by rfl) ?_; intro w5 hb5 hk5 hsz; clear hsz)
    | fail)
  have hk2' := hk1.trans (hk2.mono hk1.size)
  have hk3' := hk2'.trans (hk3.mono hk2'.size)
  have hk4' := hk3'.trans (hk4.mono hk3'.size)
  have hk5' := hk4'.trans (hk5.mono hk4'.size)
  have hB := Blk.new w5 115 #[.slice (some ⟨w.heap.size, 0, none⟩) 1 1, .slice (some ⟨w1.heap.size, 0, none⟩) 1 1, .bool false, .slice (some ⟨w2.heap.size, 0, none⟩) 1 1, .slice none 0 0, .bool true, .slice (some ⟨w3.heap.size, 0, none⟩) 1 1, .slice (some ⟨w4.heap.size, 0, none⟩) 1 1, .bool false]
  have hx := (Below.refl w5.heap.size w5).alloc (Nat.le_refl _) (.cells #[.slice (some ⟨w.heap.size, 0, none⟩) 1 1, .slice (some ⟨w1.heap.size, 0, none⟩) 1 1, .bool false, .slice (some ⟨w2.heap.size, 0, none⟩) 1 1, .slice none 0 0, .bool true, .slice (some ⟨w3.heap.size, 0, none⟩) 1 1, .slice (some ⟨w4.heap.size, 0, none⟩) 1 1, .bool false] 115)
  have hs1 := hk1.size
  have hs2 := hk2'.size
  have hs3 := hk3'.size
  have hs4 := hk4'.size
  have hs5 := hk5'.size
  have g5 := Bytes.below hb5 hx
  have x4 := hk5.trans (hx.mono hk5.size)
  have g4 := Bytes.below hb4 x4
  have x3 := hk4.trans (x4.mono hk4.size)
  have g3 := Bytes.below hb3 x3
  have x2 := hk3.trans (x3.mono hk3.size)
  have g2 := Bytes.below hb2 x2
  have x1 := hk2.trans (x2.mono hk2.size)
  have g1 := Bytes.below hb1 x1
  have hkw := hk5'.trans (hx.mono hs5)
  have HF := Lib.hid (And.intro hB (And.intro g1 (And.intro g2 (And.intro g3 (And.intro g4 (And.intro g5 (And.intro hkw (And.intro hs1 (And.intro hs2 (And.intro hs3 (And.intro hs4 hs5)))))))))))
  clear hB hx hs1 hs2 hs3 hs4 hs5 g5 x4 g4 x3 g3 x2 g2 x1 g1 hkw hk1 hk2 hk3 hk4 hk5 hk2' hk3' hk4' hk5' hb1 hb2 hb3 hb4 hb5
  go_ret
  obtain ⟨hB, g1, g2, g3, g4, g5, hkw, hs1, hs2, hs3, hs4, hs5⟩ := HF.out
  refine ⟨w5.heap.size, rfl, fun _ => ⟨w5.heap.size, 0, rfl, by simp, fun i hi => ?_⟩, fun X hX => ?_, hkw, w.heap.size, w1.heap.size, range3 (hB.at_ 0 rfl) (hB.at_ 1 rfl) (hB.at_ 2 rfl), ⟨by decide, by decide, by decide, by decide, g1, g2⟩, Nat.le_refl _, hs1⟩
  · have h3 : i = 0 ∨ i = 1 ∨ i = 2 := by
      have : i < 3 := hi
      omega
    rcases h3 with rfl | rfl | rfl
    · exact ⟨_, 1, _, 1, hB.at_ 0 rfl, hB.at_ 1 rfl, hB.at_ 2 rfl, Nat.le_refl 1, by decide, Nat.le_refl 1, by decide, g1, g2⟩
    · exact ⟨_, 1, none, 0, hB.at_ 3 rfl, hB.at_ 4 rfl, hB.at_ 5 rfl, Nat.le_refl 1, by decide, Nat.le_refl 0, by decide, g3, Reads.nil _ _⟩
    · exact ⟨_, 1, _, 1, hB.at_ 6 rfl, hB.at_ 7 rfl, hB.at_ 8 rfl, Nat.le_refl 1, by decide, Nat.le_refl 1, by decide, g4, g5⟩
  · have off : ∀ k, w.heap.size ≤ k → k ∉ X := fun k hk hm => by have := hX k hm; omega
    exact PairsX.of3 rfl (off _ (by omega)) ⟨hB.at_ 0 rfl, by decide, by decide, g1, off _ (Nat.le_refl _)⟩ ⟨hB.at_ 3 rfl, by decide, by decide, g3, off _ (by show w.heap.size ≤ w2.heap.size; omega)⟩ ⟨hB.at_ 6 rfl, by decide, by decide, g4, off _ (by show w.heap.size ≤ w3.heap.size; omega)⟩
end Go.Proofs.YthfdjemlibecgaaDoor

/- The tables' laws: runs that are the same, and what Get answers beside what is wanted. Conditions: as each says. -/
namespace Go.Proofs.YthfdjemlibecgaaDoor
open Go.RowKit
set_option maxRecDepth 100000 in
set_option maxHeartbeats 2000000 in
theorem sameRun_eq (r : RefT) (n : Int) (F L F' L' : Option Addr) (cf cl cf' cl' : Nat) (fb lb : List UInt8) (w : World) (h1 : Bytes w F fb) (h2 : Bytes w L lb) (h3 : Bytes w F' fb) (h4 : Bytes w L' lb) :
    Calls Tryd.prog 110 #[.agg (runv r n F L fb.length cf lb.length cl), .agg (runv r n F' L' fb.length cf' lb.length cl')] w fun e w' => e = .returned (.bool true) ∧ Below w.heap.size w w' := by
  have hB := ((Below.refl w.heap.size w).alloc (Nat.le_refl _) (.cells (runv r n F L fb.length cf lb.length cl) 111)).alloc (by simp) (.cells (runv r n F' L' fb.length cf' lb.length cl') 111)
  have hg2 := (Blk.new w 111 (runv r n F L fb.length cf lb.length cl)).alloc (.cells (runv r n F' L' fb.length cf' lb.length cl') 111)
  have hg3 := Blk.new' (w.alloc (.cells (runv r n F L fb.length cf lb.length cl) 111)) 111 (runv r n F' L' fb.length cf' lb.length cl') (n := w.heap.size + 1) (by simp)
  have H0 := Lib.hid (And.intro hB (And.intro (Bytes.below h1 hB) (And.intro (Bytes.below h2 hB) (And.intro (Bytes.below h3 hB) (Bytes.below h4 hB)))))
  clear h1 h2 h3 h4 hB
  unfold runv at H0 hg2 hg3 ⊢
  have e0 := range2 (hg2.at_ 0 (v := .int .i64 r.1) rfl) (hg2.at_ 1 (v := .int .i64 r.2.1) rfl)
  have e1 := range2 (hg3.at_ 0 (v := .int .i64 r.1) rfl) (hg3.at_ 1 (v := .int .i64 r.2.1) rfl)
  have d0 := hg2.at_ 2 (v := .int .i64 n) rfl
  have d1 := hg3.at_ 2 (v := .int .i64 n) rfl
  have d2 := hg2.at_ 3 (v := .slice F fb.length cf) rfl
  have d3 := hg3.at_ 3 (v := .slice F' fb.length cf') rfl
  have d4 := hg2.at_ 4 (v := .slice L lb.length cl) rfl
  have d5 := hg3.at_ 4 (v := .slice L' lb.length cl') rfl
  clear hg2 hg3
  go_enter Tryd.func110, Tryd.ntmps110
  go_wp2_with (first
    | ((with_reducible show wpList _ _ _ ((⟨some 6, _, _, _, _, _⟩ : Oper) :: _) _ _); refine wpList_load_mid (o := ⟨some 6, _, _, _, _, _⟩) e0 (by rfl) _ _ (by rfl) (by rfl) _ Tryd.underlying23 (by rfl) size_ref (by rfl) ?_)
    | ((with_reducible show wpList _ _ _ ((⟨some 8, _, _, _, _, _⟩ : Oper) :: _) _ _); refine wpList_load_mid (o := ⟨some 8, _, _, _, _, _⟩) e1 (by rfl) _ _ (by rfl) (by rfl) _ Tryd.underlying23 (by rfl) size_ref (by rfl) ?_)
    | fail)
  refine (sameBytes_any F F' fb.length fb.length cf cf' fb fb rfl rfl _ H0.out.2.1 H0.out.2.2.2.1).mono ?_
  rintro e w2 ⟨rfl, hw⟩
  subst hw
  rw [decide_eq_true rfl]
  go_wp2_with fail
  refine (sameBytes_any L L' lb.length lb.length cl cl' lb lb rfl rfl _ H0.out.2.2.1 H0.out.2.2.2.2).mono ?_
  rintro e w2 ⟨rfl, hw⟩
  subst hw
  rw [decide_eq_true rfl]
  clear d0 d1 d2 d3 d4 d5 e0 e1
  go_wp2_with fail
  go_ret
  exact ⟨rfl, H0.out.1⟩
theorem al2 (w : World) (o o2 : Obj) : ((w.alloc o).alloc o2).heap.size = w.heap.size + 1 + 1 := by simp
set_option maxRecDepth 100000 in
set_option maxHeartbeats 1000000 in
theorem gets_any {w : World} {q : GPl} {g g2 : Grd} {d : Dsk} {f : Option Fus} (h : GridR w q g d f) (hlen : g.W.length ≤ 1099511627776) (r : RefT) (n : Int) (F L : Option Addr) (nf cf nl cl : Nat) (key : List UInt8) (hk : key.length ≤ 5000) (p : PairT) (A B : Option Addr) (c e0 : Nat) (cd : Int)
    (hp : ∀ w', Near q.all w w' → PairAt w' p A c B e0) (hT : tget g d f r key = (cd, p, g2))
    (hmono : ∀ a b : Nat, a ≤ b → b < (topen g d f r).2.1.2.length → key < (topen g d f r).2.1.2.getD a [] → key < (topen g d f r).2.1.2.getD b []) :
    Calls Tryd.prog 70 #[.pointer (some ⟨q.gg, 0, none⟩), .agg (runv r n F L nf cf nl cl), .string (str key), .agg (pairc p A c B e0), .int .i64 cd] w fun e w' => e = .returned (.bool true) ∧ GPost w q g2 d f w' := by
  have hB := ((Below.refl w.heap.size w).alloc (Nat.le_refl _) (.cells (runv r n F L nf cf nl cl) 111)).alloc (by simp) (.cells (pairc p A c B e0) 115)
  have hg6 := (Blk.new w 111 (runv r n F L nf cf nl cl)).alloc (.cells (pairc p A c B e0) 115)
  have hg8 := Blk.new' (w.alloc (.cells (runv r n F L nf cf nl cl) 111)) 115 (pairc p A c B e0) (n := w.heap.size + 1) (by simp)
  have H0 := Lib.hid (And.intro h (And.intro hB (And.intro hg8 (And.intro hp (And.intro hT hmono)))))
  clear h hB hg8 hp hT hmono
  unfold runv pairc at H0 hg6
  unfold runv pairc
  go_enter Tryd.func70, Tryd.ntmps70
  go_wp2_with (first
    | ((with_reducible show wpList _ _ _ ((⟨some 15, _, _, _, _, _⟩ : Oper) :: _) _ _); refine wpList_load_blk (o := ⟨some 15, _, _, _, _, _⟩) (hg6) (by rfl) _ _ (by rfl) (by rfl) _ Tryd.underlying111 (by rfl) (sizeRun) (by rfl) ?_)
    | ((with_reducible show wpList _ _ _ ((⟨some 17, _, _, _, _, _⟩ : Oper) :: _) _ _); refine wpList_str_bytes (o := ⟨some 17, _, _, _, _, _⟩) (by rfl) _ _ _ _ (by rfl) Tryd.underlying9 Tryd.underlying44 Tryd.underlying5 key (by rfl) ?_; intro w1 ce hb1 hk1 hs1; clear hs1)
    | fail)
  rw [al2] at hb1
  have hbw := H0.out.2.1.trans (hk1.mono H0.out.2.1.size)
  have hg81 := H0.out.2.2.1.below hk1 H0.out.2.2.1.lt
  have hget := tget_any (H0.out.1.below hbw) hlen r n F L nf cf nl cl _ ce key hb1 H0.out.2.2.2.2.2
  rw [H0.out.2.2.2.2.1] at hget
  unfold runv at hget
  refine hget.mono ?_
  rintro e w2 ⟨kv, vv, rfl, hO, hP⟩
  obtain ⟨A2, c2, B2, e2, rfl, rfl, hA2⟩ := hO.at_
  have hg82 := hP.blk (H0.out.1.below hbw) hg81 (by decide)
  have hPw := GPost.trans1 hbw hP
  obtain ⟨q', e1, e3, e4, e5, hN, e6⟩ := hPw
  have hpw := H0.out.2.2.2.1 w2 hN
  have hb3 := (Below.refl w2.heap.size w2).alloc (Nat.le_refl _) (.cells #[.slice A2 p.1.length c2, .slice B2 p.2.1.length e2, .bool p.2.2.1] 115)
  have hg11 := Blk.new w2 115 #[.slice A2 p.1.length c2, .slice B2 p.2.1.length e2, .bool p.2.2.1]
  have hg83 := hg82.below hb3 hg82.lt
  have HP := Lib.hid (And.intro ((GPost.trans1 hbw hP).below hb3) (And.intro (hA2.below hb3) (hpw.below hb3)))
  unfold pairc at hg83
  clear hget hO hP hA2 hg82 hN hpw hb3 e5 e6 e1 e3 e4 hbw hg81 hg6
  go_wp2_with (first
    | ((with_reducible show wpList _ _ _ ((⟨some 21, _, _, _, _, _⟩ : Oper) :: _) _ _); refine wpList_load_blk (o := ⟨some 21, _, _, _, _, _⟩) (hg11) (by rfl) _ _ (by rfl) (by rfl) _ Tryd.underlying115 (by rfl) (sizePair) (by rfl) ?_)
    | ((with_reducible show wpList _ _ _ ((⟨some 22, _, _, _, _, _⟩ : Oper) :: _) _ _); refine wpList_load_blk (o := ⟨some 22, _, _, _, _, _⟩) (hg83) (by rfl) _ _ (by rfl) (by rfl) _ Tryd.underlying115 (by rfl) (sizePair) (by rfl) ?_)
    | fail)
  refine (samePair_any p p A2 B2 A B c2 e2 c e0 _ HP.out.2.1 HP.out.2.2).mono ?_
  rintro e w4 ⟨rfl, hb4⟩
  have HF := Lib.hid (HP.out.1.below hb4)
  rw [decide_eq_true rfl]
  clear hg11 hg83 hb4
  go_wp2_with fail
  go_ret
  exact ⟨rfl, HF.out⟩
end Go.Proofs.YthfdjemlibecgaaDoor

/- []byte("..") of a constant, its row laid before. Plain facts over any program. No condition. -/
namespace Go
open Go.RowKit
theorem freeze_upd (w : World) (g k : Nat) : Upd g w (w.freeze ⟨g, k, none⟩ 1) := by
  unfold World.freeze
  rw [if_neg (by decide)]
  exact ⟨rfl, rfl, rfl, by simp, fun j hj => by simp [Array.getElem?_modify, Ne.symm hj]⟩
theorem freeze_cells {w : World} {g : Nat} {t : TypeId} {cs : Array Value} (h : Blk w g t cs) (k : Nat) : (w.freeze ⟨g, k, none⟩ 1).heap[g]? = some (.cells cs t (k, k + 1)) := by
  unfold World.freeze
  rw [if_neg (by decide)]
  unfold Blk at h
  simp [Array.getElem?_modify, h]
theorem wpList_bytes_mark {P : Program} {w : World} {Q : Exit → Act → World → Prop} {ops : Array Oper} {rest : List Oper} {o : Oper} {a : Act} (hgd : o.guard = none) (t e : TypeId) (x : Operand) (ho : o.op = .convert t t x)
    (ht : P.underlying t = some (.slice e)) (he : P.underlying e = some (.int .u8)) (l : List UInt8) (n g : Nat) (hb : Blk w g e (l.map u8v).toArray) (hx : a.eval x = .slice (some ⟨g, 0, none⟩) n n)
    (h : ∀ w', Bytes w' (some ⟨g, 0, none⟩) l → Upd g w w' → wpList P ops Q rest (a.put o.dst (.slice (some ⟨g, 0, none⟩) n n)) w') : wpList P ops Q (o :: rest) a w := by
  refine wpList_plain hgd fun K hK => ?_
  unfold Oper.wp execOp
  have hsh : w.shape? g = some (e, (l.map u8v).toArray.size) := by
    unfold World.shape?
    unfold Blk at hb
    rw [hb]
  have hr : (convert t t (.slice (some ⟨g, 0, none⟩) n n)).run P w = .ok (.slice (some ⟨g, 0, none⟩) n n) (w.freeze ⟨g, (l.map u8v).toArray.size, none⟩ 1) := by
    simp [convert, run_underlying ht, run_underlying he, markStringish, hsh]
  simp only [ho, hx, Sem.run_bind, hr, Result.andThen_ok, Sem.run_pure]
  refine hK _ _ (h _ (fun _ => ⟨g, 0, rfl, fun j v hv => ?_⟩) (freeze_upd w g _))
  rw [Nat.zero_add, cell_of_row _ _ _ _ _ _ (freeze_cells hb _)]
  simpa using hv
end Go
