/- The tables' laws: a grid that is made, the chapter's pairs, runs that are the same. No condition. -/
import Derived.Test.YtgkljncigbiffaaDoorMTableMap17
namespace Go.Proofs.YtgkljncigbiffaaDoor
open Go.RowKit
set_option maxRecDepth 100000 in
set_option maxHeartbeats 2000000 in
theorem tmade_any (n : Nat) (h1 : 1 ≤ n) (h2 : n ≤ 512) (w : World) :
    Calls Tryd.prog 27 #[.int .i64 (n : Int)] w fun e w' => ∃ gp dp, e = .returned (.tuple #[.pointer (some ⟨dp, 0, none⟩), .pointer (some ⟨gp, 0, none⟩), .bool true]) ∧ GL w.heap.size w' gp dp ⟨n, List.replicate n 0, []⟩ (Dsk.new (104 + 4 * n)) ∧ Below w.heap.size w w' := by
  have hn := new_all (104 + 4 * n) (by omega) w
  have hw1 : wrap64 (4 * (n : Int)) = 4 * (n : Int) := w64_in (by omega)
  have hw2 : wrap64 (104 + 4 * (n : Int)) = 104 + 4 * (n : Int) := w64_in (by omega)
  rw [show ((104 + 4 * n : Nat) : Int) = 104 + 4 * (n : Int) by omega] at hn
  have H0 := Lib.hid (And.intro h1 h2)
  clear h1 h2
  go_enter Tryd.func27, Tryd.ntmps27
  go_wp2_with fail
  refine hn.mono ?_
  rintro e w2 ⟨p, rfl, hd, hge, hbx⟩
  have hdk : DkOk w2 p none (Dsk.new (104 + 4 * n)) none := ⟨hd, trivial, Dsk.Ok.new (by have := H0.out; omega)⟩
  have H2 := Lib.hid (And.intro hdk (And.intro hge hbx))
  clear hn hd hge hbx hdk hw1 hw2
  go_wp2_with fail
  refine (gnew_any H2.out.1 (by rfl) n H0.out.1 H0.out.2 (Nat.le_refl _)).mono ?_
  rintro e w3 ⟨q, hqp, hqf, rfl, hG, hge, hbx⟩
  have H3 := Lib.hid (And.intro hqp (And.intro hqf (And.intro hG (And.intro hge hbx))))
  clear hqp hqf hG hge hbx
  go_wp2
  go_ret3
  refine ⟨q.gg, p.gd, rfl, ⟨q, rfl, by rw [H3.out.1], H3.out.2.1, H3.out.2.2.1, fun x hx => ?_⟩, H2.out.2.2.trans (H3.out.2.2.2.2.mono H2.out.2.2.size)⟩
  have hs := H2.out.2.2.size
  have k := H3.out.2.2.2.1
  have k2 := H2.out.2.1
  rcases GPl.mem.1 hx with e | e | e | e | e
  · omega
  · omega
  · omega
  · rw [k.2.2.2] at e; cases e
  · rw [H3.out.1, H3.out.2.1] at e
    unfold Pl.all at e
    simp only [List.cons_append, List.nil_append, List.mem_cons, Option.toList_none, List.not_mem_nil, or_false] at e
    omega
/-- The chapter's pairs. -/
def abcL : List PairT := [([97], [49], false, ()), ([98], [], true, ()), ([99], [50], false, ())]
theorem PairsX.of3 {X : List Nat} {w : World} {b : Nat} {a0 a1 a2 : Addr} {c0 c1 c2 : Nat} {l : List PairT} (hl : l.length = 3) (hb : b ∉ X)
    (h0 : w.cell? ⟨b, 0, none⟩ = some (.slice (some a0) (l[0]'(by omega)).1.length c0) ∧ (l[0]'(by omega)).1.length ≤ c0 ∧ c0 ≤ 9223372036854775807 ∧ Bytes w (some a0) (l[0]'(by omega)).1 ∧ a0.block ∉ X)
    (h1 : w.cell? ⟨b, 3, none⟩ = some (.slice (some a1) (l[1]'(by omega)).1.length c1) ∧ (l[1]'(by omega)).1.length ≤ c1 ∧ c1 ≤ 9223372036854775807 ∧ Bytes w (some a1) (l[1]'(by omega)).1 ∧ a1.block ∉ X)
    (h2 : w.cell? ⟨b, 6, none⟩ = some (.slice (some a2) (l[2]'(by omega)).1.length c2) ∧ (l[2]'(by omega)).1.length ≤ c2 ∧ c2 ≤ 9223372036854775807 ∧ Bytes w (some a2) (l[2]'(by omega)).1 ∧ a2.block ∉ X) : PairsX X w (some ⟨b, 0, none⟩) l := fun i hi _ => by
  have h3 : i = 0 ∨ i = 1 ∨ i = 2 := by omega
  rcases h3 with rfl | rfl | rfl
  · exact ⟨b, 0, a0, c0, rfl, hb, h0.1, h0.2.1, h0.2.2.1, h0.2.2.2.1, h0.2.2.2.2⟩
  · exact ⟨b, 0, a1, c1, rfl, hb, h1.1, h1.2.1, h1.2.2.1, h1.2.2.2.1, h1.2.2.2.2⟩
  · exact ⟨b, 0, a2, c2, rfl, hb, h2.1, h2.2.1, h2.2.2.1, h2.2.2.2.1, h2.2.2.2.2⟩
/-- What abc answers. -/
def AbcTold (w : World) (e : Ending) (w' : World) : Prop := ∃ b : Nat, e = .returned (.slice (some ⟨b, 0, none⟩) 3 3) ∧ Pairs w' (some ⟨b, 0, none⟩) abcL ∧ (∀ X : List Nat, (∀ x ∈ X, x < w.heap.size) → PairsX X w' (some ⟨b, 0, none⟩) abcL) ∧ Below w.heap.size w w' ∧ ∃ a0 b0, w'.rangeAt b 0 [.slice (some ⟨a0, 0, none⟩) 1 1, .slice (some ⟨b0, 0, none⟩) 1 1, .bool false] ∧ PairAt w' ([97], [49], false, ()) (some ⟨a0, 0, none⟩) 1 (some ⟨b0, 0, none⟩) 1 ∧ w.heap.size ≤ a0 ∧ w.heap.size ≤ b0
set_option maxRecDepth 100000 in
set_option maxHeartbeats 2000000 in
theorem abc_any (w : World) : Calls Tryd.prog 28 #[] w (AbcTold w) := by
  have hz := zeroPairrun
  go_enter Tryd.func28, Tryd.ntmps28
  go_wp2_with (first
    | ((with_reducible show wpList _ _ _ ((⟨some 2, _, _, _, _, _⟩ : Oper) :: _) _ _); refine wpList_bytes_const (o := ⟨some 2, _, _, _, _, _⟩) (by rfl) _ _ _ (by rfl) Tryd.underlying22 Tryd.underlying5 [97] _ (by rfl) 1 (by rfl) ?_; intro w1 hb1 hk1 hsz; clear hsz)
    | ((with_reducible show wpList _ _ _ ((⟨some 4, _, _, _, _, _⟩ : Oper) :: _) _ _); refine wpList_bytes_const (o := ⟨some 4, _, _, _, _, _⟩) (by rfl) _ _ _ (by rfl) Tryd.underlying22 Tryd.underlying5 [49] _ (by rfl) 1 (by rfl) ?_; intro w2 hb2 hk2 hsz; clear hsz)
    | ((with_reducible show wpList _ _ _ ((⟨some 7, _, _, _, _, _⟩ : Oper) :: _) _ _); refine wpList_bytes_const (o := ⟨some 7, _, _, _, _, _⟩) (by rfl) _ _ _ (by rfl) Tryd.underlying22 Tryd.underlying5 [98] _ (by rfl) 1 (by rfl) ?_; intro w3 hb3 hk3 hsz; clear hsz)
    | ((with_reducible show wpList _ _ _ ((⟨some 10, _, _, _, _, _⟩ : Oper) :: _) _ _); refine wpList_bytes_const (o := ⟨some 10, _, _, _, _, _⟩) (by rfl) _ _ _ (by rfl) Tryd.underlying22 Tryd.underlying5 [99] _ (by rfl) 1 (by rfl) ?_; intro w4 hb4 hk4 hsz; clear hsz)
    | ((with_reducible show wpList _ _ _ ((⟨some 12, _, _, _, _, _⟩ : Oper) :: _) _ _); refine wpList_bytes_const (o := ⟨some 12, _, _, _, _, _⟩) (by rfl) _ _ _ (by rfl) Tryd.underlying22 Tryd.underlying5 [50] _ (by rfl) 1 (by rfl) ?_; intro w5 hb5 hk5 hsz; clear hsz)
    | fail)
  have hk2' := hk1.trans (hk2.mono hk1.size)
  have hk3' := hk2'.trans (hk3.mono hk2'.size)
  have hk4' := hk3'.trans (hk4.mono hk3'.size)
  have hk5' := hk4'.trans (hk5.mono hk4'.size)
  have hB := Blk.new w5 40 #[.slice (some ⟨w.heap.size, 0, none⟩) 1 1, .slice (some ⟨w1.heap.size, 0, none⟩) 1 1, .bool false, .slice (some ⟨w2.heap.size, 0, none⟩) 1 1, .slice none 0 0, .bool true, .slice (some ⟨w3.heap.size, 0, none⟩) 1 1, .slice (some ⟨w4.heap.size, 0, none⟩) 1 1, .bool false]
  have hx := (Below.refl w5.heap.size w5).alloc (Nat.le_refl _) (.cells #[.slice (some ⟨w.heap.size, 0, none⟩) 1 1, .slice (some ⟨w1.heap.size, 0, none⟩) 1 1, .bool false, .slice (some ⟨w2.heap.size, 0, none⟩) 1 1, .slice none 0 0, .bool true, .slice (some ⟨w3.heap.size, 0, none⟩) 1 1, .slice (some ⟨w4.heap.size, 0, none⟩) 1 1, .bool false] 40)
  have hs1 := hk1.size
  have hs2 := hk2'.size
  have hs3 := hk3'.size
  have hs4 := hk4'.size
  have hs5 := hk5'.size
  have g5 := Bytes.below hb5 hx
  have x4 := hk5.trans (hx.mono hk5.size)
  have g4 := Bytes.below hb4 x4
  have x3 := hk4.trans (x4.mono hk4.size)
  have g3 := Bytes.below hb3 x3
  have x2 := hk3.trans (x3.mono hk3.size)
  have g2 := Bytes.below hb2 x2
  have x1 := hk2.trans (x2.mono hk2.size)
  have g1 := Bytes.below hb1 x1
  have hkw := hk5'.trans (hx.mono hs5)
  have HF := Lib.hid (And.intro hB (And.intro g1 (And.intro g2 (And.intro g3 (And.intro g4 (And.intro g5 (And.intro hkw (And.intro hs1 (And.intro hs2 (And.intro hs3 (And.intro hs4 hs5)))))))))))
  clear hB hx hs1 hs2 hs3 hs4 hs5 g5 x4 g4 x3 g3 x2 g2 x1 g1 hkw hk1 hk2 hk3 hk4 hk5 hk2' hk3' hk4' hk5' hb1 hb2 hb3 hb4 hb5
  go_ret
  obtain ⟨hB, g1, g2, g3, g4, g5, hkw, hs1, hs2, hs3, hs4, hs5⟩ := HF.out
  refine ⟨w5.heap.size, rfl, fun _ => ⟨w5.heap.size, 0, rfl, by simp, fun i hi => ?_⟩, fun X hX => ?_, hkw, w.heap.size, w1.heap.size, range3 (hB.at_ 0 rfl) (hB.at_ 1 rfl) (hB.at_ 2 rfl), ⟨by decide, by decide, by decide, by decide, g1, g2⟩, Nat.le_refl _, hs1⟩
  · have h3 : i = 0 ∨ i = 1 ∨ i = 2 := by
      have : i < 3 := hi
      omega
    rcases h3 with rfl | rfl | rfl
    · exact ⟨_, 1, _, 1, hB.at_ 0 rfl, hB.at_ 1 rfl, hB.at_ 2 rfl, Nat.le_refl 1, by decide, Nat.le_refl 1, by decide, g1, g2⟩
    · exact ⟨_, 1, none, 0, hB.at_ 3 rfl, hB.at_ 4 rfl, hB.at_ 5 rfl, Nat.le_refl 1, by decide, Nat.le_refl 0, by decide, g3, Reads.nil _ _⟩
    · exact ⟨_, 1, _, 1, hB.at_ 6 rfl, hB.at_ 7 rfl, hB.at_ 8 rfl, Nat.le_refl 1, by decide, Nat.le_refl 1, by decide, g4, g5⟩
  · have off : ∀ k, w.heap.size ≤ k → k ∉ X := fun k hk hm => by have := hX k hm; omega
    exact PairsX.of3 rfl (off _ (by omega)) ⟨hB.at_ 0 rfl, by decide, by decide, g1, off _ (Nat.le_refl _)⟩ ⟨hB.at_ 3 rfl, by decide, by decide, g3, off _ (by show w.heap.size ≤ w2.heap.size; omega)⟩ ⟨hB.at_ 6 rfl, by decide, by decide, g4, off _ (by show w.heap.size ≤ w3.heap.size; omega)⟩
end Go.Proofs.YtgkljncigbiffaaDoor

/- The tables' laws: runs that are the same, and what Get answers beside what is wanted. Conditions: as each says. -/
namespace Go.Proofs.YtgkljncigbiffaaDoor
open Go.RowKit
set_option maxRecDepth 100000 in
set_option maxHeartbeats 2000000 in
theorem sameRun_eq (r : RefT) (n : Int) (F L F' L' : Option Addr) (cf cl cf' cl' : Nat) (fb lb : List UInt8) (w : World) (h1 : Bytes w F fb) (h2 : Bytes w L lb) (h3 : Bytes w F' fb) (h4 : Bytes w L' lb) :
    Calls Tryd.prog 48 #[.agg (runv r n F L fb.length cf lb.length cl), .agg (runv r n F' L' fb.length cf' lb.length cl')] w fun e w' => e = .returned (.bool true) ∧ Below w.heap.size w w' := by
  have hB := ((Below.refl w.heap.size w).alloc (Nat.le_refl _) (.cells (runv r n F L fb.length cf lb.length cl) 35)).alloc (by simp) (.cells (runv r n F' L' fb.length cf' lb.length cl') 35)
  have hg2 := (Blk.new w 35 (runv r n F L fb.length cf lb.length cl)).alloc (.cells (runv r n F' L' fb.length cf' lb.length cl') 35)
  have hg3 := Blk.new' (w.alloc (.cells (runv r n F L fb.length cf lb.length cl) 35)) 35 (runv r n F' L' fb.length cf' lb.length cl') (n := w.heap.size + 1) (by simp)
  have H0 := Lib.hid (And.intro hB (And.intro (Bytes.below h1 hB) (And.intro (Bytes.below h2 hB) (And.intro (Bytes.below h3 hB) (Bytes.below h4 hB)))))
  clear h1 h2 h3 h4 hB
  unfold runv at H0 hg2 hg3 ⊢
  have e0 := range2 (hg2.at_ 0 (v := .int .i64 r.1) rfl) (hg2.at_ 1 (v := .int .i64 r.2.1) rfl)
  have e1 := range2 (hg3.at_ 0 (v := .int .i64 r.1) rfl) (hg3.at_ 1 (v := .int .i64 r.2.1) rfl)
  have d0 := hg2.at_ 2 (v := .int .i64 n) rfl
  have d1 := hg3.at_ 2 (v := .int .i64 n) rfl
  have d2 := hg2.at_ 3 (v := .slice F fb.length cf) rfl
  have d3 := hg3.at_ 3 (v := .slice F' fb.length cf') rfl
  have d4 := hg2.at_ 4 (v := .slice L lb.length cl) rfl
  have d5 := hg3.at_ 4 (v := .slice L' lb.length cl') rfl
  clear hg2 hg3
  go_enter Tryd.func48, Tryd.ntmps48
  go_wp2_with (first
    | ((with_reducible show wpList _ _ _ ((⟨some 6, _, _, _, _, _⟩ : Oper) :: _) _ _); refine wpList_load_mid (o := ⟨some 6, _, _, _, _, _⟩) e0 (by rfl) _ _ (by rfl) (by rfl) _ Tryd.underlying33 (by rfl) size_ref (by rfl) ?_)
    | ((with_reducible show wpList _ _ _ ((⟨some 8, _, _, _, _, _⟩ : Oper) :: _) _ _); refine wpList_load_mid (o := ⟨some 8, _, _, _, _, _⟩) e1 (by rfl) _ _ (by rfl) (by rfl) _ Tryd.underlying33 (by rfl) size_ref (by rfl) ?_)
    | fail)
  refine (sameBytes_any F F' fb.length fb.length cf cf' fb fb rfl rfl _ H0.out.2.1 H0.out.2.2.2.1).mono ?_
  rintro e w2 ⟨rfl, hw⟩
  subst hw
  rw [decide_eq_true rfl]
  go_wp2_with fail
  refine (sameBytes_any L L' lb.length lb.length cl cl' lb lb rfl rfl _ H0.out.2.2.1 H0.out.2.2.2.2).mono ?_
  rintro e w2 ⟨rfl, hw⟩
  subst hw
  rw [decide_eq_true rfl]
  clear d0 d1 d2 d3 d4 d5 e0 e1
  go_wp2_with fail
  go_ret
  exact ⟨rfl, H0.out.1⟩
theorem al2 (w : World) (o o2 : Obj) : ((w.alloc o).alloc o2).heap.size = w.heap.size + 1 + 1 := by simp
set_option maxRecDepth 100000 in
set_option maxHeartbeats 1000000 in
theorem gets_any {w : World} {q : GPl} {g g2 : Grd} {d : Dsk} {f : Option Fus} (h : GridR w q g d f) (hlen : g.W.length ≤ 1099511627776) (r : RefT) (n : Int) (F L : Option Addr) (nf cf nl cl : Nat) (key : List UInt8) (_hk : key.length ≤ 5000) (p : PairT) (A B : Option Addr) (c e0 : Nat) (cd : Int)
    (hp : ∀ w', Near q.all w w' → PairAt w' p A c B e0) (hT : tget g d f r key = (cd, p, g2))
    (hmono : ∀ a b : Nat, a ≤ b → b < (topen g d f r).2.1.2.length → key < (topen g d f r).2.1.2.getD a [] → key < (topen g d f r).2.1.2.getD b []) :
    Calls Tryd.prog 29 #[.pointer (some ⟨q.gg, 0, none⟩), .agg (runv r n F L nf cf nl cl), .string (str key), .agg (pairc p A c B e0), .int .i64 cd] w fun e w' => e = .returned (.bool true) ∧ GPost w q g2 d f w' := by
  have hB := ((Below.refl w.heap.size w).alloc (Nat.le_refl _) (.cells (runv r n F L nf cf nl cl) 35)).alloc (by simp) (.cells (pairc p A c B e0) 40)
  have hg6 := (Blk.new w 35 (runv r n F L nf cf nl cl)).alloc (.cells (pairc p A c B e0) 40)
  have hg8 := Blk.new' (w.alloc (.cells (runv r n F L nf cf nl cl) 35)) 40 (pairc p A c B e0) (n := w.heap.size + 1) (by simp)
  have H0 := Lib.hid (And.intro h (And.intro hB (And.intro hg8 (And.intro hp (And.intro hT hmono)))))
  clear h hB hg8 hp hT hmono
  unfold runv pairc at H0 hg6
  unfold runv pairc
  go_enter Tryd.func29, Tryd.ntmps29
  go_wp2_with (first
    | ((with_reducible show wpList _ _ _ ((⟨some 15, _, _, _, _, _⟩ : Oper) :: _) _ _); refine wpList_load_blk (o := ⟨some 15, _, _, _, _, _⟩) (hg6) (by rfl) _ _ (by rfl) (by rfl) _ Tryd.underlying35 (by rfl) (sizeRun) (by rfl) ?_)
    | ((with_reducible show wpList _ _ _ ((⟨some 17, _, _, _, _, _⟩ : Oper) :: _) _ _); refine wpList_str_bytes (o := ⟨some 17, _, _, _, _, _⟩) (by rfl) _ _ _ _ (by rfl) Tryd.underlying9 Tryd.underlying22 Tryd.underlying5 key (by rfl) ?_; intro w1 ce hb1 hk1 hs1; clear hs1)
    | fail)
  rw [al2] at hb1
  have hbw := H0.out.2.1.trans (hk1.mono H0.out.2.1.size)
  have hg81 := H0.out.2.2.1.below hk1 H0.out.2.2.1.lt
  have hget := tget_any (H0.out.1.below hbw) hlen r n F L nf cf nl cl _ ce key hb1 H0.out.2.2.2.2.2
  rw [H0.out.2.2.2.2.1] at hget
  unfold runv at hget
  refine hget.mono ?_
  rintro e w2 ⟨kv, vv, rfl, hO, hP⟩
  obtain ⟨A2, c2, B2, e2, rfl, rfl, hA2⟩ := hO.at_
  have hg82 := hP.blk (H0.out.1.below hbw) hg81 (by decide)
  have hPw := GPost.trans1 hbw hP
  obtain ⟨q', e1, e3, e4, e5, hN, e6⟩ := hPw
  have hpw := H0.out.2.2.2.1 w2 hN
  have hb3 := (Below.refl w2.heap.size w2).alloc (Nat.le_refl _) (.cells #[.slice A2 p.1.length c2, .slice B2 p.2.1.length e2, .bool p.2.2.1] 40)
  have hg11 := Blk.new w2 40 #[.slice A2 p.1.length c2, .slice B2 p.2.1.length e2, .bool p.2.2.1]
  have hg83 := hg82.below hb3 hg82.lt
  have HP := Lib.hid (And.intro ((GPost.trans1 hbw hP).below hb3) (And.intro (hA2.below hb3) (hpw.below hb3)))
  unfold pairc at hg83
  clear hget hO hP hA2 hg82 hN hpw hb3 e5 e6 e1 e3 e4 hbw hg81 hg6
  go_wp2_with (first
    | ((with_reducible show wpList _ _ _ ((⟨some 21, _, _, _, _, _⟩ : Oper) :: _) _ _); refine wpList_load_blk (o := ⟨some 21, _, _, _, _, _⟩) (hg11) (by rfl) _ _ (by rfl) (by rfl) _ Tryd.underlying40 (by rfl) (sizePair) (by rfl) ?_)
    | ((with_reducible show wpList _ _ _ ((⟨some 22, _, _, _, _, _⟩ : Oper) :: _) _ _); refine wpList_load_blk (o := ⟨some 22, _, _, _, _, _⟩) (hg83) (by rfl) _ _ (by rfl) (by rfl) _ Tryd.underlying40 (by rfl) (sizePair) (by rfl) ?_)
    | fail)
  refine (samePair_any p p A2 B2 A B c2 e2 c e0 _ HP.out.2.1 HP.out.2.2).mono ?_
  rintro e w4 ⟨rfl, hb4⟩
  have HF := Lib.hid (HP.out.1.below hb4)
  rw [decide_eq_true rfl]
  clear hg11 hg83 hb4
  go_wp2_with fail
  go_ret
  exact ⟨rfl, HF.out⟩
end Go.Proofs.YtgkljncigbiffaaDoor

/- []byte("..") of a constant, its row laid before. Plain facts over any program. No condition. -/
namespace Go
open Go.RowKit
theorem freeze_upd (w : World) (g k : Nat) : Upd g w (w.freeze ⟨g, k, none⟩ 1) := by
  unfold World.freeze
  rw [if_neg (by decide)]
  exact ⟨rfl, rfl, rfl, by simp, fun j hj => by simp [Array.getElem?_modify, Ne.symm hj]⟩
theorem freeze_cells {w : World} {g : Nat} {t : TypeId} {cs : Array Value} (h : Blk w g t cs) (k : Nat) : (w.freeze ⟨g, k, none⟩ 1).heap[g]? = some (.cells cs t (k, k + 1)) := by
  unfold World.freeze
  rw [if_neg (by decide)]
  unfold Blk at h
  simp [Array.getElem?_modify, h]
theorem wpList_bytes_mark {P : Program} {w : World} {Q : Exit → Act → World → Prop} {ops : Array Oper} {rest : List Oper} {o : Oper} {a : Act} (hgd : o.guard = none) (t e : TypeId) (x : Operand) (ho : o.op = .convert t t x)
    (ht : P.underlying t = some (.slice e)) (he : P.underlying e = some (.int .u8)) (l : List UInt8) (n g : Nat) (hb : Blk w g e (l.map u8v).toArray) (hx : a.eval x = .slice (some ⟨g, 0, none⟩) n n)
    (h : ∀ w', Bytes w' (some ⟨g, 0, none⟩) l → Upd g w w' → wpList P ops Q rest (a.put o.dst (.slice (some ⟨g, 0, none⟩) n n)) w') : wpList P ops Q (o :: rest) a w := by
  refine wpList_plain hgd fun K hK => ?_
  unfold Oper.wp execOp
  have hsh : w.shape? g = some (e, (l.map u8v).toArray.size) := by
    unfold World.shape?
    unfold Blk at hb
    rw [hb]
  have hr : (convert t t (.slice (some ⟨g, 0, none⟩) n n)).run P w = .ok (.slice (some ⟨g, 0, none⟩) n n) (w.freeze ⟨g, (l.map u8v).toArray.size, none⟩ 1) := by
    simp [convert, run_underlying ht, run_underlying he, markStringish, hsh]
  simp only [ho, hx, Sem.run_bind, hr, Result.andThen_ok, Sem.run_pure]
  refine hK _ _ (h _ (fun _ => ⟨g, 0, rfl, fun j v hv => ?_⟩) (freeze_upd w g _))
  rw [Nat.zero_add, cell_of_row _ _ _ _ _ _ (freeze_cells hb _)]
  simpa using hv
end Go

/- The tables' laws: the chapter's table is written and asked. Condition: the library's table is there. -/
namespace Go.Proofs.YtgkljncigbiffaaDoor
open Go.RowKit
theorem abc_pack : ppack abcL = (0, [abcL]) := by kernel_rfl
theorem abc_find1 : pfind abcL [97] = some ([97], [49], false, ()) := by kernel_rfl
theorem abc_find2 : pfind abcL [100] = none := by kernel_rfl
theorem abc_cnt : cnts (tG 8 0).L 0 = 8 := by decide +kernel
theorem abc_ix : kbytes ((ppack abcL).2.map gkey) = [1, 97] := by decide +kernel
theorem abc_bd : ((ppack abcL).2.map gbody).length = 1 := by decide +kernel
theorem abc_bl : ∀ b ∈ (ppack abcL).2.map gbody, b.length ≤ 860 := by decide +kernel
def abD (s : Int) : Nat → Dsk := tD 8 s ((ppack abcL).2.map gbody) (kbytes ((ppack abcL).2.map gkey)) (Dsk.new (104 + 4 * 8))
theorem abc_puts : Puts 5 ((ppack abcL).2.map gbody) (kbytes ((ppack abcL).2.map gkey)) (2, 5, ()) (tG 8) (abD 5) (tk 5) ∧ TWr 8 5 ((ppack abcL).2.map gbody) (kbytes ((ppack abcL).2.map gkey)) (Dsk.new (104 + 4 * 8)).N 2 (abD 5 2) := by
  have h := puts_new (n := 8) (s := 5) (bs := (ppack abcL).2.map gbody) (ix := kbytes ((ppack abcL).2.map gkey)) (d := Dsk.new (104 + 4 * 8)) (by decide) (by decide) (by rw [abc_bd]; omega) abc_bl (by rw [abc_ix]; decide) (by omega) (by rw [abc_bd]; omega) ⟨Dsk.Ok.new (by omega), rfl, Nat.le_refl _⟩
  rw [abc_bd] at h
  exact h
theorem abc_get (key : List UInt8) : tget (tG 8 2) (abD 5 2) none (2, 5, ()) key = ((match pfind abcL key with | none => 6 | some _ => 0), (pfind abcL key).getD pnone, tG 8 2) ∧ ∀ a b : Nat, a ≤ b → b < (topen (tG 8 2) (abD 5 2) none (2, 5, ())).2.1.2.length → key < (topen (tG 8 2) (abD 5 2) none (2, 5, ())).2.1.2.getD a [] → key < (topen (tG 8 2) (abD 5 2) none (2, 5, ())).2.1.2.getD b [] := by
  have hl : (ppack abcL).2.length = 1 := by rw [abc_pack]; rfl
  have h := table_get (n := 8) (s := 5) (l := abcL) (N := (Dsk.new (104 + 4 * 8)).N) (d := abD 5 2) (g := tG 8 2) (by rw [abc_pack]) (by rw [hl]; exact abc_puts.2) (by decide) (by decide) (by omega) (by rw [hl]; omega) rfl key
  rw [hl, show tk 5 1 = ((2 : Int), (5 : Int), ()) from rfl] at h
  exact h
set_option maxRecDepth 100000 in
set_option maxHeartbeats 4000000 in
theorem tawake_any (w : World) (hT : Tab w) : Calls Tryd.prog 9 #[] w fun e w' => e = .returned (.bool true) ∧ Below w.heap.size w w' := by
  have HT := Lib.hid hT
  have hz := zeroPairrun
  clear hT
  go_enter Tryd.func9, Tryd.ntmps9
  go_wp2_with fail
  refine (tmade_any 8 (by omega) (by omega) w).mono ?_
  rintro e w1 ⟨gp, dp, rfl, ⟨q, rfl, rfl, hgf, hG, hall⟩, hb1⟩
  have H1 := Lib.hid (And.intro hgf (And.intro (show GridR w1 q (tG 8 0) (abD 5 0) none from hG) (And.intro hall hb1)))
  clear hgf hG hall hb1
  go_wp2_with fail
  refine (abc_any w1).mono ?_
  rintro e w2 ⟨b, rfl, hP, hX, hb2, -⟩
  have hb02 := H1.out.2.2.2.trans (hb2.mono H1.out.2.2.2.size)
  have hbu := tbuild_any (w := w2) (q := q) (G := tG 8) (D := abD 5) (R := tk 5) (root := (2, 5, ())) (s := 5) (H1.out.2.1.below hb2) (HT.out.below hb02) (fun hm => by have := H1.out.2.2.1 _ hm; have := HT.out.1; omega) (some ⟨b, 0, none⟩) 3 abcL (by decide) hP (hX q.all (fun x hx => H1.out.2.1.lt x hx)) (by rw [abc_pack]) (by decide) (by decide) (by rw [abc_cnt, abc_pack]; decide) abc_puts.1 [97] [99] ⟨_, rfl, rfl⟩ ⟨_, rfl, rfl⟩
  rw [show (ppack abcL).2.length = 1 by rw [abc_pack]; rfl] at hbu
  rw [show ((abcL.length : Nat) : Int) = 3 from rfl] at hbu
  have H2 := Lib.hid hb02
  clear hP hX hb2 hb02
  go_wp2_with fail
  refine hbu.mono ?_
  rintro e w3 ⟨fv, lv, sf, sl, rfl, hf, hl, q3, e1, e2, e3, hG3, hN3, hA3⟩
  obtain ⟨F, cf, rfl, -, -, hbf⟩ := OwnB.open_ hf
  obtain ⟨L, cl, rfl, -, -, hbl⟩ := OwnB.open_ hl
  have hall3 : ∀ x ∈ q3.all, w.heap.size ≤ x := fun x hx => by
    rcases hA3 x hx with h | h
    · exact H1.out.2.2.1 x h
    · exact Nat.le_trans H2.out.size h
  have hb03 : Below w.heap.size w w3 := H2.out.trans (hN3.toBelow (fun x hx => H1.out.2.2.1 x hx) H2.out.size)
  have H3 := Lib.hid (And.intro hb03 (And.intro hG3 (And.intro hall3 (And.intro hbf (And.intro hbl e1)))))
  clear hbu hf hl e2 e3 hG3 hN3 hA3 hall3 hb03 hbf hbl e1
  go_wp2_with (first
    | ((with_reducible show wpList _ _ _ ((⟨some 22, _, _, _, _, _⟩ : Oper) :: _) _ _); refine wpList_bytes_mark (o := ⟨some 22, _, _, _, _, _⟩) (by rfl) _ _ _ (by rfl) Tryd.underlying22 Tryd.underlying5 [97] 1 (w3.heap.size + 1) (Blk.new' (w3.alloc (.cells #[.int .i64 2, .int .i64 5, .int .i64 3, .slice F 1 cf, .slice L 1 cl] 35)) 5 #[.int .u8 97] (n := w3.heap.size + 1) (by simp)) (by rfl) ?_; intro w4 hb4 hu4)
    | ((with_reducible show wpList _ _ _ ((⟨some 24, _, _, _, _, _⟩ : Oper) :: _) _ _); refine wpList_bytes_const (o := ⟨some 24, _, _, _, _, _⟩) (by rfl) _ _ _ (by rfl) Tryd.underlying22 Tryd.underlying5 [99] _ (by rfl) 1 (by rfl) ?_; intro w5 hb5 hk5 hsz; clear hsz)
    | fail)
  have hb34 : Below w3.heap.size w3 w4 := (((Below.refl w3.heap.size w3).alloc (Nat.le_refl _) (.cells #[.int .i64 2, .int .i64 5, .int .i64 3, .slice F 1 cf, .slice L 1 cl] 35)).alloc (by simp) (.cells #[.int .u8 97] 5)).upd hu4 (by omega)
  have hg4 : Blk w4 w3.heap.size 35 #[.int .i64 2, .int .i64 5, .int .i64 3, .slice F 1 cf, .slice L 1 cl] := (((Blk.new w3 35 #[.int .i64 2, .int .i64 5, .int .i64 3, .slice F 1 cf, .slice L 1 cl]).alloc (.cells #[.int .u8 97] 5)).upd hu4 (by omega))
  have hs4 := hg4.lt
  have hb46 := hk5.alloc hk5.size (.cells #[.int .i64 2, .int .i64 5, .int .i64 3, .slice (some ⟨w3.heap.size + 1, 0, none⟩) 1 1, .slice (some ⟨w4.heap.size, 0, none⟩) 1 1] 35)
  have hg6 := Blk.new w5 35 #[.int .i64 2, .int .i64 5, .int .i64 3, .slice (some ⟨w3.heap.size + 1, 0, none⟩) 1 1, .slice (some ⟨w4.heap.size, 0, none⟩) 1 1]
  have hb36 := hb34.trans (hb46.mono hb34.size)
  have hb06 := H3.out.1.trans (hb36.mono H3.out.1.size)
  have hd : Below (w5.alloc (.cells #[.int .i64 2, .int .i64 5, .int .i64 3, .slice (some ⟨w3.heap.size + 1, 0, none⟩) 1 1, .slice (some ⟨w4.heap.size, 0, none⟩) 1 1] 35)).heap.size (w5.alloc (.cells #[.int .i64 2, .int .i64 5, .int .i64 3, .slice (some ⟨w3.heap.size + 1, 0, none⟩) 1 1, .slice (some ⟨w4.heap.size, 0, none⟩) 1 1] 35)) (w5.alloc (.cells #[.int .i64 2, .int .i64 5, .int .i64 3, .slice (some ⟨w3.heap.size + 1, 0, none⟩) 1 1, .slice (some ⟨w4.heap.size, 0, none⟩) 1 1] 35)).drew := (Below.refl _ _).drew
  have H6 := Lib.hid (And.intro (hb06.drew) (And.intro (H3.out.2.1.below hb36.drew) (And.intro (Bytes.below H3.out.2.2.2.1 hb36.drew) (And.intro (Bytes.below H3.out.2.2.2.2.1 hb36.drew) (And.intro (Bytes.below hb4 hb46.drew) (Bytes.below hb5 ((Below.refl w5.heap.size w5).alloc (Nat.le_refl _) (.cells #[.int .i64 2, .int .i64 5, .int .i64 3, .slice (some ⟨w3.heap.size + 1, 0, none⟩) 1 1, .slice (some ⟨w4.heap.size, 0, none⟩) 1 1] 35)).drew))))))
  have hc := And.intro ((hg4.below hb46 hs4).drew) hg6.drew
  clear hb34 hg4 hs4 hb46 hg6 hb36 hb06 hd hb4 hu4 hb5 hk5
  rw [← H3.out.2.2.2.2.2] at *
  generalize hc6 : w4.heap.size = c6 at *
  generalize hb6 : w5.heap.size = b6 at *
  clear hc6 hb6
  refine wp_region_tree (fun w' => Blk w' w3.heap.size 35 #[.int .i64 2, .int .i64 5, .int .i64 3, .slice F 1 cf, .slice L 1 cl] ∧ Blk w' b6 35 #[.int .i64 2, .int .i64 5, .int .i64 3, .slice (some ⟨w3.heap.size + 1, 0, none⟩) 1 1, .slice (some ⟨c6, 0, none⟩) 1 1]) [] (PlanT.takes [0, 1, 2] (PlanT.takes [3, 4] (.opt 5 (PlanT.takes [6, 7, 8] (PlanT.takes [9] (.opt 10 (PlanT.takes [11] (.opt 12 (.opt 13 (PlanT.takes [14, 15, 16, 18] (PlanT.takes [17] (.opt 19 (PlanT.takes [20, 21] .done) .no))) .no) .no)) .no))) .no))) (by kernel_rfl) (by kernel_rfl) (hc) ?_
  refine wpTree_pure _ _ _ (by rfl) (by rfl) ?_
  dsimp only [List.filterMap, List.getElem?_cons_zero, List.getElem?_cons_succ]
  repeat (go_big_quiet_step (fail))
  refine wpQuiet_nil ?_
  refine wpTree_takeL _ _ _ (by rfl) (by rfl) (hc) ?_
  dsimp only [List.filterMap, List.getElem?_cons_zero, List.getElem?_cons_succ]
  (refine wpQuiet_want' (by rfl) ?_; refine wpQuiet_load_blk (fun w' hw' => hw'.1) (by rfl) _ _ (by rfl) (by rfl) _ Tryd.underlying35 (by rfl) (sizeRun) (by rfl) ?_; simp only [Act.put, List.setIfInBounds_toArray, List.set_cons_zero, List.set_cons_succ])
  (refine wpQuiet_want' (by rfl) ?_; refine wpQuiet_load_blk (fun w' hw' => hw'.2) (by rfl) _ _ (by rfl) (by rfl) _ Tryd.underlying35 (by rfl) (sizeRun) (by rfl) ?_; simp only [Act.put, List.setIfInBounds_toArray, List.set_cons_zero, List.set_cons_succ])
  refine wpQuiet_nil ?_
  generalize (w5.alloc (.cells #[.int .i64 2, .int .i64 5, .int .i64 3, .slice (some ⟨w3.heap.size + 1, 0, none⟩) 1 1, .slice (some ⟨c6, 0, none⟩) 1 1] 35)).drew = w6 at H6 hc ⊢
  refine wpTree_one _ rfl ?_
  go_wp2_with fail
  have hsr := sameRun_eq (2, 5, ()) 3 F L (some ⟨w3.heap.size + 1, 0, none⟩) (some ⟨c6, 0, none⟩) cf cl 1 1 [97] [99] w6 H6.out.2.2.1 H6.out.2.2.2.1 H6.out.2.2.2.2.1 H6.out.2.2.2.2.2
  unfold runv at hsr
  refine hsr.mono ?_
  rintro e w7 ⟨rfl, hb7⟩
  have hc7 := And.intro (hc.1.below hb7 hc.1.lt) (hc.2.below hb7 hc.2.lt)
  have H7 := Lib.hid (And.intro (H6.out.1.trans (hb7.mono H6.out.1.size)) (H6.out.2.1.below hb7))
  clear hsr hb7 hc H6
  go_wp2_with fail
  refine TreeQ.in_ hc7 ?_
  refine wpTree_pure _ _ _ (by rfl) (by rfl) ?_
  dsimp only [List.filterMap, List.getElem?_cons_zero, List.getElem?_cons_succ]
  repeat (go_big_quiet_step (fail))
  refine wpQuiet_nil ?_
  refine wpTree_takeL _ _ _ (by rfl) (by rfl) (hc7) ?_
  dsimp only [List.filterMap, List.getElem?_cons_zero, List.getElem?_cons_succ]
  (refine wpQuiet_want' (by rfl) ?_; refine wpQuiet_load_blk (fun w' hw' => hw'.1) (by rfl) _ _ (by rfl) (by rfl) _ Tryd.underlying35 (by rfl) (sizeRun) (by rfl) ?_; simp only [Act.put, List.setIfInBounds_toArray, List.set_cons_zero, List.set_cons_succ])
  refine wpQuiet_nil ?_
  refine wpTree_one _ rfl ?_
  go_wp2_with fail
  refine (abc_any w7).mono ?_
  rintro e w8 ⟨b8, rfl, -, -, hb8, a0, b0, hr8, hp8, ha0, hb0⟩
  have hc8 := And.intro (hc7.1.below hb8 hc7.1.lt) (hc7.2.below hb8 hc7.2.lt)
  have H8 := Lib.hid (And.intro (H7.out.1.trans (hb8.mono H7.out.1.size)) (And.intro (H7.out.2.below hb8) (And.intro hp8 (And.intro (fun hm => by have := H7.out.2.lt a0 hm; omega : a0 ∉ q3.all) (fun hm => by have := H7.out.2.lt b0 hm; omega : b0 ∉ q3.all)))))
  clear hc7 hb8 hp8 ha0 hb0 H7
  go_wp2_with fail
  refine TreeQ.in_ hc8 ?_
  refine wpTree_pure _ _ _ (by rfl) (by rfl) ?_
  dsimp only [List.filterMap, List.getElem?_cons_zero, List.getElem?_cons_succ]
  repeat (go_big_quiet_step (fail))
  refine wpQuiet_nil ?_
  refine wpTree_one _ rfl ?_
  go_wp2_with (first
    | ((with_reducible show wpList _ _ _ ((⟨some 38, _, _, _, _, _⟩ : Oper) :: _) _ _); refine wpList_want (by rfl) ?_; refine wpList_load_mid (o := ⟨some 38, _, _, _, _, _⟩) hr8 (by rfl) _ _ (by rfl) (by rfl) _ Tryd.underlying40 (by rfl) sizePair (by rfl) ?_)
    | fail)
  refine TreeQ.in_ hc8 ?_
  refine wpTree_one _ rfl ?_
  go_wp2_with fail
  have hg1 := gets_any (w := w8) (q := q3) (g := tG 8 2) (g2 := tG 8 2) (d := abD 5 2) (f := none) H8.out.2.1 (by decide) (2, 5, ()) 3 F L 1 cf 1 cl [97] (by decide) ([97], [49], false, ()) (some ⟨a0, 0, none⟩) (some ⟨b0, 0, none⟩) 1 1 0
    (fun w' hn => ⟨by decide, by decide, by decide, by decide, Bytes.near H8.out.2.2.1.k hn (fun ad e => by injection e with e; subst e; exact H8.out.2.2.2.1), Bytes.near H8.out.2.2.1.v hn (fun ad e => by injection e with e; subst e; exact H8.out.2.2.2.2)⟩)
    (by rw [(abc_get [97]).1, abc_find1]; rfl) (abc_get [97]).2
  unfold runv pairc at hg1
  refine hg1.mono ?_
  rintro e w9 ⟨rfl, hp9⟩
  have hc9 := And.intro (hp9.blk H8.out.2.1 hc8.1 (by decide)) (hp9.blk H8.out.2.1 hc8.2 (by decide))
  obtain ⟨q9, e1, -, -, hG9, hN9, hA9⟩ := hp9
  have hsz := H8.out.1.size
  have H9 := Lib.hid (And.intro (H8.out.1.trans (hN9.toBelow (fun x hx => H3.out.2.2.1 x hx) hsz)) (And.intro hG9 (fun x hx => (hA9 x hx).elim (fun h => H3.out.2.2.1 x h) (fun h => Nat.le_trans hsz h) : ∀ x ∈ q9.all, w.heap.size ≤ x)))
  clear hg1 hG9 hN9 hA9 hc8 hr8 hsz
  go_wp2_with fail
  refine TreeQ.in_ hc9 ?_
  refine wpTree_pure _ _ _ (by rfl) (by rfl) ?_
  dsimp only [List.filterMap, List.getElem?_cons_zero, List.getElem?_cons_succ]
  repeat (go_big_quiet_step (fail))
  refine wpQuiet_nil ?_
  refine wpTree_takeL _ _ _ (by rfl) (by rfl) (hc9) ?_
  dsimp only [List.filterMap, List.getElem?_cons_zero, List.getElem?_cons_succ]
  (refine wpQuiet_want' (by rfl) ?_; refine wpQuiet_load_blk (fun w' hw' => hw'.1) (by rfl) _ _ (by rfl) (by rfl) _ Tryd.underlying35 (by rfl) (sizeRun) (by rfl) ?_; simp only [Act.put, List.setIfInBounds_toArray, List.set_cons_zero, List.set_cons_succ])
  refine wpQuiet_nil ?_
  refine wpTree_one _ rfl ?_
  go_wp2_with fail
  have hg2 := gets_any (w := w9) (q := q9) (g := tG 8 2) (g2 := tG 8 2) (d := abD 5 2) (f := none) H9.out.2.1 (by decide) (2, 5, ()) 3 F L 1 cf 1 cl [100] (by decide) pnone none none 0 0 6
    (fun w' hn => ⟨by decide, by decide, by decide, by decide, Reads.nil _ _, Reads.nil _ _⟩)
    (by rw [(abc_get [100]).1, abc_find2]; rfl) (abc_get [100]).2
  rw [e1] at hg2
  unfold runv pairc at hg2
  refine hg2.mono ?_
  rintro e w10 ⟨rfl, hp10⟩
  have hc10 := And.intro (hp10.blk H9.out.2.1 hc9.1 (by decide)) (hp10.blk H9.out.2.1 hc9.2 (by decide))
  obtain ⟨q10, -, -, -, -, hN10, -⟩ := hp10
  have H10 := Lib.hid (H9.out.1.trans (hN10.toBelow (fun x hx => H9.out.2.2 x hx) H9.out.1.size))
  clear hg2 hN10 hc9
  go_wp2_with fail
  refine TreeQ.in_ hc10 ?_
  refine wpTree_pure _ _ _ (by rfl) (by rfl) ?_
  dsimp only [List.filterMap, List.getElem?_cons_zero, List.getElem?_cons_succ]
  repeat (go_big_quiet_step (fail))
  refine wpQuiet_nil ?_
  refine wpTree_done ?_
  clear hc10
  go_wp2_with fail
  go_ret
  exact ⟨rfl, H10.out⟩
end Go.Proofs.YtgkljncigbiffaaDoor

/- The plain seal, reckoned with natural numbers, so that the kernel can reckon it of long bytes. Plain facts. No condition. -/
namespace Go
namespace ShaN
/-- A number reckoned ahead of what uses it. -/
def force {α : Type} (n : Nat) (f : Nat → α) : α := match n with
  | 0 => f 0
  | k + 1 => f (k + 1)
theorem force_eq {α : Type} (n : Nat) (f : Nat → α) : force n f = f n := by cases n <;> rfl
def rot (x n : Nat) : Nat := Nat.lor (Nat.shiftRight x n) (Nat.mod (Nat.shiftLeft x (32 - n)) 4294967296)
def sg0 (x : Nat) : Nat := Nat.xor (Nat.xor (rot x 7) (rot x 18)) (Nat.shiftRight x 3)
def sg1 (x : Nat) : Nat := Nat.xor (Nat.xor (rot x 17) (rot x 19)) (Nat.shiftRight x 10)
def tt1 (k w e f g h : Nat) : Nat := Nat.mod (h + Nat.xor (Nat.xor (rot e 6) (rot e 11)) (rot e 25) + Nat.xor (Nat.land e f) (Nat.land (4294967295 - e) g) + k + w) 4294967296
def tt2 (a b c : Nat) : Nat := Nat.xor (Nat.xor (rot a 2) (rot a 13)) (rot a 22) + Nat.xor (Nat.xor (Nat.land a b) (Nat.land a c)) (Nat.land b c)
def nextN (w0 w1 w9 w14 : Nat) : Nat := Nat.mod (sg1 w14 + w9 + sg0 w1 + w0) 4294967296
/-- Some rounds; 16 words ahead are known. -/
def go : List Nat → List Nat → Nat → Nat → Nat → Nat → Nat → Nat → Nat → Nat → List Nat
  | [], _, a, b, c, d, e, f, g, h => [a, b, c, d, e, f, g, h]
  | k :: ks, ws, a, b, c, d, e, f, g, h =>
    force (ws.getD 0 0) fun w0 =>
    force (tt1 k w0 e f g h) fun t1 =>
    force (Nat.mod (t1 + tt2 a b c) 4294967296) fun a' =>
    force (Nat.mod (d + t1) 4294967296) fun e' =>
    force (nextN w0 (ws.getD 1 0) (ws.getD 9 0) (ws.getD 14 0)) fun wn =>
    go ks (ws.drop 1 ++ [wn]) a' a b c e' e f g
def toL (s : Sha.St) : List Nat := [s.a.toNat, s.b.toNat, s.c.toNat, s.d.toNat, s.e.toNat, s.f.toNat, s.g.toNat, s.h.toNat]
theorem rot_eq (x : UInt32) (n : Nat) (h0 : 0 < n) (h : n < 32) : rot x.toNat n = (Sha.rotr x n).toNat := by
  unfold rot Sha.rotr
  rw [UInt32.toNat_or, u32_shr_nat x n h, u32_shl_nat x (32 - n) (by omega)]
  show Nat.lor (x.toNat >>> n) ((x.toNat <<< (32 - n)) % 4294967296) = _
  rw [Nat.shiftRight_eq_div_pow, Nat.shiftLeft_eq]; rfl
theorem sg0_eq (x : UInt32) : sg0 x.toNat = (Sha.s0 x).toNat := by
  unfold sg0 Sha.s0
  rw [UInt32.toNat_xor, UInt32.toNat_xor, rot_eq x 7 (by omega) (by omega), rot_eq x 18 (by omega) (by omega)]
  have := u32_shr_nat x 3 (by omega)
  rw [show (x >>> (3 : UInt32)) = x >>> UInt32.ofNat 3 from rfl, this]
  show Nat.xor _ (x.toNat >>> 3) = _
  rw [Nat.shiftRight_eq_div_pow]; rfl
theorem sg1_eq (x : UInt32) : sg1 x.toNat = (Sha.s1 x).toNat := by
  unfold sg1 Sha.s1
  rw [UInt32.toNat_xor, UInt32.toNat_xor, rot_eq x 17 (by omega) (by omega), rot_eq x 19 (by omega) (by omega)]
  have := u32_shr_nat x 10 (by omega)
  rw [show (x >>> (10 : UInt32)) = x >>> UInt32.ofNat 10 from rfl, this]
  show Nat.xor _ (x.toNat >>> 10) = _
  rw [Nat.shiftRight_eq_div_pow]; rfl
theorem not_eq (x : UInt32) : 4294967295 - x.toNat = (~~~x).toNat := by
  rw [UInt32.toNat_not]; simp [UInt32.size]
theorem tt1_eq (k w : UInt32) (s : Sha.St) : tt1 k.toNat w.toNat s.e.toNat s.f.toNat s.g.toNat s.h.toNat = (Sha.t1 k w s).toNat := by
  unfold tt1 Sha.t1
  rw [not_eq, rot_eq s.e 6 (by omega) (by omega), rot_eq s.e 11 (by omega) (by omega), rot_eq s.e 25 (by omega) (by omega)]
  simp only [UInt32.toNat_add, UInt32.toNat_xor, UInt32.toNat_and]
  show (_ + (_ ^^^ _ ^^^ _) + ((_ &&& _) ^^^ (_ &&& _)) + _ + _) % 4294967296 = _
  omega
theorem tt2_eq (s : Sha.St) : tt2 s.a.toNat s.b.toNat s.c.toNat % 4294967296 = (Sha.t2 s).toNat := by
  unfold tt2 Sha.t2
  rw [rot_eq s.a 2 (by omega) (by omega), rot_eq s.a 13 (by omega) (by omega), rot_eq s.a 22 (by omega) (by omega)]
  simp only [UInt32.toNat_add, UInt32.toNat_xor, UInt32.toNat_and]
  rfl
theorem next_eq (w0 w1 w9 w14 : UInt32) : nextN w0.toNat w1.toNat w9.toNat w14.toNat = (Sha.s1 w14 + w9 + Sha.s0 w1 + w0).toNat := by
  unfold nextN
  rw [sg1_eq, sg0_eq]
  simp only [UInt32.toNat_add]
  show (_ + _ + _ + _) % 4294967296 = _
  omega
/-- Rounds from t on. -/
theorem go_eq (m : Nat → UInt32) (s : Sha.St) : ∀ (n t : Nat), t + n = 64 →
    go ((Sha.kl.drop t).map (·.toNat)) ((List.range 16).map fun i => (Sha.wd m (t + i)).toNat) (Sha.rounds m s t).a.toNat (Sha.rounds m s t).b.toNat (Sha.rounds m s t).c.toNat (Sha.rounds m s t).d.toNat (Sha.rounds m s t).e.toNat (Sha.rounds m s t).f.toNat (Sha.rounds m s t).g.toNat (Sha.rounds m s t).h.toNat
      = toL (Sha.rounds m s 64)
  | 0, t, h => by
    obtain rfl : t = 64 := by omega
    have : Sha.kl.drop 64 = [] := rfl
    rw [this]; rfl
  | n + 1, t, h => by
    have hk : Sha.kl.drop t = Sha.kt t :: Sha.kl.drop (t + 1) := by
      have hl : t < Sha.kl.length := by show t < 64; omega
      rw [List.drop_eq_getElem_cons hl]
      congr 1
      unfold Sha.kt
      simp [List.getD, hl]
    rw [hk, List.map_cons]
    unfold go
    simp only [force_eq]
    have e0 : ((List.range 16).map fun i => (Sha.wd m (t + i)).toNat).getD 0 0 = (Sha.wd m t).toNat := rfl
    have e1 : ((List.range 16).map fun i => (Sha.wd m (t + i)).toNat).getD 1 0 = (Sha.wd m (t + 1)).toNat := rfl
    have e9 : ((List.range 16).map fun i => (Sha.wd m (t + i)).toNat).getD 9 0 = (Sha.wd m (t + 9)).toNat := rfl
    have e14 : ((List.range 16).map fun i => (Sha.wd m (t + i)).toNat).getD 14 0 = (Sha.wd m (t + 14)).toNat := rfl
    rw [e0, e1, e9, e14, tt1_eq, next_eq]
    have hw : (Sha.s1 (Sha.wd m (t + 14)) + Sha.wd m (t + 9) + Sha.s0 (Sha.wd m (t + 1)) + Sha.wd m t) = Sha.wd m (t + 16) := by
      rw [Sha.wd_hi m (show 16 ≤ t + 16 by omega)]
      rw [show t + 16 - 2 = t + 14 by omega, show t + 16 - 7 = t + 9 by omega, show t + 16 - 15 = t + 1 by omega, show t + 16 - 16 = t by omega]
    rw [hw]
    have hwin : ((List.range 16).map fun i => (Sha.wd m (t + i)).toNat).drop 1 ++ [(Sha.wd m (t + 16)).toNat] = (List.range 16).map fun i => (Sha.wd m (t + 1 + i)).toNat := by
      have : ∀ i, Sha.wd m (t + 1 + i) = Sha.wd m (t + (1 + i)) := fun i => by rw [Nat.add_assoc]
      simp only [this]
      rfl
    rw [hwin]
    have hr : Sha.rounds m s (t + 1) = Sha.round (Sha.kt t) (Sha.wd m t) (Sha.rounds m s t) := rfl
    have ha : ((Sha.t1 (Sha.kt t) (Sha.wd m t) (Sha.rounds m s t)).toNat + tt2 (Sha.rounds m s t).a.toNat (Sha.rounds m s t).b.toNat (Sha.rounds m s t).c.toNat).mod 4294967296 = (Sha.rounds m s (t + 1)).a.toNat := by
      rw [hr]
      show (_ + _) % 4294967296 = (Sha.t1 _ _ _ + Sha.t2 _).toNat
      rw [UInt32.toNat_add, ← tt2_eq]
      omega
    have he : ((Sha.rounds m s t).d.toNat + (Sha.t1 (Sha.kt t) (Sha.wd m t) (Sha.rounds m s t)).toNat).mod 4294967296 = (Sha.rounds m s (t + 1)).e.toNat := by
      rw [hr]
      show (_ + _) % 4294967296 = ((Sha.rounds m s t).d + Sha.t1 _ _ _).toNat
      rw [UInt32.toNat_add]
    rw [ha, he]
    have := go_eq m s n (t + 1) (by omega)
    rw [← this]
    rfl
def beN (a b c d : Nat) : Nat := Nat.lor (Nat.lor (Nat.lor (Nat.mod (Nat.shiftLeft a 24) 4294967296) (Nat.mod (Nat.shiftLeft b 16) 4294967296)) (Nat.mod (Nat.shiftLeft c 8) 4294967296)) d
theorem beN_eq (a b c d : UInt8) : beN a.toNat b.toNat c.toNat d.toNat = (Sha.be a b c d).toNat := by
  unfold beN Sha.be
  have e : ∀ (x : UInt8) (n : Nat), n < 32 → (Nat.shiftLeft x.toNat n).mod 4294967296 = (x.toUInt32 <<< UInt32.ofNat n).toNat := fun x n h => by
    rw [u32_shl_nat _ n h, UInt8.toNat_toUInt32]
    show (x.toNat <<< n) % _ = _
    rw [Nat.shiftLeft_eq]
  rw [UInt32.toNat_or, UInt32.toNat_or, UInt32.toNat_or, UInt8.toNat_toUInt32, e a 24 (by omega), e b 16 (by omega), e c 8 (by omega)]
  rfl
def w4 : List Nat → List Nat
  | a :: b :: c :: d :: r => force (beN a b c d) fun w => w :: w4 r
  | _ => []
theorem w4_eq (l : List UInt8) : ∀ (n at_ : Nat), at_ + 4 * n ≤ l.length → w4 (((l.drop at_).take (4 * n)).map (·.toNat)) = (List.range n).map fun t => (Sha.word l at_ t).toNat
  | 0, at_, _ => by simp [w4]
  | n + 1, at_, h => by
    have e4 : (l.drop at_).take (4 * (n + 1)) = l.getD at_ 0 :: l.getD (at_ + 1) 0 :: l.getD (at_ + 2) 0 :: l.getD (at_ + 3) 0 :: (l.drop (at_ + 4)).take (4 * n) := by
      have hg : ∀ i, i < l.length → l.drop i = l.getD i 0 :: l.drop (i + 1) := fun i hi => by
        rw [List.drop_eq_getElem_cons hi]; congr 1; simp [List.getD, hi]
      rw [hg at_ (by omega), hg (at_ + 1) (by omega), hg (at_ + 1 + 1) (by omega), hg (at_ + 1 + 1 + 1) (by omega)]
      rw [show 4 * (n + 1) = 4 * n + 1 + 1 + 1 + 1 by omega]
      simp only [List.take_succ_cons]
    rw [e4]
    simp only [List.map_cons, w4, force_eq]
    rw [w4_eq l n (at_ + 4) (by omega), beN_eq, List.range_succ_eq_map, List.map_cons, List.map_map]
    have hw0 : Sha.word l at_ 0 = Sha.be (l.getD at_ 0) (l.getD (at_ + 1) 0) (l.getD (at_ + 2) 0) (l.getD (at_ + 3) 0) := rfl
    rw [hw0]
    refine congrArg (List.cons _) ?_
    apply List.map_congr_left
    intro t _
    simp only [Function.comp, Sha.word]
    rw [show at_ + 4 + 4 * t = at_ + 4 * (t + 1) by omega]
def kN : List Nat := [
  0x428a2f98, 0x71374491, 0xb5c0fbcf, 0xe9b5dba5, 0x3956c25b, 0x59f111f1, 0x923f82a4, 0xab1c5ed5,
  0xd807aa98, 0x12835b01, 0x243185be, 0x550c7dc3, 0x72be5d74, 0x80deb1fe, 0x9bdc06a7, 0xc19bf174,
  0xe49b69c1, 0xefbe4786, 0x0fc19dc6, 0x240ca1cc, 0x2de92c6f, 0x4a7484aa, 0x5cb0a9dc, 0x76f988da,
  0x983e5152, 0xa831c66d, 0xb00327c8, 0xbf597fc7, 0xc6e00bf3, 0xd5a79147, 0x06ca6351, 0x14292967,
  0x27b70a85, 0x2e1b2138, 0x4d2c6dfc, 0x53380d13, 0x650a7354, 0x766a0abb, 0x81c2c92e, 0x92722c85,
  0xa2bfe8a1, 0xa81a664b, 0xc24b8b70, 0xc76c51a3, 0xd192e819, 0xd6990624, 0xf40e3585, 0x106aa070,
  0x19a4c116, 0x1e376c08, 0x2748774c, 0x34b0bcb5, 0x391c0cb3, 0x4ed8aa4a, 0x5b9cca4f, 0x682e6ff3,
  0x748f82ee, 0x78a5636f, 0x84c87814, 0x8cc70208, 0x90befffa, 0xa4506ceb, 0xbef9a3f7, 0xc67178f2]
theorem kN_eq : Sha.kl.map (·.toNat) = kN := by decide +kernel
/-- Numbers reckoned ahead of what uses them. -/
def forceL {α : Type} : List Nat → (List Nat → α) → α
  | [], f => f []
  | n :: l, f => force n fun m => forceL l fun r => f (m :: r)
theorem forceL_eq {α : Type} : ∀ (l : List Nat) (f : List Nat → α), forceL l f = f l
  | [], _ => rfl
  | n :: l, f => by simp only [forceL, force_eq, forceL_eq l]
def addL : List Nat → List Nat → List Nat
  | a :: l, b :: m => Nat.mod (a + b) 4294967296 :: addL l m
  | _, _ => []
def blkN (s : List Nat) (bytes : List Nat) : List Nat := match s with
  | [a, b, c, d, e, f, g, h] => addL s (go kN (w4 bytes) a b c d e f g h)
  | _ => []
theorem blkN_eq (s : Sha.St) (l : List UInt8) (at_ : Nat) (h : at_ + 64 ≤ l.length) : blkN (toL s) (((l.drop at_).take 64).map (·.toNat)) = toL (Sha.blk s l at_) := by
  have hw := w4_eq l 16 at_ h
  unfold blkN toL
  simp only []
  rw [show (64 : Nat) = 4 * 16 from rfl, hw]
  have hwd : ((List.range 16).map fun t => (Sha.word l at_ t).toNat) = (List.range 16).map fun i => (Sha.wd (Sha.word l at_) (0 + i)).toNat := by
    apply List.map_congr_left
    intro t ht
    rw [Nat.zero_add, Sha.wd_lo _ (List.mem_range.1 ht)]
  have := go_eq (Sha.word l at_) s 64 0 rfl
  rw [← hwd, List.drop_zero, kN_eq] at this
  have e0 : Sha.rounds (Sha.word l at_) s 0 = s := rfl
  rw [e0] at this
  rw [this]
  unfold Sha.blk Sha.add toL
  simp only [addL, UInt32.toNat_add]
  rfl
def blksN : Nat → List Nat → List Nat → List Nat
  | 0, _, s => s
  | n + 1, l, s => forceL (blkN s (l.take 64)) fun s' => blksN n (l.drop 64) s'
theorem blksN_eq (l : List UInt8) (s : Sha.St) : ∀ (n k : Nat), 64 * (k + n) ≤ l.length → blksN n ((l.drop (64 * k)).map (·.toNat)) (toL (Sha.blks l s k)) = toL (Sha.blks l s (k + n))
  | 0, k, _ => rfl
  | n + 1, k, h => by
    simp only [blksN, forceL_eq]
    rw [← List.map_take, blkN_eq _ _ _ (by omega), ← List.map_drop, List.drop_drop]
    have : toL (Sha.blk (Sha.blks l s k) l (64 * k)) = toL (Sha.blks l s (k + 1)) := rfl
    rw [this, show 64 * k + 64 = 64 * (k + 1) by omega, blksN_eq l s n (k + 1) (by omega)]
    congr 2; omega
def outN (s : List Nat) : List Nat := (List.range 16).map fun k => Nat.mod (Nat.div (s.getD (k / 4) 0) (2 ^ (24 - 8 * (k % 4)))) 256
def initN : List Nat := [0x6a09e667, 0xbb67ae85, 0x3c6ef372, 0xa54ff53a, 0x510e527f, 0x9b05688c, 0x1f83d9ab, 0x5be0cd19]
/-- The seal of bytes. -/
def sumN (l : List Nat) (tl : List Nat) (n : Nat) : List Nat := outN (blksN n (l ++ tl) initN)
theorem sumN_eq (l : List UInt8) (n : Nat) (hn : n = (l.length + Sha.zeros l.length + 9) / 64) : (Sha.sum l).map (·.toNat) = sumN (l.map (·.toNat)) ((Sha.tail l.length).map (·.toNat)) n := by
  unfold sumN Sha.sum
  have hlen : (Sha.pad l).length / 64 = n := by rw [Sha.pad_length, hn]
  rw [hlen]
  have h1 := blksN_eq (Sha.pad l) Sha.init n 0 (by rw [Sha.pad_length]; have := Sha.pad_mod l; rw [Sha.pad_length] at this; omega)
  rw [Nat.mul_zero, List.drop_zero, Nat.zero_add] at h1
  have h0 : toL (Sha.blks (Sha.pad l) Sha.init 0) = initN := by
    show toL Sha.init = initN
    decide +kernel
  rw [h0] at h1
  have hp : (Sha.pad l).map (·.toNat) = l.map (·.toNat) ++ (Sha.tail l.length).map (·.toNat) := by unfold Sha.pad; rw [List.map_append]
  rw [← hp, h1]
  unfold Sha.out outN
  rw [List.map_map]
  apply List.map_congr_left
  intro k hk
  have hk16 := List.mem_range.1 hk
  simp only [Function.comp, Sha.outAt, Sha.byte]
  have hg : (toL (Sha.blks (Sha.pad l) Sha.init n)).getD (k / 4) 0 = (Sha.get (Sha.blks (Sha.pad l) Sha.init n) (k / 4)).toNat := by
    have : k / 4 = 0 ∨ k / 4 = 1 ∨ k / 4 = 2 ∨ k / 4 = 3 := by omega
    rcases this with h | h | h | h <;> rw [h] <;> rfl
  rw [hg]
  exact UInt8.toNat_ofNat_of_lt' (by have := Nat.mod_lt ((Sha.get (Sha.blks (Sha.pad l) Sha.init n) (k / 4)).toNat / 2 ^ (24 - 8 * (k % 4))) (show 0 < 256 by omega); simpa [UInt8.size] using this)
theorem toNat_inj : ∀ {l m : List UInt8}, l.map (·.toNat) = m.map (·.toNat) → l = m
  | [], [], _ => rfl
  | [], _ :: _, h => by cases h
  | _ :: _, [], h => by cases h
  | a :: l, b :: m, h => by
    simp only [List.map_cons, List.cons.injEq] at h
    rw [UInt8.toNat_inj.1 h.1, toNat_inj h.2]
end ShaN
end Go

/- The chapter's table, as it is dropped and a byte of it is turned; many pairs. Plain facts. No condition. -/
namespace Go.Proofs.YtgkljncigbiffaaDoor
open Go.RowKit
/-! ### The chapter's table -/
theorem abc_stands : TOpen (tG 8 2) (abD 5 2) (2, 5, ()) [abcL] [(1, 5, ())] := by
  have hl : (ppack abcL).2.length = 1 := by rw [abc_pack]; rfl
  have h := (table_stands (n := 8) (s := 5) (l := abcL) (N := (Dsk.new (104 + 4 * 8)).N) (d := abD 5 2) (g := tG 8 2) (by rw [abc_pack]) (by rw [hl]; exact abc_puts.2) (by decide) (by decide) (by omega) (by rw [hl]; omega) rfl).1
  rw [hl, show tk 5 1 = ((2 : Int), (5 : Int), ()) from rfl, abc_pack] at h
  exact h
/-- Behind the drop. -/
def kn2 : Grd := ⟨8, [2, 2, 0, 0, 0, 0, 0, 0], []⟩
theorem kn_g : tG 8 2 = ⟨8, [1, 1, 0, 0, 0, 0, 0, 0], []⟩ := by unfold tG; congr 1
theorem kn_drop : tdrop (tG 8 2) (abD 5 2) (2, 5, ()) = (0, kn2) := by
  unfold tdrop
  rw [abc_stands.blocks, if_neg (by simp), kn_g]
  rfl
theorem kn2_stands : TOpen kn2 (abD 5 2) (2, 5, ()) [abcL] [(1, 5, ())] := abc_stands.lw (L := [2, 2, 0, 0, 0, 0, 0, 0]) (W := [])
theorem kn_drop2 : tdrop kn2 (abD 5 2) (2, 5, ()) = (9, kn2) := by
  unfold tdrop
  rw [kn2_stands.blocks, if_neg (by simp)]
  rfl
/-! ### A byte is turned -/
def kb1 : GBT := (1, (1, 5, ()), [], gbody abcL, ())
def kb1Rest : List UInt8 := GB.rest kb1
def kb1Sum : List UInt8 := [221, 32, 72, 57, 71, 59, 53, 139, 218, 43, 1, 193, 245, 64, 65, 132]
def kb1Bad : List UInt8 := [88, 46, 38, 248, 28, 105, 143, 255, 247, 203, 145, 73, 58, 74, 131, 183]
theorem kb1Rest_length : kb1Rest.length = 1008 := by decide +kernel
theorem kb1Sum_eq : Sha.sum kb1Rest = kb1Sum := by
  refine ShaN.toNat_inj ?_
  rw [ShaN.sumN_eq kb1Rest 16 (by decide +kernel), kb1Rest_length]
  decide +kernel
theorem kb1Bad_eq : Sha.sum (kb1Rest.set 44 1) = kb1Bad := by
  refine ShaN.toNat_inj ?_
  have hl : (kb1Rest.set 44 1).length = 1008 := by rw [List.length_set, kb1Rest_length]
  rw [ShaN.sumN_eq (kb1Rest.set 44 1) 16 (by rw [hl]; decide +kernel), hl]
  decide +kernel
theorem kb1_turned : (GB.read (flip (GB.bytes kb1) 60 1)).1 ≠ 0 := by
  have hb : GB.bytes kb1 = kb1Sum ++ kb1Rest := by unfold GB.bytes; rw [show GB.rest kb1 = kb1Rest from rfl, kb1Sum_eq]
  have hz : (kb1Sum ++ kb1Rest).getD 60 0 = 0 := by decide +kernel
  have e : flip (GB.bytes kb1) 60 1 = kb1Sum ++ kb1Rest.set 44 1 := by
    unfold flip
    rw [hb, hz, List.set_append_right _ _ (by decide)]; rfl
  have h1 : (kb1Sum ++ kb1Rest.set 44 1).drop 16 = kb1Rest.set 44 1 := rfl
  have h2 : (kb1Sum ++ kb1Rest.set 44 1).take 16 = kb1Sum := rfl
  have hl : (kb1Sum ++ kb1Rest.set 44 1).length = 1024 := by rw [List.length_append, List.length_set, kb1Rest_length]; rfl
  unfold GB.read
  rw [e, if_neg (by rw [hl]; simp), h1, h2, kb1Bad_eq, if_pos (by decide)]
  decide
theorem kn_tb0 : tb 5 ((ppack abcL).2.map gbody) (kbytes ((ppack abcL).2.map gkey)) 0 = kb1 := by
  rw [abc_pack]; rfl
/-- What is told of the key a then. -/
theorem kn_turn_of {d : Dsk} {N : Nat} (hw : TWr 8 5 ((ppack abcL).2.map gbody) (kbytes ((ppack abcL).2.map gkey)) N 2 d) (hs : topen kn2 d none (2, 5, ()) = (0, ([(1, 5, ())], [[97]]), kn2)) : ∃ d', d.turn 104 60 1 = (0, d') ∧ d'.N = d.N ∧ topen kn2 d' none (2, 5, ()) = (0, ([(1, 5, ())], [[97]]), kn2) ∧ tget kn2 d' none (2, 5, ()) [97] = (13, pnone, ⟨8, [2, 2, 0, 0, 0, 0, 0, 0], [(1, 5, ())]⟩) := by
  obtain ⟨d', e1, e2, e3, e4, e5⟩ := gturn hw.rm (a := 1) (by omega) (by omega) (i := 60) (by omega) 1
  have h1 := hw.blk 0 (by omega)
  rw [kn_tb0, show ((0 : Nat) : Int) + 1 = 1 from rfl] at h1
  rw [h1] at e4
  have t1 : gthere d' (1, 5, ()) = none := gthere_bad (by rw [show (((1 : Int), (5 : Int), ()) : RefT).1 = 1 from rfl, e4]; exact kb1_turned)
  have h2 := e5 2 (by omega) (by omega) (by omega)
  have t2 : gthere d' (2, 5, ()) = gthere d (2, 5, ()) := by
    unfold gthere
    rw [show (((2 : Int), (5 : Int), ()) : RefT).1 = 2 from rfl, h2]
  have hl2 : glook kn2 d' none (2, 5, ()) = glook kn2 d none (2, 5, ()) := by
    unfold glook
    rw [t2]
    unfold Dsk.isOut
    rw [e2.out, hw.rm.out]
  have ho : topen kn2 d' none (2, 5, ()) = (0, ([(1, 5, ())], [[97]]), kn2) := by
    unfold topen at hs ⊢
    rw [hl2]
    exact hs
  refine ⟨d', e1, e3, ho, ?_⟩
  have hg1 : glook kn2 d' none (1, 5, ()) = (13, none, ⟨8, [2, 2, 0, 0, 0, 0, 0, 0], [(1, 5, ())]⟩) := by
    unfold glook
    rw [if_neg (by unfold Dsk.isOut; rw [e2.out]; simp), if_neg (by decide), t1]
    rfl
  unfold tget
  rw [ho]
  simp only
  rw [if_neg (by simp), if_neg (by decide), show [((1 : Int), (5 : Int), ())].getD (kbef [[97]] [97] - 1) (0, 0, ()) = (1, 5, ()) by decide, tdata_none (by rw [hg1]), hg1]
  rfl
theorem kn_turn : ∃ d', (abD 5 2).turn 104 60 1 = (0, d') ∧ d'.N = (abD 5 2).N ∧ topen kn2 d' none (2, 5, ()) = (0, ([(1, 5, ())], [[97]]), kn2) ∧ tget kn2 d' none (2, 5, ()) [97] = (13, pnone, ⟨8, [2, 2, 0, 0, 0, 0, 0, 0], [(1, 5, ())]⟩) :=
  kn_turn_of abc_puts.2 (kn2_stands.op.trans (by rfl))
theorem kn_mono {d : Dsk} (h : topen kn2 d none (2, 5, ()) = (0, ([(1, 5, ())], [[97]]), kn2)) (key : List UInt8) : ∀ a b : Nat, a ≤ b → b < (topen kn2 d none (2, 5, ())).2.1.2.length → key < (topen kn2 d none (2, 5, ())).2.1.2.getD a [] → key < (topen kn2 d none (2, 5, ())).2.1.2.getD b [] := fun a b hab hb hk => by
  rw [h] at hb hk ⊢
  have hb' : b < 1 := hb
  have : a = b := by omega
  subst this
  exact hk
/-! ### Pairs that may not be, and too many -/
theorem pack_nil : (ppack []).1 = 2 := by decide
theorem pack_ba : (ppack [([98], [], true, ()), ([97], [49], false, ())]).1 = 2 := by kernel_rfl
def bigP (i : Nat) : PairT := (UInt8.ofNat i :: List.replicate 31 0, List.replicate 128 0, false, ())
def bigL (n : Nat) : List PairT := (List.range n).map bigP
theorem big_bytes (i : Nat) : (pbytes (bigP i)).length = 162 := by rw [pbytes_length]; simp [bigP]
/-- Pairs of so many bytes each: five to a block. -/
theorem five_each {l : List PairT} (h : ∀ p ∈ l, (pbytes p).length = 162) : ∀ k, k ≤ l.length → ((l.take k).foldl padd []).length = (k + 4) / 5 ∧ ∀ g, ((l.take k).foldl padd []).getLast? = some g → (gbody g).length = 162 * (k - 5 * ((k + 4) / 5 - 1)) := fun k => by
  induction k with
  | zero => exact fun _ => ⟨rfl, fun g hg => by cases hg⟩
  | succ k ih =>
    intro hk
    obtain ⟨h1, h2⟩ := ih (by omega)
    have hp := h l[k] (List.getElem_mem (by omega))
    rw [List.take_succ_eq_append_getElem (by omega), List.foldl_append, List.foldl_cons, List.foldl_nil]
    generalize (l.take k).foldl padd [] = G at h1 h2
    generalize l[k] = p at hp
    unfold padd
    cases hg : G.getLast? with
    | none =>
      have hG : G = [] := by simpa using hg
      subst hG
      have hk0 : k = 0 := by rw [List.length_nil] at h1; omega
      subst hk0
      refine ⟨rfl, fun g hg => ?_⟩
      have : g = [p] := by simpa using hg.symm
      rw [this, gbody_one, hp]
    | some g =>
      have hs := getLast_split hg
      have hlen := h2 g hg
      have hG1 : G.length = G.dropLast.length + 1 := by
        have := congrArg List.length hs
        rw [List.length_append, List.length_singleton] at this
        exact this
      simp only
      split
      · rename_i hbig
        rw [hp, hlen] at hbig
        refine ⟨by rw [List.length_append, List.length_singleton, h1]; omega, fun g' hg' => ?_⟩
        have : g' = [p] := by simpa using hg'.symm
        rw [this, gbody_one, hp]
        omega
      · rename_i hbig
        rw [hp, hlen] at hbig
        refine ⟨by rw [List.length_append, List.length_singleton, ← hG1, h1]; omega, fun g' hg' => ?_⟩
        have : g' = g ++ [p] := by simpa using hg'.symm
        rw [this, gbody_append, gbody_one, List.length_append, hp, hlen]
        omega
theorem big_sorted : psorted (bigL 64) = true := (psorted_iff _).2 fun i hi => by
  have hl : (bigL 64).length = 64 := by unfold bigL; rw [List.length_map, List.length_range]
  have e : ∀ (j : Nat) (hj : j < (bigL 64).length), (bigL 64)[j] = bigP j := fun j hj => by simp [bigL]
  rw [e i (by omega), e (i + 1) hi]
  refine List.Lex.rel ?_
  rw [UInt8.lt_iff_toNat_lt, ofNat_toNat (by omega), ofNat_toNat (by omega)]
  omega
theorem big_pack : (ppack (bigL 64)).1 = 0 ∧ (ppack (bigL 64)).2.length = 13 := by
  have hl : (bigL 64).length = 64 := by unfold bigL; rw [List.length_map, List.length_range]
  have hall : (bigL 64).all pok = true := List.all_eq_true.2 fun p hp => by
    obtain ⟨i, -, rfl⟩ := List.mem_map.1 hp
    simp [pok, bigP]
  have h5 := (five_each (l := bigL 64) (fun p hp => by obtain ⟨i, -, rfl⟩ := List.mem_map.1 hp; exact big_bytes i) 64 (by omega)).1
  rw [List.take_of_length_le (by omega)] at h5
  have hs := big_sorted
  generalize bigL 64 = L at hl hall h5 hs ⊢
  have hn : ¬ (L = [] ∨ 64 < L.length ∨ psorted L = false ∨ L.all pok = false) := by
    rw [hl, hs, hall]
    rintro (h | h | h | h)
    · rw [h] at hl; cases hl
    · omega
    · cases h
    · cases h
  unfold ppack
  rw [if_neg hn]
  exact ⟨rfl, h5⟩
theorem kn_full : cnts kn2.L 0 < (ppack (bigL 64)).2.length + 1 := by rw [big_pack.2]; decide
theorem kn_some : abcL.filter (inside [98] [99]) = [([98], [], true, ())] := by kernel_rfl
theorem kn_find : pfind abcL [98] = some ([98], [], true, ()) := by kernel_rfl
theorem kn_get : tget (tG 8 2) (abD 5 2) none (2, 5, ()) [98] = (0, ([98], [], true, ()), tG 8 2) := by
  rw [abc_stands.get, show [abcL].flatten = abcL by kernel_rfl, kn_find]
  rfl
end Go.Proofs.YtgkljncigbiffaaDoor

/- Many pairs are made: the law's big. No condition. -/
namespace Go.Proofs.YtgkljncigbiffaaDoor
open Go.RowKit
def BgRel (w : World) (v1 v2 : Value) (wr : World) : Prop := ∃ (k : Nat) (rows sp : List Value), k ≤ 64 ∧ v2 = .int .i64 (k : Int) ∧ PairsU wr w.heap.size v1 (bigL k) rows sp ∧ Below w.heap.size w wr
theorem bigL_succ (k : Nat) : bigL (k + 1) = bigL k ++ [bigP k] := by unfold bigL; rw [List.range_succ, List.map_append]; rfl
theorem bigL_length (k : Nat) : (bigL k).length = k := by unfold bigL; rw [List.length_map, List.length_range]
set_option maxRecDepth 100000 in
set_option maxHeartbeats 2000000 in
theorem big_any (w : World) : Calls Tryd.prog 32 #[] w fun e w' => ∃ (A : Option Addr) (c : Nat), e = .returned (.slice A 64 c) ∧ Pairs w' A (bigL 64) ∧ Below w.heap.size w w' := by
  go_enter Tryd.func32, Tryd.ntmps32
  go_wp2
  go_loopw [1, 2] (fun v1 v2 wr => BgRel w v1 v2 wr) (fun _ v2 _ => 64 - (intOf v2).toNat)
  case atStart => exact ⟨0, [], [], by omega, rfl, PairsU.nil _ _, Below.refl _ _⟩
  case round =>
    obtain ⟨k, rows, sp, hk, rfl, hU, hB⟩ := hrel
    by_cases hlt : k < 64
    case neg =>
      obtain rfl : k = 64 := by omega
      obtain ⟨A, c, hv, -, -, hP, -⟩ := hU.pairs
      have HF := Lib.hid (And.intro hv (And.intro hP hB))
      clear hU hv hP hB hk hlt
      go_wp2
      go_ret
      exact ⟨A, c, by rw [bigL_length] at HF; exact congrArg Ending.returned HF.out.1, HF.out.2.1, HF.out.2.2⟩
    obtain ⟨A5, c5, hv, -⟩ := hU.pairs
    rw [bigL_length] at hv
    subst hv
    have kd : decide ((k : Int) < 64) = true := decide_eq_true (by omega)
    have HU := Lib.hid (And.intro hU hB)
    have HW := Lib.hid hB.size
    clear hU hB hk
    go_wp2_with (first
      | ((with_reducible show wpList _ _ _ ((⟨some 8, _, _, _, _, _⟩ : Oper) :: _) _ _); refine wpList_make_bytes (o := ⟨some 8, _, _, _, _, _⟩) _ (by rfl) _ _ _ (by rfl) _ Tryd.underlying22 u8info .i64 .i64 _ _ (32) (32) (by rfl) (by rfl) (by first | rfl | omega) (by first | rfl | omega) (by omega) (by omega) ?_; intro w5 h5 hb5 hs5; have d5 := h5.at_ 0 (v := .int .u8 0) rfl; have f5 := h5.frozen 0; clear hs5; refine stopped ?_)
      | fail)
    refine Stopped.mk ?_
    have H5 := Lib.hid (And.intro h5 hb5)
    clear h5 hb5
    go_wp2_with (first
      | ((with_reducible show wpList _ _ _ ((⟨some 15, _, _, _, _, _⟩ : Oper) :: _) _ _); refine wpList_make_bytes (o := ⟨some 15, _, _, _, _, _⟩) _ (by rfl) _ _ _ (by rfl) _ Tryd.underlying22 u8info .i64 .i64 _ _ (128) (128) (by rfl) (by rfl) (by first | rfl | omega) (by first | rfl | omega) (by omega) (by omega) ?_; intro w6 h6 hb6 hs6; clear hs6; refine stopped ?_)
      | fail)
    refine Stopped.mk ?_
    have hu : Upd wr.heap.size w5 (w5.setCell ⟨wr.heap.size, 0, none⟩ (.int .u8 (k : Int))) := (Upd.refl _ _).set 0 _
    have hk5 := H5.out.1.set_ 0 (.int .u8 (k : Int))
    rw [show (((List.replicate 32 0).map u8v).toArray).setIfInBounds 0 (.int .u8 (k : Int)) = ((UInt8.ofNat k :: List.replicate 31 0).map u8v).toArray by rw [List.map_cons, u8_of (by omega)]; rfl] at hk5
    have hs5 : (w5.setCell ⟨wr.heap.size, 0, none⟩ (.int .u8 (k : Int))).heap.size = w5.heap.size := by simp
    have hbA := H5.out.2.upd hu (Nat.le_refl _)
    rw [hs5] at h6
    have hkv : wr.heap.size < w5.heap.size := H5.out.1.lt
    have hb06 := hbA.trans (hb6.mono hbA.size)
    have hk6 := hk5.below hb6 hk5.lt
    have hU6 := HU.out.1.below hb06
    have hB6 := HU.out.2.trans (hb06.mono HU.out.2.size)
    have ok6 : OwnB 5 w6 w.heap.size (.slice (some ⟨wr.heap.size, 0, none⟩) 32 32) (bigP k).1 [] := .inr ⟨wr.heap.size, 32, rfl, HW.out, by rw [List.map_nil, List.append_nil]; exact hk6, Nat.le_refl _, by simp [maxLen], rfl, rfl⟩
    have ov6 : OwnB 5 w6 w.heap.size (.slice (some ⟨w5.heap.size, 0, none⟩) 128 128) (bigP k).2.1 [] := .inr ⟨w5.heap.size, 128, rfl, Nat.le_trans HW.out (Nat.le_of_lt hkv), by rw [List.map_nil, List.append_nil]; exact h6, Nat.le_refl _, by simp [maxLen], by rw [List.length_map]; exact (List.length_replicate).trans (by rw [show (bigP k).2.1.length = 128 from List.length_replicate]), rfl⟩
    generalize wr.heap.size = kb at ok6 hu hkv ⊢
    generalize w5.heap.size = vb at ov6 hkv ⊢
    have hbl := (Below.refl w6.heap.size w6).alloc (Nat.le_refl _) (.cells #[.slice (some ⟨kb, 0, none⟩) 32 32, .slice (some ⟨vb, 0, none⟩) 128 128, .bool false] 40)
    have hra : Reads (w6.alloc (.cells #[.slice (some ⟨kb, 0, none⟩) 32 32, .slice (some ⟨vb, 0, none⟩) 128 128, .bool false] 40)) (some ⟨w6.heap.size, 0, none⟩) [.slice (some ⟨kb, 0, none⟩) 32 32, .slice (some ⟨vb, 0, none⟩) 128 128, .bool false] := reads_new w6 40 _
    have hoa := OwnsC.ownBelow hU6.own hbl
    rw [bigL_length] at hoa
    have H6 := Lib.hid (And.intro hU6 (And.intro ok6 (And.intro ov6 (And.intro hbl (And.intro hra (And.intro hoa hB6))))))
    clear hu hk5 hs5 hbA h6 hkv hb06 hk6 hU6 hB6 ok6 ov6 hbl hra hoa hb6 d5 f5 H5 HU
    go_wp2_with (first
      | ((with_reducible show wpList _ _ _ ((⟨some 18, _, _, _, _, _⟩ : Oper) :: _) _ _); refine wpList_append_vals (o := ⟨some 18, _, _, _, _, _⟩) (by rfl) _ _ _ (by rfl) w.heap.size 40 (.agg #[.slice none 0 0, .slice none 0 0, .bool false]) 3 56 Tryd.underlying41 infoPair (by rfl) (by omega) (.slice A5 k c5) k rows sp (by rfl) H6.out.2.2.2.2.2.1 (some ⟨w6.heap.size, 0, none⟩) 1 1 [.slice (some ⟨kb, 0, none⟩) 32 32, .slice (some ⟨vb, 0, none⟩) 128 128, .bool false] (by rfl) (by rfl) H6.out.2.2.2.2.1 (by simp [Value.oneCell']) (by simp only [maxLen]; omega) (by omega) (Nat.le_trans H6.out.2.2.2.2.2.2.size (by simp)) ?_; intro v4 W8 sp4 ho4 hg4 hv4 hn4; refine stopped ?_)
      | fail)
    refine Stopped.mk ?_
    have hn8 : Near (Value.slice A5 k c5).ownBlock.toList (w6.alloc (.cells #[.slice (some ⟨kb, 0, none⟩) 32 32, .slice (some ⟨vb, 0, none⟩) 128 128, .bool false] 40)) W8 := Near.grown hg4 (fun y hy => Option.mem_toList.2 hy)
    have hadd := (H6.out.1.below H6.out.2.2.2.1).add (p := bigP k) (OwnsC.ownBelow H6.out.2.1 H6.out.2.2.2.1) (OwnsC.ownBelow H6.out.2.2.1 H6.out.2.2.2.1) hn8 (by rw [bigL_length]; exact ho4)
    rw [← bigL_succ] at hadd
    have hbz := H6.out.2.2.2.2.2.2.alloc H6.out.2.2.2.2.2.2.size (.cells #[.slice (some ⟨kb, 0, none⟩) 32 32, .slice (some ⟨vb, 0, none⟩) 128 128, .bool false] 40)
    have hbw := hbz.trans (hn8.toBelow (fun x hx => (OwnsC.lt H6.out.2.2.2.2.2.1 x (Option.mem_toList.1 hx)).1) hbz.size)
    have HF := Lib.hid (show BgRel w v4 (.int .i64 ((k + 1 : Nat) : Int)) W8 from ⟨k + 1, _, sp4, by omega, rfl, hadd, hbw⟩)
    clear ho4 hg4 hv4 hn4 hn8 hadd hbz hbw H6
    go_wp2_with fail
    go_roundw
    case rel => exact HF.out
    case measure => exact meas_up (i := k) (m := 64) rfl rfl hlt
end Go.Proofs.YtgkljncigbiffaaDoor

/- A grid that a statement made, and the statement's own blocks beside it. Conditions: as each says. -/
namespace Go.Proofs.YtgkljncigbiffaaDoor
open Go.RowKit
/-- Some blocks are as they were. -/
structure Same (Y : List Nat) (w w' : World) : Prop where
  size : w.heap.size ≤ w'.heap.size
  block : ∀ y ∈ Y, w'.heap[y]? = w.heap[y]?
/-- What was there ahead of B is as it was, and so are the statement's own blocks. -/
structure GStep (B : Nat) (Y : List Nat) (w w' : World) : Prop where
  bel : Below B w w'
  same : Same Y w w'
section
variable {B : Nat} {Y Y' : List Nat} {w w' w'' : World}
theorem Same.trans (h : Same Y w w') (k : Same Y w' w'') : Same Y w w'' := ⟨Nat.le_trans h.size k.size, fun y hy => (k.block y hy).trans (h.block y hy)⟩
theorem Same.sub (h : Same Y w w') (hs : ∀ y ∈ Y', y ∈ Y) : Same Y' w w' := ⟨h.size, fun y hy => h.block y (hs y hy)⟩
theorem Same.below (k : Below w.heap.size w w') (hY : ∀ y ∈ Y, y < w.heap.size) : Same Y w w' := ⟨k.size, fun y hy => k.block y (hY y hy)⟩
theorem Same.near {X : List Nat} (k : Near X w w') (hY : ∀ y ∈ Y, y < w.heap.size ∧ y ∉ X) : Same Y w w' := ⟨k.size, fun y hy => k.block y (hY y hy).1 (hY y hy).2⟩
theorem Same.blk {y : Nat} {t : TypeId} {cs : Array Value} (h : Same Y w w') (hb : Blk w y t cs) (hy : y ∈ Y) : Blk w' y t cs := (h.block y hy).trans hb
theorem Same.cell (h : Same Y w w') {p : Addr} (hp : p.block ∈ Y) : w'.cell? p = w.cell? p := by unfold World.cell?; rw [h.block _ hp]
theorem Same.bytes {A : Option Addr} {l : List UInt8} (h : Same Y w w') (hb : Bytes w A l) (hA : ∀ ad, A = some ad → ad.block ∈ Y) : Bytes w' A l := fun hne => by
  obtain ⟨b, off, e, hc⟩ := hb hne
  exact ⟨b, off, e, fun j v hv => (h.cell (p := ⟨b, off + j, none⟩) (hA ⟨b, off, none⟩ e)).trans (hc j v hv)⟩
theorem Same.refs {A : Option Addr} {l : List RefT} (h : Same Y w w') (hb : Refs w A l) (hA : ∀ ad, A = some ad → ad.block ∈ Y) : Refs w' A l := fun hp => by
  obtain ⟨b, off, e, hlt, hc⟩ := hb hp
  have hm : b ∈ Y := hA _ e
  exact ⟨b, off, e, Nat.lt_of_lt_of_le hlt h.size, fun i hi => ⟨(h.cell (p := ⟨b, off + i * 2, none⟩) hm).trans (hc i hi).1, (h.cell (p := ⟨b, off + i * 2 + 1, none⟩) hm).trans (hc i hi).2⟩⟩
theorem GStep.trans (h : GStep B Y w w') (k : GStep B Y w' w'') : GStep B Y w w'' := ⟨h.bel.trans k.bel, h.same.trans k.same⟩
theorem GStep.sub (h : GStep B Y w w') (hs : ∀ y ∈ Y', y ∈ Y) : GStep B Y' w w' := ⟨h.bel, h.same.sub hs⟩
theorem GStep.below (k : Below w.heap.size w w') (hs : B ≤ w.heap.size) (hY : ∀ y ∈ Y, y < w.heap.size) : GStep B Y w w' := ⟨k.mono hs, Same.below k hY⟩
end
/-- The grid, its disk, and what is none of theirs. -/
def GX (B : Nat) (Y : List Nat) (w : World) (gp dp : Nat) (g : Grd) (d : Dsk) : Prop :=
  ∃ q : GPl, q.gg = gp ∧ q.p.gd = dp ∧ q.gf = none ∧ GridR w q g d none ∧ (∀ x ∈ q.all, B ≤ x ∧ x ∉ Y) ∧ (∀ y ∈ Y, y < w.heap.size) ∧ B ≤ w.heap.size
section
variable {B gp dp : Nat} {Y Y' : List Nat} {w w' : World} {g g2 : Grd} {d d2 : Dsk}
theorem GX.of_GL (h : GL B w gp dp g d) (hs : B ≤ w.heap.size) : GX B [] w gp dp g d := by
  obtain ⟨q, h1, h2, h3, h4, h5⟩ := h
  exact ⟨q, h1, h2, h3, h4, fun x hx => ⟨h5 x hx, List.not_mem_nil⟩, fun y hy => absurd hy List.not_mem_nil, hs⟩
theorem GX.gl (h : GX B Y w gp dp g d) : GL B w gp dp g d := by
  obtain ⟨q, h1, h2, h3, h4, h5, h6, h7⟩ := h
  exact ⟨q, h1, h2, h3, h4, fun x hx => (h5 x hx).1⟩
theorem GX.size (h : GX B Y w gp dp g d) : B ≤ w.heap.size := by obtain ⟨q, h1, h2, h3, h4, h5, h6, h7⟩ := h; exact h7
theorem GX.own (h : GX B Y w gp dp g d) : ∀ y ∈ Y, y < w.heap.size := by obtain ⟨q, h1, h2, h3, h4, h5, h6, h7⟩ := h; exact h6
theorem GX.ok (h : GX B Y w gp dp g d) : g.Ok d := by obtain ⟨q, h1, h2, h3, h4, h5, h6, h7⟩ := h; exact h4.ok
theorem GX.below (h : GX B Y w gp dp g d) (k : Below w.heap.size w w') : GX B Y w' gp dp g d ∧ GStep B Y w w' := by
  obtain ⟨q, h1, h2, h3, h4, h5, h6, h7⟩ := h
  exact ⟨⟨q, h1, h2, h3, h4.below k, h5, fun y hy => Nat.lt_of_lt_of_le (h6 y hy) k.size, Nat.le_trans h7 k.size⟩, GStep.below k h7 h6⟩
theorem GX.sub (h : GX B Y w gp dp g d) (hs : ∀ y ∈ Y', y ∈ Y) : GX B Y' w gp dp g d := by
  obtain ⟨q, h1, h2, h3, h4, h5, h6, h7⟩ := h
  exact ⟨q, h1, h2, h3, h4, fun x hx => ⟨(h5 x hx).1, fun hm => (h5 x hx).2 (hs x hm)⟩, fun y hy => h6 y (hs y hy), h7⟩
/-- A block of the statement's own that came since. -/
theorem GX.add (h : GX B Y w gp dp g d) (k : Below w.heap.size w w') {y : Nat} (hy : w.heap.size ≤ y) (hy2 : y < w'.heap.size) : GX B (y :: Y) w' gp dp g d := by
  obtain ⟨q, h1, h2, h3, h4, h5, h6, h7⟩ := h
  refine ⟨q, h1, h2, h3, h4.below k, fun x hx => ⟨(h5 x hx).1, fun hm => ?_⟩, fun z hz => ?_, Nat.le_trans h7 k.size⟩
  · rcases List.mem_cons.1 hm with e | e
    · have := h4.lt x hx; omega
    · exact (h5 x hx).2 e
  · rcases List.mem_cons.1 hz with e | e
    · omega
    · exact Nat.lt_of_lt_of_le (h6 z e) k.size
/-- The statement writes blocks of its own. -/
theorem GX.wrote (h : GX B Y w gp dp g d) {X : List Nat} (k : Near X w w') (hX : ∀ x ∈ X, x ∈ Y) : GX B Y w' gp dp g d := by
  obtain ⟨q, h1, h2, h3, h4, h5, h6, h7⟩ := h
  exact ⟨q, h1, h2, h3, h4.near k (fun x hx hm => (h5 x hx).2 (hX x hm)), h5, fun y hy => Nat.lt_of_lt_of_le (h6 y hy) k.size, Nat.le_trans h7 k.size⟩
theorem GX.of_post {q : GPl} {f : Option Fus} (h1 : q.gg = gp) (h2 : q.p.gd = dp) (h3 : q.gf = none) (h5 : ∀ x ∈ q.all, B ≤ x ∧ x ∉ Y) (h6 : ∀ y ∈ Y, y < w.heap.size) (h7 : B ≤ w.heap.size) (h : GPost w q g2 d2 f w') : GX B Y w' gp dp g2 d2 ∧ GStep B Y w w' := by
  obtain ⟨q', k1, k2, k3, k4, k5, k6⟩ := h
  have hf : f = none := by
    have := k4.dk.fr
    rw [k3, h3] at this
    exact this.none_
  subst hf
  refine ⟨⟨q', k1.trans h1, (congrArg Pl.gd k2).trans h2, k3.trans h3, k4, fun x hx => ?_, fun y hy => Nat.lt_of_lt_of_le (h6 y hy) k5.size, Nat.le_trans h7 k5.size⟩, k5.toBelow (fun x hx => (h5 x hx).1) h7, Same.near k5 fun y hy => ⟨h6 y hy, fun hm => (h5 y hm).2 hy⟩⟩
  rcases k6 x hx with e | e
  · exact h5 x e
  · exact ⟨Nat.le_trans h7 e, fun hm => by have := h6 x hm; omega⟩
theorem xsettle (h : GX B Y w gp dp g d) :
    Calls Tryd.prog 47 #[.pointer (some ⟨gp, 0, none⟩)] w fun e w' => e = .returned (.int .i64 (cnt g.L g.L.length : Nat)) ∧ GX B Y w' gp dp { g with L := setl g.L } d ∧ GStep B Y w w' := by
  obtain ⟨q, h1, h2, h3, h4, h5, h6, h7⟩ := h
  have hr := gsettle_any h4
  rw [h1] at hr
  refine hr.mono ?_
  rintro e w' ⟨rfl, hP⟩
  exact ⟨rfl, GX.of_post h1 h2 h3 h5 h6 h7 hP⟩
end
end Go.Proofs.YtgkljncigbiffaaDoor
