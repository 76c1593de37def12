/- DiskKeeps: the law answers true. Conditions: the lists can be read. -/
import Derived.Test.YtlfgjiahnfakdaaMDiskKeeps10
namespace Go.Proofs.Ytlfgjiahnfakdaa
open Go.RowKit
/-- What a round of the steps finds: the bytes that are there in gn; those that are safe in a list of their own. -/
def KpRel (w1 : World) (p : Pl) (gf : Option Nat) (n : Int) (gn N L : Nat) (v15 v16 : Value) (wr : World) : Prop :=
  ∃ (i : Nat) (d : Dsk) (now old : List UInt8) (O : Option Addr) (cO : Nat), i ≤ L ∧ v16 = .int .i64 (i : Int) ∧ v15 = .slice O N cO ∧ old.length = N ∧ Bytes wr O old ∧ (∀ ad, O = some ad → ad.block ≠ gn ∧ ad.block ∉ p.all gf) ∧
    Blk wr gn 5 (now.map u8v).toArray ∧ Kept d now old ∧ d.N = N ∧ d.out = false ∧ DskR wr p gf d ∧ FusR wr gf (fzo n i) ∧ Below w1.heap.size w1 wr
/-- What a round of the reading finds: how many sectors were torn. -/
def TnRel (w7 : World) (t : Option Nat) (N : Nat) (v19 v20 : Value) (wr : World) : Prop :=
  ∃ (i : Nat) (T : Int), i ≤ N ∧ v20 = .int .i64 (i : Int) ∧ v19 = .int .i64 T ∧ (T = 0 ∨ (T = 1 ∧ ∃ j, j < i ∧ t = some j)) ∧ Below w7.heap.size w7 wr
set_option maxRecDepth 100000 in
set_option maxHeartbeats 80000000 in
theorem keeps05_any (sectors n tear : Int) (A K : Option Addr) (c kc : Nat) (l : List KStep) (keeps : List Bool) (w : World) (hn63 : n ≤ 9223372036854775807) (hl : Reads w A (l.flatMap KStep.row)) (hk : Reads w K (keeps.map .bool)) :
    Calls Try.prog 9 #[.int .i64 sectors, .slice A l.length c, .int .i64 n, .slice K keeps.length kc, .int .i64 tear] w fun e w' => e = .returned (.bool true) ∧ Below w.heap.size w w' := by
  have H0 := Lib.hid (And.intro hl hk)
  clear hl hk
  by_cases hbad : sectors < 1 ∨ sectors > 20 ∨ (l.length : Int) > 60 ∨ (keeps.length : Int) > 100
  · obtain ⟨b1, hb1⟩ : ∃ b, decide (sectors < 1) = b := ⟨_, rfl⟩
    obtain ⟨b2, hb2⟩ : ∃ b, decide (sectors > 20) = b := ⟨_, rfl⟩
    obtain ⟨b3, hb3⟩ : ∃ b, decide ((l.length : Int) > 60) = b := ⟨_, rfl⟩
    obtain ⟨b4, hb4⟩ : ∃ b, decide ((keeps.length : Int) > 100) = b := ⟨_, rfl⟩
    have hor : b1 = true ∨ b2 = true ∨ b3 = true ∨ b4 = true := by subst hb1 hb2 hb3 hb4; simpa only [decide_eq_true_eq] using hbad
    have HB := Lib.hid hor
    clear hor hbad H0 hn63
    cases b1 <;> cases b2 <;> cases b3 <;> cases b4
    case false.false.false.false => exact absurd HB.out (by simp)
    all_goals
      clear HB
      go_enter Try.func9, Try.ntmps9
      go_wp2_with fail
      refine (known05_any w).mono ?_
      rintro e w1 ⟨rfl, hb⟩
      have HR := Lib.hid hb
      clear hb
      go_wp2
      go_ret
      exact ⟨rfl, HR.out⟩
  obtain ⟨N, rfl⟩ : ∃ N : Nat, sectors = (N : Int) := ⟨sectors.toNat, by omega⟩
  have hb1 : decide ((N : Int) < 1) = false := by simp; omega
  have hb2 : decide ((N : Int) > 20) = false := by simp; omega
  have hb3 : decide ((l.length : Int) > 60) = false := by simp; omega
  have hb4 : decide ((keeps.length : Int) > 100) = false := by simp; omega
  have hN : 1 ≤ N ∧ N ≤ 20 := by omega
  have hll : l.length ≤ 60 := by omega
  have HN := Lib.hid (And.intro hn63 (show keeps.length ≤ 100 by omega))
  clear hbad hn63
  go_enter Try.func9, Try.ntmps9
  go_wp2_with fail
  refine (known05_any w).mono ?_
  rintro e w1 ⟨rfl, hb⟩
  have HB1 := Lib.hid hb
  clear hb
  go_wp2_with fail
  clear hb1 hb2 hb3 hb4
  refine (new_all N (by omega) _).mono ?_
  rintro e w2 ⟨p, rfl, hd2, hp, hb2⟩
  have HD2 := Lib.hid (And.intro hd2 (And.intro hp hb2))
  clear hd2 hp hb2
  by_cases hneg : n < 0
  case' pos =>
    have hb5 : decide (n ≥ 0) = false := by simp; omega
    obtain ⟨gf, hgf⟩ : ∃ gf : Option Nat, gf = none := ⟨_, rfl⟩
    have HS := Lib.hid (show DskR w2 p gf (Dsk.new N) ∧ FusR w2 gf (fzo n 0) ∧ (∀ g ∈ p.all gf, w1.heap.size ≤ g) ∧ Below w1.heap.size w1 w2 ∧ (p.gd < w2.heap.size ∧ p.gl < w2.heap.size ∧ p.gm < w2.heap.size) ∧ (∀ g, gf = some g → g < w2.heap.size) from by
      subst hgf
      exact ⟨HD2.out.1, by rw [show fzo n 0 = none from if_pos hneg]; trivial, fun g hg => by have h := HD2.out.2.1; simp [Pl.all] at hg; omega, HD2.out.2.2, HD2.out.1.lt, fun g e => by cases e⟩)
    clear HD2 hneg hgf
    go_wp2_with fail
    generalize w2 = w3 at HS ⊢
  case' neg =>
    have hb5 : decide (n ≥ 0) = true := by simp; omega
    have HG := Lib.hid hneg
    clear hneg
    go_wp2_with fail
    have hba := (Below.refl w2.heap.size w2).alloc (Nat.le_refl _) (.cells #[Pl.ptr p] 27)
    have hC := fuse_go (c := 1) (l := [⟨p, none, Dsk.new N, none⟩]) n (reads_new w2 27 [Pl.ptr p]) (fun ad e => by cases e; have h := HD2.out.1.lt; simp [DS.gd]; omega) (fun s hs => by
      rw [List.mem_singleton.1 hs]; exact ⟨HD2.out.1.near (Near.below (X := []) hba) (by simp), trivial⟩) (by simp) (by simp) (by have := HG.out; omega)
    have HCC := Lib.hid (And.intro hC hba)
    clear hC hba
    refine HCC.out.1.mono ?_
    rintro e w3 ⟨rfl, g, hg, hok, hn3⟩
    obtain ⟨gf, hgf⟩ : ∃ gf : Option Nat, gf = some g := ⟨_, rfl⟩
    have HS := Lib.hid (show DskR w3 p gf (Dsk.new N) ∧ FusR w3 gf (fzo n 0) ∧ (∀ g ∈ p.all gf, w1.heap.size ≤ g) ∧ Below w1.heap.size w1 w3 ∧ (p.gd < w3.heap.size ∧ p.gl < w3.heap.size ∧ p.gm < w3.heap.size) ∧ (∀ g, gf = some g → g < w3.heap.size) from by
      subst hgf
      have h1 := hok _ (.head _)
      have h2 := HD2.out.2.2.size
      have hg2 : w2.heap.size ≤ g := Nat.le_trans HCC.out.2.size hg
      have e0 : fzo n 0 = some ⟨n, false⟩ := by
        rw [show fzo n 0 = some (fz n 0) from if_neg (by have := HG.out; omega)]
        unfold fz
        rw [if_pos (by have := HG.out; omega), decide_eq_false (by have := HG.out; omega)]
        rw [show n - ((0 : Nat) : Int) = n by omega]
      refine ⟨h1.1, by rw [e0]; exact h1.2, fun x hx => by have h := HD2.out.2.1; simp [Pl.all] at hx; omega, ?_, h1.1.lt, fun x e => by cases e; exact h1.2.lt rfl⟩
      exact below_near (HD2.out.2.2.trans (HCC.out.2.mono HD2.out.2.2.size)) hn3 (fun x hx => by have h := HD2.out.2.1; simp [DS.gd] at hx; omega) (Nat.le_trans HD2.out.2.2.size HCC.out.2.size))
    clear HD2 HG HCC hok hn3 hg hgf
    go_wp2_with fail
  all_goals
    refine wp_region_tree (Near [] w3) [] (PlanT.takes [0, 2] (.opt 1 (PlanT.takes [4] (.opt 3 (PlanT.takes [5] .done) .no)) (.opt 3 (.opt 1 (PlanT.takes [4, 5] .done) .no) .no))) (by kernel_rfl) (by kernel_rfl) ((Near.refl _ _).drew) ?_
    refine wpTree_pure _ _ _ (by rfl) (by rfl) ?_
    dsimp only [List.filterMap, List.getElem?_cons_zero, List.getElem?_cons_succ]
    repeat (go_big_quiet_step (fail))
    refine wpQuiet_nil ?_
    refine wpTree_opt _ rfl ?_ (wpTree_one _ rfl ?_)
  case' neg.refine_1 =>
    refine wpList_make_bytes (o := ⟨some 62, _, _, _, _, _⟩) _ (by rfl) _ _ _ (by rfl) _ Try.underlying43 u8info .i64 .i64 _ _ N N (by rfl) (by rfl) (by rfl) (by rfl) (Nat.le_refl _) (by omega) ?_
    intro w4 h4 hb4 hs4
    clear hs4
    have hb4' : Below w3.heap.size w3 w4 := (Below.drew (Below.refl w3.heap.size w3)).trans hb4
    go_wp2_with fail
    refine TreeQ.in_ (Near.below hb4') ?_
    refine wpTree_pure _ _ _ (by rfl) (by rfl) ?_
    dsimp only [List.filterMap, List.getElem?_cons_zero, List.getElem?_cons_succ]
    repeat (go_big_quiet_step (fail))
    refine wpQuiet_nil ?_
    refine wpTree_one _ rfl ?_
    refine wpList_make_bytes (o := ⟨some 64, _, _, _, _, _⟩) _ (by rfl) _ _ _ (by rfl) _ Try.underlying43 u8info .i64 .i64 _ _ N N (by rfl) (by rfl) (by rfl) (by rfl) (Nat.le_refl _) (by omega) ?_
    intro w5 h5 hb5' hs5
    clear hs5
    go_wp2_with fail
    refine TreeQ.in_ ((Near.below hb4').trans (Near.below hb5')) ?_
    refine wpTree_pure _ _ _ (by rfl) (by rfl) ?_
    dsimp only [List.filterMap, List.getElem?_cons_zero, List.getElem?_cons_succ]
    repeat (go_big_quiet_step (fail))
    refine wpQuiet_nil ?_
    refine wpTree_done ?_
    have HM := Lib.hid (show Blk w5 w3.heap.size 5 ((List.replicate N 0).map u8v).toArray ∧ Blk w5 w4.heap.size 5 ((List.replicate N 0).map u8v).toArray ∧ w3.heap.size ≠ w4.heap.size ∧ w3.heap.size ∉ p.all gf ∧ w4.heap.size ∉ p.all gf ∧ (w1.heap.size ≤ w3.heap.size ∧ w1.heap.size ≤ w4.heap.size) ∧ DskR w5 p gf (Dsk.new N) ∧ FusR w5 gf (fzo n 0) ∧ (∀ g ∈ p.all gf, w1.heap.size ≤ g) ∧ Below w1.heap.size w1 w5 from by
      have h4k : Blk w5 w3.heap.size 5 ((List.replicate N 0).map u8v).toArray := Blk.below h4 hb5' h4.lt
      have hn : ∀ g ∈ p.all gf, g < w3.heap.size := fun g hg => by
        have h := HS.out.2.2.2.2
        cases gf with
        | none => simp [Pl.all] at hg; omega
        | some x => have := h.2 x rfl; simp [Pl.all] at hg; omega
      have hlt := h4.lt
      have hlt : w3.heap.size < w4.heap.size := hlt
      have hnr : Near [] w3 w5 := (Near.below hb4').trans (Near.below hb5')
      have h1 := HS.out.2.2.2.1.size
      refine ⟨h4k, h5, by omega, fun h => by have := hn _ h; omega, fun h => by have := hn _ h; omega, by omega, HS.out.1.near hnr (by simp), HS.out.2.1.near hnr (fun g _ => by simp), HS.out.2.2.1, HS.out.2.2.2.1.trans ((hb4'.mono h1).trans (hb5'.mono (Nat.le_trans h1 hb4'.size)))⟩)
    clear h4 hb4 hb4' h5 hb5' HS
    go_wp2_with fail
    generalize w3.heap.size = gn at HM ⊢
    generalize w4.heap.size = go at HM ⊢
  case' neg.refine_2 =>
    refine wpList_make_bytes (o := ⟨some 64, _, _, _, _, _⟩) _ (by rfl) _ _ _ (by rfl) _ Try.underlying43 u8info .i64 .i64 _ _ N N (by rfl) (by rfl) (by rfl) (by rfl) (Nat.le_refl _) (by omega) ?_
    intro w4 h4 hb4 hs4
    clear hs4
    have hb4' : Below w3.heap.size w3 w4 := (Below.drew (Below.refl w3.heap.size w3)).trans hb4
    go_wp2_with fail
    refine TreeQ.in_ (Near.below hb4') ?_
    refine wpTree_one _ rfl ?_
    refine wpList_make_bytes (o := ⟨some 62, _, _, _, _, _⟩) _ (by rfl) _ _ _ (by rfl) _ Try.underlying43 u8info .i64 .i64 _ _ N N (by rfl) (by rfl) (by rfl) (by rfl) (Nat.le_refl _) (by omega) ?_
    intro w5 h5 hb5' hs5
    clear hs5
    go_wp2_with fail
    refine TreeQ.in_ ((Near.below hb4').trans (Near.below hb5')) ?_
    refine wpTree_pure _ _ _ (by rfl) (by rfl) ?_
    dsimp only [List.filterMap, List.getElem?_cons_zero, List.getElem?_cons_succ]
    repeat (go_big_quiet_step (fail))
    refine wpQuiet_nil ?_
    refine wpTree_done ?_
    have HM := Lib.hid (show Blk w5 w4.heap.size 5 ((List.replicate N 0).map u8v).toArray ∧ Blk w5 w3.heap.size 5 ((List.replicate N 0).map u8v).toArray ∧ w4.heap.size ≠ w3.heap.size ∧ w4.heap.size ∉ p.all gf ∧ w3.heap.size ∉ p.all gf ∧ (w1.heap.size ≤ w4.heap.size ∧ w1.heap.size ≤ w3.heap.size) ∧ DskR w5 p gf (Dsk.new N) ∧ FusR w5 gf (fzo n 0) ∧ (∀ g ∈ p.all gf, w1.heap.size ≤ g) ∧ Below w1.heap.size w1 w5 from by
      have h4k : Blk w5 w3.heap.size 5 ((List.replicate N 0).map u8v).toArray := Blk.below h4 hb5' h4.lt
      have hn : ∀ g ∈ p.all gf, g < w3.heap.size := fun g hg => by
        have h := HS.out.2.2.2.2
        cases gf with
        | none => simp [Pl.all] at hg; omega
        | some x => have := h.2 x rfl; simp [Pl.all] at hg; omega
      have hlt := h4.lt
      have hlt : w3.heap.size < w4.heap.size := hlt
      have hnr : Near [] w3 w5 := (Near.below hb4').trans (Near.below hb5')
      have h1 := HS.out.2.2.2.1.size
      refine ⟨h5, h4k, by omega, fun h => by have := hn _ h; omega, fun h => by have := hn _ h; omega, by omega, HS.out.1.near hnr (by simp), HS.out.2.1.near hnr (fun g _ => by simp), HS.out.2.2.1, HS.out.2.2.2.1.trans ((hb4'.mono h1).trans (hb5'.mono (Nat.le_trans h1 hb4'.size)))⟩)
    clear h4 hb4 hb4' h5 hb5' HS
    go_wp2_with fail
    generalize w4.heap.size = gn at HM ⊢
    generalize w3.heap.size = go at HM ⊢
  case' pos.refine_1 =>
    refine wpList_make_bytes (o := ⟨some 62, _, _, _, _, _⟩) _ (by rfl) _ _ _ (by rfl) _ Try.underlying43 u8info .i64 .i64 _ _ N N (by rfl) (by rfl) (by rfl) (by rfl) (Nat.le_refl _) (by omega) ?_
    intro w4 h4 hb4 hs4
    clear hs4
    have hb4' : Below w3.heap.size w3 w4 := (Below.drew (Below.refl w3.heap.size w3)).trans hb4
    go_wp2_with fail
    refine TreeQ.in_ (Near.below hb4') ?_
    refine wpTree_pure _ _ _ (by rfl) (by rfl) ?_
    dsimp only [List.filterMap, List.getElem?_cons_zero, List.getElem?_cons_succ]
    repeat (go_big_quiet_step (fail))
    refine wpQuiet_nil ?_
    refine wpTree_one _ rfl ?_
    refine wpList_make_bytes (o := ⟨some 64, _, _, _, _, _⟩) _ (by rfl) _ _ _ (by rfl) _ Try.underlying43 u8info .i64 .i64 _ _ N N (by rfl) (by rfl) (by rfl) (by rfl) (Nat.le_refl _) (by omega) ?_
    intro w5 h5 hb5' hs5
    clear hs5
    go_wp2_with fail
    refine TreeQ.in_ ((Near.below hb4').trans (Near.below hb5')) ?_
    refine wpTree_pure _ _ _ (by rfl) (by rfl) ?_
    dsimp only [List.filterMap, List.getElem?_cons_zero, List.getElem?_cons_succ]
    repeat (go_big_quiet_step (fail))
    refine wpQuiet_nil ?_
    refine wpTree_done ?_
    have HM := Lib.hid (show Blk w5 w3.heap.size 5 ((List.replicate N 0).map u8v).toArray ∧ Blk w5 w4.heap.size 5 ((List.replicate N 0).map u8v).toArray ∧ w3.heap.size ≠ w4.heap.size ∧ w3.heap.size ∉ p.all gf ∧ w4.heap.size ∉ p.all gf ∧ (w1.heap.size ≤ w3.heap.size ∧ w1.heap.size ≤ w4.heap.size) ∧ DskR w5 p gf (Dsk.new N) ∧ FusR w5 gf (fzo n 0) ∧ (∀ g ∈ p.all gf, w1.heap.size ≤ g) ∧ Below w1.heap.size w1 w5 from by
      have h4k : Blk w5 w3.heap.size 5 ((List.replicate N 0).map u8v).toArray := Blk.below h4 hb5' h4.lt
      have hn : ∀ g ∈ p.all gf, g < w3.heap.size := fun g hg => by
        have h := HS.out.2.2.2.2
        cases gf with
        | none => simp [Pl.all] at hg; omega
        | some x => have := h.2 x rfl; simp [Pl.all] at hg; omega
      have hlt := h4.lt
      have hlt : w3.heap.size < w4.heap.size := hlt
      have hnr : Near [] w3 w5 := (Near.below hb4').trans (Near.below hb5')
      have h1 := HS.out.2.2.2.1.size
      refine ⟨h4k, h5, by omega, fun h => by have := hn _ h; omega, fun h => by have := hn _ h; omega, by omega, HS.out.1.near hnr (by simp), HS.out.2.1.near hnr (fun g _ => by simp), HS.out.2.2.1, HS.out.2.2.2.1.trans ((hb4'.mono h1).trans (hb5'.mono (Nat.le_trans h1 hb4'.size)))⟩)
    clear h4 hb4 hb4' h5 hb5' HS
    go_wp2_with fail
    generalize w3.heap.size = gn at HM ⊢
    generalize w4.heap.size = go at HM ⊢
  case' pos.refine_2 =>
    refine wpList_make_bytes (o := ⟨some 64, _, _, _, _, _⟩) _ (by rfl) _ _ _ (by rfl) _ Try.underlying43 u8info .i64 .i64 _ _ N N (by rfl) (by rfl) (by rfl) (by rfl) (Nat.le_refl _) (by omega) ?_
    intro w4 h4 hb4 hs4
    clear hs4
    have hb4' : Below w3.heap.size w3 w4 := (Below.drew (Below.refl w3.heap.size w3)).trans hb4
    go_wp2_with fail
    refine TreeQ.in_ (Near.below hb4') ?_
    refine wpTree_one _ rfl ?_
    refine wpList_make_bytes (o := ⟨some 62, _, _, _, _, _⟩) _ (by rfl) _ _ _ (by rfl) _ Try.underlying43 u8info .i64 .i64 _ _ N N (by rfl) (by rfl) (by rfl) (by rfl) (Nat.le_refl _) (by omega) ?_
    intro w5 h5 hb5' hs5
    clear hs5
    go_wp2_with fail
    refine TreeQ.in_ ((Near.below hb4').trans (Near.below hb5')) ?_
    refine wpTree_pure _ _ _ (by rfl) (by rfl) ?_
    dsimp only [List.filterMap, List.getElem?_cons_zero, List.getElem?_cons_succ]
    repeat (go_big_quiet_step (fail))
    refine wpQuiet_nil ?_
    refine wpTree_done ?_
    have HM := Lib.hid (show Blk w5 w4.heap.size 5 ((List.replicate N 0).map u8v).toArray ∧ Blk w5 w3.heap.size 5 ((List.replicate N 0).map u8v).toArray ∧ w4.heap.size ≠ w3.heap.size ∧ w4.heap.size ∉ p.all gf ∧ w3.heap.size ∉ p.all gf ∧ (w1.heap.size ≤ w4.heap.size ∧ w1.heap.size ≤ w3.heap.size) ∧ DskR w5 p gf (Dsk.new N) ∧ FusR w5 gf (fzo n 0) ∧ (∀ g ∈ p.all gf, w1.heap.size ≤ g) ∧ Below w1.heap.size w1 w5 from by
      have h4k : Blk w5 w3.heap.size 5 ((List.replicate N 0).map u8v).toArray := Blk.below h4 hb5' h4.lt
      have hn : ∀ g ∈ p.all gf, g < w3.heap.size := fun g hg => by
        have h := HS.out.2.2.2.2
        cases gf with
        | none => simp [Pl.all] at hg; omega
        | some x => have := h.2 x rfl; simp [Pl.all] at hg; omega
      have hlt := h4.lt
      have hlt : w3.heap.size < w4.heap.size := hlt
      have hnr : Near [] w3 w5 := (Near.below hb4').trans (Near.below hb5')
      have h1 := HS.out.2.2.2.1.size
      refine ⟨h5, h4k, by omega, fun h => by have := hn _ h; omega, fun h => by have := hn _ h; omega, by omega, HS.out.1.near hnr (by simp), HS.out.2.1.near hnr (fun g _ => by simp), HS.out.2.2.1, HS.out.2.2.2.1.trans ((hb4'.mono h1).trans (hb5'.mono (Nat.le_trans h1 hb4'.size)))⟩)
    clear h4 hb4 hb4' h5 hb5' HS
    go_wp2_with fail
    generalize w4.heap.size = gn at HM ⊢
    generalize w3.heap.size = go at HM ⊢
  all_goals clear hb5
  all_goals
    have hS : KpRel w1 p gf n gn N l.length (.slice (some ⟨go, 0, none⟩) N N) (.int .i64 0) w5 :=
      ⟨0, Dsk.new N, List.replicate N 0, List.replicate N 0, some ⟨go, 0, none⟩, N, Nat.zero_le _, rfl, rfl, List.length_replicate .., HM.out.2.1.bytes, (fun ad e => by cases e; exact ⟨fun h => HM.out.2.2.1 h.symm, HM.out.2.2.2.2.1⟩), HM.out.1, Kept.new (by omega), rfl, rfl, HM.out.2.2.2.2.2.2.1, HM.out.2.2.2.2.2.2.2.1, HM.out.2.2.2.2.2.2.2.2.2⟩
    have HP := Lib.hid (And.intro HM.out.2.2.2.1 (And.intro HM.out.2.2.2.2.2.1 HM.out.2.2.2.2.2.2.2.2.1))
    clear HM
    go_loopw [15, 16] (fun v15 v16 wr => KpRel w1 p gf n gn N l.length v15 v16 wr) (fun _ v _ => l.length - (intOf v).toNat)
    case atStart => exact hS
    case round =>
      clear hS
      obtain ⟨i, d, now, old, O, cO, hi, rfl, rfl, hol, hO, hOX, hnow, hkp, hdN, hdo, hd, hf, hB⟩ := hrel
      by_cases hlt : i < l.length
      case neg =>
        obtain rfl : i = l.length := by omega
        have hkl : keeps.length ≤ 100 := HN.out.2
        have hC := crash_all K keeps kc tear ((H0.out.2.below HB1.out).below hB) (fun hne ad e => by
          have h1 : keeps.map Value.bool ≠ [] := by simpa using hne
          obtain ⟨kb, ko, e2, hkc⟩ := H0.out.2 h1
          rw [e] at e2
          injection e2 with e2
          subst e2
          cases keeps with
          | nil => exact absurd rfl hne
          | cons x r =>
            have h2 := World.block_lt_of_cell? w _ (hkc 0 _ rfl)
            have h3 := HB1.out.size
            have h4 := HP.out.2.2 p.gl (by simp [Pl.all])
            have h2 : kb < w.heap.size := h2
            simp; omega) (by omega) hd hkp.ok
        obtain ⟨t, ht⟩ := hkp.crash keeps tear
        have hln : now.length = N := by rw [hkp.ln, hdN]
        have hok := Dsk.crash_ok (keeps := keeps) (tear := tear) hkp.ok
        have hX : ∀ x ∈ [p.gd, p.gl, p.gm], x ∈ p.all gf := fun x hx => by simp at hx; rcases hx with rfl | rfl | rfl <;> simp [Pl.all]
        have HE := Lib.hid (And.intro hC (And.intro ht (And.intro hln (And.intro hok (And.intro hX (And.intro hol (And.intro hO (And.intro hOX (And.intro hnow (And.intro hdN hB))))))))))
        clear hC ht hln hok hX hol hO hOX hnow hkp hdN hdo hd hf hB hi hlt hkl
        go_wp2_with fail
        refine HE.out.1.mono ?_
        rintro e w7 ⟨rfl, hd7, hn7⟩
        have hn7' := hn7.wider HE.out.2.2.2.2.1
        obtain ⟨dc, hdc⟩ : ∃ dc, dc = d.crash keeps tear := ⟨_, rfl⟩
        have hdN : dc.N = N := by rw [hdc]; exact HE.out.2.2.2.2.2.2.2.2.2.1
        have hlo : dc.loose = [] := by rw [hdc]; unfold Dsk.loose Dsk.crash; simp
        have HZ := Lib.hid (show DskR w7 p none dc ∧ dc.Ok ∧ dc.out = false ∧ dc.N = N ∧ Blk w7 gn 5 (now.map u8v).toArray ∧ Bytes w7 O old ∧ now.length = N ∧ old.length = N ∧ (∀ (j : Nat) (h1 : j < now.length) (h2 : j < old.length), sec dc.L j = rep now[j] ∨ sec dc.L j = rep old[j] ∨ (t = some j ∧ sec dc.L j = halfOf now[j] old[j])) ∧ Below w1.heap.size w1 w7 ∧ dc.loose = [] from
          ⟨by rw [hdc]; exact hd7, by rw [hdc]; exact HE.out.2.2.2.1, by rw [hdc]; rfl, hdN, HE.out.2.2.2.2.2.2.2.2.1.near hn7' HP.out.1, Bytes.near HE.out.2.2.2.2.2.2.1 hn7' (fun ad e => (HE.out.2.2.2.2.2.2.2.1 ad e).2), HE.out.2.2.1, HE.out.2.2.2.2.2.1, by rw [hdc]; exact HE.out.2.1, below_near HE.out.2.2.2.2.2.2.2.2.2.2 hn7' HP.out.2.2 HE.out.2.2.2.2.2.2.2.2.2.2.size, hlo⟩)
        clear hd7 hn7 hn7' hdc hdN hlo HE
        go_wp2_with fail
        go_loopw [19, 20] (fun v19 v20 wr => TnRel w7 t N v19 v20 wr) (fun _ v _ => N - (intOf v).toNat)
        case atStart => exact ⟨0, 0, Nat.zero_le _, rfl, rfl, .inl rfl, Below.refl _ _⟩
        case round =>
          obtain ⟨i, T, hi, rfl, rfl, hT, hB⟩ := hrel
          by_cases hlt : i < N
          case neg =>
            have hT1 : decide (T ≤ 1) = true := by rcases hT with h | h <;> simp <;> omega
            have hd := HZ.out.1.near (Near.below (X := []) hB) (by simp)
            have hL := loose_all hd HZ.out.2.1
            rw [HZ.out.2.2.2.2.2.2.2.2.2.2] at hL
            have HL := Lib.hid (And.intro hL (HB1.out.trans ((HZ.out.2.2.2.2.2.2.2.2.2.1.trans (hB.mono HZ.out.2.2.2.2.2.2.2.2.2.1.size)).mono HB1.out.size)))
            have hsz : w.heap.size ≤ wr.heap.size := HL.out.2.size
            clear hd hL hT hB hi
            go_wp2_with fail
            refine HL.out.1.mono ?_
            rintro e w9 ⟨A9, c9, rfl, -, -, hb9⟩
            have HR := Lib.hid (HL.out.2.trans (hb9.mono hsz))
            clear hb9 HL hsz
            go_wp2
            go_ret
            exact ⟨rfl, HR.out⟩
          have hiN : i < now.length := by rw [HZ.out.2.2.2.2.2.2.1]; exact hlt
          have hiO : i < old.length := by rw [HZ.out.2.2.2.2.2.2.2.1]; exact hlt
          obtain ⟨cn, hcn⟩ : ∃ cn, cn = now[i] := ⟨_, rfl⟩
          obtain ⟨co, hco⟩ : ∃ co, co = old[i] := ⟨_, rfl⟩
          have hsec := HZ.out.2.2.2.2.2.2.2.2.1 i hiN hiO
          rw [← hcn, ← hco] at hsec
          have dN7 : w7.cell? ⟨gn, i, none⟩ = some (.int .u8 (iu8 cn)) := HZ.out.2.2.2.2.1.at_ i (by rw [List.getElem?_toArray, List.getElem?_map, List.getElem?_eq_getElem hiN, ← hcn]; rfl)
          obtain ⟨ob, oo, hOe, hoc⟩ := HZ.out.2.2.2.2.2.1 (by intro e; have e2 := congrArg List.length e; rw [List.length_map, List.length_nil] at e2; omega)
          have dO7 : w7.cell? ⟨ob, oo + i, none⟩ = some (.int .u8 (iu8 co)) := hoc i _ (by rw [List.getElem?_map, List.getElem?_eq_getElem hiO, ← hco]; rfl)
          have dN : wr.cell? ⟨gn, i, none⟩ = some (.int .u8 (iu8 cn)) := (hB.cell (p := ⟨gn, i, none⟩) (World.block_lt_of_cell? w7 _ dN7)).trans dN7
          have dO : wr.cell? ⟨ob, oo + i, none⟩ = some (.int .u8 (iu8 co)) := (hB.cell (p := ⟨ob, oo + i, none⟩) (World.block_lt_of_cell? w7 _ dO7)).trans dO7
          have hba := (Below.refl wr.heap.size wr).alloc (Nat.le_refl _) (.cells #[.int .u8 (iu8 cn)] 5)
          have hra : Bytes _ (some ⟨wr.heap.size, 0, none⟩) [cn] := reads_new wr 5 [u8v cn]
          have hda := HZ.out.1.near (Near.below (X := []) (hB.trans (hba.mono hB.size))) (by simp)
          have hRA := reads_any (f := none) (i : Int) (some ⟨wr.heap.size, 0, none⟩) [cn] 1 hra (by simp) hda trivial HZ.out.2.1
          rw [reads_one HZ.out.2.2.1 (by rw [HZ.out.2.2.2.1]; exact hlt)] at hRA
          obtain ⟨qa, hqa⟩ : ∃ qa, qa = decide (sec dc.L i = rep cn) := ⟨_, rfl⟩
          rw [← hqa] at hRA
          have HA := Lib.hid (And.intro hRA (And.intro hqa (And.intro hba (And.intro hsec (And.intro hT (And.intro hB (And.intro dN7 dO7)))))))
          subst hOe
          clear hra hda hRA hqa hba hsec hT hB dN7 dO7 hcn hco hoc hi hiN hiO
          go_wp2_with fail
          refine HA.out.1.mono ?_
          rintro e w8 ⟨rfl, hb8⟩
          have HB8 := Lib.hid (show Below w7.heap.size w7 w8 from HA.out.2.2.2.2.2.1.trans ((HA.out.2.2.1.trans (hb8.mono HA.out.2.2.1.size)).mono HA.out.2.2.2.2.2.1.size))
          clear hb8 dN dO
          cases qa
          case true =>
            have HF := Lib.hid (show TnRel w7 t N (.int .i64 T) (.int .i64 ((i + 1 : Nat) : Int)) w8 from ⟨i + 1, T, hlt, rfl, rfl, by rcases HA.out.2.2.2.2.1 with h | ⟨h, j, hj, h2⟩; exact .inl h; exact .inr ⟨h, j, by omega, h2⟩, HB8.out⟩)
            go_wp2
            go_roundw
            case rel => exact HF.out
            case measure => simp [intOf]; omega
          have hnA : ¬ sec dc.L i = rep cn := of_decide_eq_false HA.out.2.1.symm
          have HnA := Lib.hid hnA
          clear hnA
          have dO : w8.cell? ⟨ob, oo + i, none⟩ = some (.int .u8 (iu8 co)) := (HB8.out.cell (p := ⟨ob, oo + i, none⟩) (World.block_lt_of_cell? w7 _ HA.out.2.2.2.2.2.2.2)).trans HA.out.2.2.2.2.2.2.2
          have hba := (Below.refl w8.heap.size w8).alloc (Nat.le_refl _) (.cells #[.int .u8 (iu8 co)] 5)
          have hra : Bytes _ (some ⟨w8.heap.size, 0, none⟩) [co] := reads_new w8 5 [u8v co]
          have hda := HZ.out.1.near (Near.below (X := []) (HB8.out.trans (hba.mono HB8.out.size))) (by simp)
          have hRA := reads_any (f := none) (i : Int) (some ⟨w8.heap.size, 0, none⟩) [co] 1 hra (by simp) hda trivial HZ.out.2.1
          rw [reads_one HZ.out.2.2.1 (by rw [HZ.out.2.2.2.1]; exact hlt)] at hRA
          obtain ⟨qb, hqb⟩ : ∃ qb, qb = decide (sec dc.L i = rep co) := ⟨_, rfl⟩
          rw [← hqb] at hRA
          have HC := Lib.hid (And.intro hRA (And.intro hqb hba))
          clear hra hda hRA hqb hba
          go_wp2_with fail
          refine HC.out.1.mono ?_
          rintro e w9 ⟨rfl, hb9⟩
          have HB9 := Lib.hid (show Below w7.heap.size w7 w9 from HB8.out.trans ((HC.out.2.2.trans (hb9.mono HC.out.2.2.size)).mono HB8.out.size))
          clear hb9 dO
          cases qb
          case true =>
            have HF := Lib.hid (show TnRel w7 t N (.int .i64 T) (.int .i64 ((i + 1 : Nat) : Int)) w9 from ⟨i + 1, T, hlt, rfl, rfl, by rcases HA.out.2.2.2.2.1 with h | ⟨h, j, hj, h2⟩; exact .inl h; exact .inr ⟨h, j, by omega, h2⟩, HB9.out⟩)
            go_wp2
            go_roundw
            case rel => exact HF.out
            case measure => simp [intOf]; omega
          have hnB : ¬ sec dc.L i = rep co := of_decide_eq_false HC.out.2.1.symm
          have hhalf : t = some i ∧ sec dc.L i = halfOf cn co := by
            rcases HA.out.2.2.2.1 with h | h | h
            · exact absurd h HnA.out
            · exact absurd h hnB
            · exact h
          have hT0 : T = 0 := by
            rcases HA.out.2.2.2.2.1 with h | ⟨h, j, hj, h2⟩
            · exact h
            · rw [hhalf.1] at h2; injection h2 with h2; omega
          subst hT0
          have hd9 := HZ.out.1.near (Near.below (X := []) HB9.out) (by simp)
          have hRd := read_all (f := none) (i : Int) 1 hd9 trivial HZ.out.2.1
          rw [read_one HZ.out.2.2.1 (by rw [HZ.out.2.2.2.1]; exact hlt), hhalf.2] at hRd
          rw [show (halfOf cn co, (0 : Int)).1.length = 256 by simp [halfOf]] at hRd
          have HH := Lib.hid (And.intro hRd hhalf.1)
          clear hnB hhalf hd9 hRd HC HnA
          go_wp2_with fail
          refine HH.out.1.mono ?_
          rintro e w10 ⟨X, rfl, hcase, hb10⟩
          obtain ⟨gx, rfl, hgx0, hgx⟩ : ∃ g, X = some ⟨g, 0, none⟩ ∧ w9.heap.size ≤ g ∧ Blk w10 g 5 ((halfOf cn co).map u8v).toArray := by
            rcases hcase with h | h
            · exact h.2
            · exact absurd rfl h.1
          have HB10 := Lib.hid (show Below w7.heap.size w7 w10 from HB9.out.trans (hb10.mono HB9.out.size))
          have HX := Lib.hid hgx
          have dN : w10.cell? ⟨gn, i, none⟩ = some (.int .u8 (iu8 cn)) := (HB10.out.cell (p := ⟨gn, i, none⟩) (World.block_lt_of_cell? w7 _ HA.out.2.2.2.2.2.2.1)).trans HA.out.2.2.2.2.2.2.1
          have dO : w10.cell? ⟨ob, oo + i, none⟩ = some (.int .u8 (iu8 co)) := (HB10.out.cell (p := ⟨ob, oo + i, none⟩) (World.block_lt_of_cell? w7 _ HA.out.2.2.2.2.2.2.2)).trans HA.out.2.2.2.2.2.2.2
          have hN10 : N = N := rfl
          clear hcase hgx0 hgx hb10 hN10
          go_wp2_with fail
          refine wp_region_tree (Below w10.heap.size w10) [] (PlanT.takes [0, 1, 2, 3, 5, 6, 7, 12, 13, 14] (PlanT.takes [8, 15] (.opt 4 (.opt 9 (PlanT.takes [10] (.opt 11 (.opt 16 (PlanT.takes [17] (.opt 18 (.opt 19 (PlanT.takes [20, 21] .done) .no) .no)) .no) .no)) .no) (.opt 9 (PlanT.takes [10] (.opt 4 (.opt 11 (.opt 16 (PlanT.takes [17] (.opt 18 (.opt 19 (PlanT.takes [20, 21] .done) .no) .no)) .no) .no) .no)) .no)))) (by kernel_rfl) (by kernel_rfl) ((Below.refl _ _).drew) ?_
          refine wpTree_pure _ _ _ (by rfl) (by rfl) ?_
          dsimp only [List.filterMap, List.getElem?_cons_zero, List.getElem?_cons_succ]
          repeat (go_big_quiet_step (fail))
          refine wpQuiet_nil ?_
          refine wpTree_takeL _ _ _ (by rfl) (by rfl) ((Below.refl _ _).drew) ?_
          dsimp only [List.filterMap, List.getElem?_cons_zero, List.getElem?_cons_succ]
          (refine wpQuiet_want' (by rfl) ?_; refine wpQuiet_load_cell (fun w' hw' => (hw'.cell (p := ⟨gn, i, none⟩) (World.block_lt_of_cell? w10 _ dN)).trans dN) (by rfl) _ _ (by rfl) (by rfl) _ Try.underlying5 (by rfl) ?_; simp only [Act.put, List.setIfInBounds_toArray, List.set_cons_zero, List.set_cons_succ])
          (refine wpQuiet_want' (by rfl) ?_; refine wpQuiet_load_cell (fun w' hw' => (hw'.cell (p := ⟨ob, oo + i, none⟩) (World.block_lt_of_cell? w10 _ dO)).trans dO) (by rfl) _ _ (by rfl) (by rfl) _ Try.underlying5 (by rfl) ?_; simp only [Act.put, List.setIfInBounds_toArray, List.set_cons_zero, List.set_cons_succ])
          refine wpQuiet_nil ?_
          clear dN dO
          refine wpTree_opt _ rfl ?_ (wpTree_one _ rfl ?_)
          · go_wp2_with fail
            have ho0 : OwnB 5 (World.alloc w10 (.cells #[] 5)) w10.heap.size (.slice (some ⟨w10.heap.size, 0, none⟩) 0 0) [] [] := by
              have := OwnsC.lit (e := 5) (size := 1) (base := w10.heap.size) w10 #[] 0 (Nat.le_refl _) (by simp) (by simp)
              unfold OwnB
              simpa using this
            have hB11 : Below w10.heap.size w10 (World.drew (World.alloc w10 (.cells #[] 5))) := ((Below.refl w10.heap.size w10).alloc (Nat.le_refl _) (.cells #[] 5)).drew
            have ho11 : OwnB 5 (World.drew (World.alloc w10 (.cells #[] 5))) w10.heap.size (.slice (some ⟨w10.heap.size, 0, none⟩) 0 0) [] [] := ho0
            clear ho0
            generalize World.drew (World.alloc w10 (.cells #[] 5)) = w11 at hB11 ho11 ⊢
            refine TreeQ.in_ hB11 ?_
            refine wpTree_one _ rfl ?_
            go_wp2_with fail
            refine (sector_any cn _).mono ?_
            rintro e w12 ⟨g12, rfl, hs12, -, hb12⟩
            have ho12 := OwnsC.ownBelow ho11 hb12
            have hB12 : Below w10.heap.size w10 w12 := hB11.trans (hb12.mono hB11.size)
            clear hB11 ho11 hb12
            go_wp2_with fail
            refine TreeQ.in_ hB12 ?_
            refine wpTree_pure _ _ _ (by rfl) (by rfl) ?_
            dsimp only [List.filterMap, List.getElem?_cons_zero, List.getElem?_cons_succ]
            repeat (go_big_quiet_step (fail))
            refine wpQuiet_nil ?_
            have hby : Bytes w12 (some ⟨g12, 0, none⟩) (List.replicate 128 cn) := by have h := Bytes.take (Blk.bytes hs12) 128; rw [List.take_replicate] at h; exact h
            have hsz := hB12.size
            refine wpTree_one _ rfl ?_
            refine wpList_want (by rfl) ?_
            refine wpList_append_bytes (o := ⟨some 166, _, _, _, _, _⟩) (by rfl) _ _ _ (by rfl) w10.heap.size _ Try.underlying43 u8info _ ([]) _ (by rfl) ho12 (some ⟨g12, 0, none⟩) 256 (List.replicate 128 cn) (by rfl) hby (by simp) hsz ?_
            intro v13 w13 sp13 ho13 hgr hvo hvn
            have hB13 : Below w10.heap.size w10 w13 := hB12.grown hgr hsz (fun k hk => (OwnsC.lt ho12 k hk).1)
            clear hvo hvn hgr hby hsz
            go_wp2_with fail
            refine TreeQ.in_ hB13 ?_
            rw [List.nil_append] at ho13
            refine wpTree_one _ rfl ?_
            go_wp2_with fail
            refine (sector_any co _).mono ?_
            rintro e w14 ⟨g14, rfl, hs14, -, hb14⟩
            have ho14 := OwnsC.ownBelow ho13 hb14
            have hB14 : Below w10.heap.size w10 w14 := hB13.trans (hb14.mono hB13.size)
            go_wp2_with fail
            refine TreeQ.in_ hB14 ?_
            refine wpTree_pure _ _ _ (by rfl) (by rfl) ?_
            dsimp only [List.filterMap, List.getElem?_cons_zero, List.getElem?_cons_succ]
            repeat (go_big_quiet_step (fail))
            refine wpQuiet_nil ?_
            have hby : Bytes w14 (some ⟨g14, 128, none⟩) (List.replicate 128 co) := by have h := hs14.bytes.drop (k := 128) (cap := 256) (.inl (by simp)); rw [if_neg (by decide), List.drop_replicate] at h; exact h
            have hsz := hB14.size
            refine wpTree_one _ rfl ?_
            refine wpList_want (by rfl) ?_
            refine wpList_append_bytes (o := ⟨some 173, _, _, _, _, _⟩) (by rfl) _ _ _ (by rfl) w10.heap.size _ Try.underlying43 u8info _ (List.replicate 128 cn) _ (by rfl) ho14 (some ⟨g14, 128, none⟩) 128 (List.replicate 128 co) (by rfl) hby (by simp) hsz ?_
            intro v15 w15 sp15 ho15 hgr hvo hvn
            have hB15 : Below w10.heap.size w10 w15 := hB14.grown hgr hsz (fun k hk => (OwnsC.lt ho14 k hk).1)
            clear hvo hvn hgr hby hsz
            go_wp2_with fail
            refine TreeQ.in_ hB15 ?_
            obtain ⟨A15, c15, rfl, -, -, hr15, -⟩ := OwnsC.reads ho15
            have hS := sameBytes_any (some ⟨gx, 0, none⟩) A15 256 (List.replicate 128 cn ++ List.replicate 128 co).length 256 c15 (halfOf cn co) (halfOf cn co) (by simp [halfOf]) rfl w15 ((HX.out.below hB15 HX.out.lt).bytes) hr15
            rw [decide_eq_true rfl] at hS
            have HS := Lib.hid hS
            have HB15 := Lib.hid hB15
            clear hS hr15 ho15 ho14 ho13 hB13 hB14 hB15 hs14 hb14 ho12 hB12 hs12
            refine wpTree_one _ rfl ?_
            go_wp2_with fail
            refine HS.out.mono ?_
            rintro e wq ⟨rfl, hw⟩
            obtain rfl := hw.symm
            clear hw
            go_wp2_with fail
            refine TreeQ.in_ HB15.out ?_
            refine wpTree_pure _ _ _ (by rfl) (by rfl) ?_
            dsimp only [List.filterMap, List.getElem?_cons_zero, List.getElem?_cons_succ]
            repeat (go_big_quiet_step (fail))
            refine wpQuiet_nil ?_
            refine wpTree_done ?_
            have HF := Lib.hid (show TnRel w7 t N (.int .i64 1) (.int .i64 ((i + 1 : Nat) : Int)) w15 from ⟨i + 1, 1, hlt, rfl, rfl, .inr ⟨rfl, i, by omega, HH.out.2⟩, HB10.out.trans (HB15.out.mono HB10.out.size)⟩)
            go_wp2
            go_roundw
            case rel => exact HF.out
            case measure => simp [intOf]; omega
          · go_wp2_with fail
            refine (sector_any cn _).mono ?_
            rintro e w12 ⟨g12, rfl, hs12, -, hb12⟩
            have hB12 : Below w10.heap.size w10 w12 := (Below.drew (Below.refl w10.heap.size w10)).trans hb12
            clear hb12
            go_wp2_with fail
            refine TreeQ.in_ hB12 ?_
            refine wpTree_pure _ _ _ (by rfl) (by rfl) ?_
            dsimp only [List.filterMap, List.getElem?_cons_zero, List.getElem?_cons_succ]
            repeat (go_big_quiet_step (fail))
            refine wpQuiet_nil ?_
            refine wpTree_one _ rfl ?_
            go_wp2_with fail
            have ho0 : OwnB 5 (World.alloc w12 (.cells #[] 5)) w10.heap.size (.slice (some ⟨w12.heap.size, 0, none⟩) 0 0) [] [] := by
              have := OwnsC.lit (e := 5) (size := 1) (base := w10.heap.size) w12 #[] 0 (hB12.size) (by simp) (by simp)
              unfold OwnB
              simpa using this
            have hb13 := (Below.refl w12.heap.size w12).alloc (Nat.le_refl _) (.cells #[] 5)
            have hBe : Below w10.heap.size w10 (World.alloc w12 (.cells #[] 5)) := hB12.trans (hb13.mono hB12.size)
            have hse := Blk.below hs12 hb13 hs12.lt
            clear hs12 hb13 hB12
            generalize World.alloc w12 (.cells #[] 5) = we at ho0 hBe hse ⊢
            refine TreeQ.in_ hBe ?_
            have hby : Bytes we (some ⟨g12, 0, none⟩) (List.replicate 128 cn) := by have h := Bytes.take (Blk.bytes hse) 128; rw [List.take_replicate] at h; exact h
            have hsz := hBe.size
            refine wpTree_one _ rfl ?_
            refine wpList_want (by rfl) ?_
            refine wpList_append_bytes (o := ⟨some 166, _, _, _, _, _⟩) (by rfl) _ _ _ (by rfl) w10.heap.size _ Try.underlying43 u8info _ ([]) _ (by rfl) ho0 (some ⟨g12, 0, none⟩) 256 (List.replicate 128 cn) (by rfl) hby (by simp) hsz ?_
            intro v13 w13 sp13 ho13 hgr hvo hvn
            have hB13 : Below w10.heap.size w10 w13 := hBe.grown hgr hsz (fun k hk => (OwnsC.lt ho0 k hk).1)
            clear hvo hvn hgr hby hsz
            go_wp2_with fail
            refine TreeQ.in_ hB13 ?_
            rw [List.nil_append] at ho13
            refine wpTree_one _ rfl ?_
            go_wp2_with fail
            refine (sector_any co _).mono ?_
            rintro e w14 ⟨g14, rfl, hs14, -, hb14⟩
            have ho14 := OwnsC.ownBelow ho13 hb14
            have hB14 : Below w10.heap.size w10 w14 := hB13.trans (hb14.mono hB13.size)
            go_wp2_with fail
            refine TreeQ.in_ hB14 ?_
            refine wpTree_pure _ _ _ (by rfl) (by rfl) ?_
            dsimp only [List.filterMap, List.getElem?_cons_zero, List.getElem?_cons_succ]
            repeat (go_big_quiet_step (fail))
            refine wpQuiet_nil ?_
            have hby : Bytes w14 (some ⟨g14, 128, none⟩) (List.replicate 128 co) := by have h := hs14.bytes.drop (k := 128) (cap := 256) (.inl (by simp)); rw [if_neg (by decide), List.drop_replicate] at h; exact h
            have hsz := hB14.size
            refine wpTree_one _ rfl ?_
            refine wpList_want (by rfl) ?_
            refine wpList_append_bytes (o := ⟨some 173, _, _, _, _, _⟩) (by rfl) _ _ _ (by rfl) w10.heap.size _ Try.underlying43 u8info _ (List.replicate 128 cn) _ (by rfl) ho14 (some ⟨g14, 128, none⟩) 128 (List.replicate 128 co) (by rfl) hby (by simp) hsz ?_
            intro v15 w15 sp15 ho15 hgr hvo hvn
            have hB15 : Below w10.heap.size w10 w15 := hB14.grown hgr hsz (fun k hk => (OwnsC.lt ho14 k hk).1)
            clear hvo hvn hgr hby hsz
            go_wp2_with fail
            refine TreeQ.in_ hB15 ?_
            obtain ⟨A15, c15, rfl, -, -, hr15, -⟩ := OwnsC.reads ho15
            have hS := sameBytes_any (some ⟨gx, 0, none⟩) A15 256 (List.replicate 128 cn ++ List.replicate 128 co).length 256 c15 (halfOf cn co) (halfOf cn co) (by simp [halfOf]) rfl w15 ((HX.out.below hB15 HX.out.lt).bytes) hr15
            rw [decide_eq_true rfl] at hS
            have HS := Lib.hid hS
            have HB15 := Lib.hid hB15
            clear hS hr15 ho15 ho14 ho13 hB13 hB14 hB15 hs14 hb14 ho0 hBe hse
            refine wpTree_one _ rfl ?_
            go_wp2_with fail
            refine HS.out.mono ?_
            rintro e wq ⟨rfl, hw⟩
            obtain rfl := hw.symm
            clear hw
            go_wp2_with fail
            refine TreeQ.in_ HB15.out ?_
            refine wpTree_pure _ _ _ (by rfl) (by rfl) ?_
            dsimp only [List.filterMap, List.getElem?_cons_zero, List.getElem?_cons_succ]
            repeat (go_big_quiet_step (fail))
            refine wpQuiet_nil ?_
            refine wpTree_done ?_
            have HF := Lib.hid (show TnRel w7 t N (.int .i64 1) (.int .i64 ((i + 1 : Nat) : Int)) w15 from ⟨i + 1, 1, hlt, rfl, rfl, .inr ⟨rfl, i, by omega, HH.out.2⟩, HB10.out.trans (HB15.out.mono HB10.out.size)⟩)
            go_wp2
            go_roundw
            case rel => exact HF.out
            case measure => simp [intOf]; omega
      obtain ⟨b, off, rfl, hcz⟩ := H0.out.1 (by intro e; have e2 := congrArg List.length e; rw [List.length_flatMap] at e2; cases l with
        | nil => simp at hlt
        | cons s l => simp [KStep.row] at e2)
      obtain ⟨s, hs⟩ : ∃ s, s = l[i] := ⟨_, rfl⟩
      have hrow := fun j hj => rows_at l i hlt j hj
      rw [← hs] at hrow
      obtain ⟨at_, cc, fl⟩ := s
      have hbw : ∀ j < 3, w.cell? ⟨b, off + (i * 3 + j), none⟩ = (KStep.row ⟨at_, cc, fl⟩)[j]? ∧ b < w.heap.size := fun j hj => by
        have e1 := hcz (i * 3 + j) _ ((hrow j hj).trans (List.getElem?_eq_getElem (by show j < 3; exact hj)))
        exact ⟨e1.trans (List.getElem?_eq_getElem (by show j < 3; exact hj)).symm, World.block_lt_of_cell? w _ e1⟩
      have hbl := (hbw 0 (by omega)).2
      have hwr : ∀ j < 3, wr.cell? ⟨b, off + (i * 3 + j), none⟩ = (KStep.row ⟨at_, cc, fl⟩)[j]? := fun j hj => (hB.cell (p := ⟨b, off + (i * 3 + j), none⟩) (Nat.lt_of_lt_of_le hbl HB1.out.size)).trans ((HB1.out.cell (p := ⟨b, off + (i * 3 + j), none⟩) hbl).trans (hbw j hj).1)
      have c0 : wr.cell? ⟨b, off + i * 3, none⟩ = some (.int .i64 at_) := hwr 0 (by omega)
      have c1 : wr.cell? ⟨b, off + i * 3 + 1, none⟩ = some (.int .u8 (iu8 cc)) := hwr 1 (by omega)
      have c2 : wr.cell? ⟨b, off + i * 3 + 2, none⟩ = some (.bool fl) := hwr 2 (by omega)
      have hk0 := pickN_lt at_ (N : Int) (by omega)
      have hP := fun w => pick_any at_ (N : Int) (by omega) (by omega) w
      obtain ⟨k, hk⟩ : ∃ k, k = pickN at_ (N : Int) := ⟨_, rfl⟩
      rw [← hk] at hk0 hP
      have hkN : k < N := by omega
      have hP := Lib.hid hP
      have HR := Lib.hid (And.intro hol (And.intro hO (And.intro hOX (And.intro hnow (And.intro hkp (And.intro hdN (And.intro hdo (And.intro hd (And.intro hf (And.intro hB hbl))))))))))
      clear hol hO hOX hnow hkp hdN hdo hd hf hB hcz hs hrow hbw hbl hwr hk hk0 hi
      go_wp2_with fail
      refine (hP.out _).mono ?_
      rintro e wq ⟨rfl, hw⟩
      obtain rfl := hw.symm
      clear hw hP
      cases fl
      · go_wp2_with fail
        refine (sector_any cc _).mono ?_
        rintro e w6 ⟨g6, rfl, h6, hg6, hb6⟩
        have hd6 := HR.out.2.2.2.2.2.2.2.1.near (Near.below (X := []) hb6) (by simp)
        have hf6 := HR.out.2.2.2.2.2.2.2.2.1.near (Near.below (X := []) hb6) (fun g _ => by simp)
        have hltd := HR.out.2.2.2.2.2.2.2.1.lt
        have hltf := fun g hg => HR.out.2.2.2.2.2.2.2.2.1.lt (g := g) hg
        have hW := write_all (f := fzo n i) (k : Int) 256 (some ⟨g6, 0, none⟩) (rep cc) h6.bytes (fun ad e hm => by
          cases e
          have hm : g6 ∈ p.all gf := hm
          cases hgf : gf with
          | none => rw [hgf] at hm; simp [Pl.all] at hm; omega
          | some x => have := hltf x hgf; rw [hgf] at hm; simp [Pl.all] at hm; omega) (by simp) (by simp) hd6 HR.out.2.2.2.2.1.ok hf6
        rw [fzo_write HR.out.2.2.2.2.2.2.1 HN.out.1 i k (by rw [HR.out.2.2.2.2.2.1]; exact hkN) cc, show (rep cc).length = 256 by simp] at hW
        have HW := Lib.hid (And.intro hW hb6)
        clear hW hd6 hf6 h6 hg6 hb6 hltd hltf
        rcases (show (0 ≤ n ∧ n ≤ (i : Int)) ∨ n < 0 ∨ (0 ≤ n ∧ (i : Int) < n) by omega) with hA | hA | hA
        · have hW := HW.out.1
          rw [if_pos hA] at hW
          have hb5 : decide (n ≥ 0) = true := by simp; omega
          have hbi : decide ((i : Int) ≥ n) = true := by simp; omega
          go_wp2_with fail
          refine hW.mono ?_
          rintro e w7 ⟨rfl, hd7, hf7, hn7⟩
          clear hW hA
          have hn67 := (Near.below (X := p.all gf) HW.out.2).trans hn7
          have hB7 := below_near HR.out.2.2.2.2.2.2.2.2.2.1 hn67 HP.out.2.2 HR.out.2.2.2.2.2.2.2.2.2.1.size
          have hbX : b ∉ p.all gf := fun h => by have h1 := HP.out.2.2 _ h; have h2 := HB1.out.size; have h3 := HR.out.2.2.2.2.2.2.2.2.2.2; omega
          have hnow7 := HR.out.2.2.2.1.near hn67 HP.out.1
          have hO7 := Bytes.near HR.out.2.1 hn67 (fun ad e => (HR.out.2.2.1 ad e).2)
          have hF : KpRel w1 p gf n gn N l.length (.slice O N cO) (.int .i64 ((i + 1 : Nat) : Int)) w7 :=
            ⟨i + 1, d, now, old, O, cO, hlt, rfl, rfl, HR.out.1, hO7, HR.out.2.2.1, hnow7, HR.out.2.2.2.2.1, HR.out.2.2.2.2.2.1, HR.out.2.2.2.2.2.2.1, hd7, hf7, hB7⟩
          have HF := Lib.hid hF
          clear hF hd7 hf7 hn7 hn67 hB7 hbX hnow7 hO7 c0 c1 c2 HR HW HP
          go_wp2
          go_roundw
          case rel => exact HF.out
          case measure => simp [intOf]; omega
        · have hW := HW.out.1
          rw [if_neg (by omega)] at hW
          have hb5 : decide (n ≥ 0) = false := by simp; omega
          go_wp2_with fail
          refine hW.mono ?_
          rintro e w7 ⟨rfl, hd7, hf7, hn7⟩
          clear hW hA
          have hn67 := (Near.below (X := p.all gf) HW.out.2).trans hn7
          have hB7 := below_near HR.out.2.2.2.2.2.2.2.2.2.1 hn67 HP.out.2.2 HR.out.2.2.2.2.2.2.2.2.2.1.size
          have hbX : b ∉ p.all gf := fun h => by have h1 := HP.out.2.2 _ h; have h2 := HB1.out.size; have h3 := HR.out.2.2.2.2.2.2.2.2.2.2; omega
          have hnow7 := HR.out.2.2.2.1.near hn67 HP.out.1
          have hO7 := Bytes.near HR.out.2.1 hn67 (fun ad e => (HR.out.2.2.1 ad e).2)
          have k1 : w7.cell? ⟨b, off + i * 3 + 1, none⟩ = some (.int .u8 (iu8 cc)) := (hn67.cell (p := ⟨b, off + i * 3 + 1, none⟩) (World.block_lt_of_cell? wr _ c1) hbX).trans c1
          have k2 : w7.cell? ⟨b, off + i * 3 + 2, none⟩ = some (.bool false) := (hn67.cell (p := ⟨b, off + i * 3 + 2, none⟩) (World.block_lt_of_cell? wr _ c2) hbX).trans c2
          have hkl : k < now.length := by rw [HR.out.2.2.2.2.1.ln, HR.out.2.2.2.2.2.1]; exact hkN
          obtain ⟨y, hy⟩ : ∃ y, now[k]? = some y := ⟨_, List.getElem?_eq_getElem hkl⟩
          have dn := hnow7.at_ k (v := .int .u8 (iu8 y)) (by rw [List.getElem?_toArray, List.getElem?_map, hy]; rfl)
          have fn := hnow7.frozen k
          have hu := (Upd.refl gn w7).set k (.int .u8 (iu8 cc))
          have hns := Near.upd (X := [gn]) hu (List.mem_singleton.2 rfl)
          have hgX : p.gd ∉ [gn] ∧ p.gl ∉ [gn] ∧ p.gm ∉ [gn] := by have h := HP.out.1; simp [Pl.all] at h ⊢; exact ⟨fun e => h.1 e.symm, fun e => h.2.1 e.symm, fun e => h.2.2.1 e.symm⟩
          have hfX : ∀ g, gf = some g → g ∉ [gn] := fun g hg => by have h := HP.out.1; rw [hg] at h; simp [Pl.all] at h ⊢; exact fun e => h.2.2.2 e.symm
          have hF : KpRel w1 p gf n gn N l.length (.slice O N cO) (.int .i64 ((i + 1 : Nat) : Int)) (w7.setCell ⟨gn, k, none⟩ (.int .u8 (iu8 cc))) :=
            ⟨i + 1, (d.tick.put k (rep cc)), (now.set k cc), old, O, cO, hlt, rfl, rfl, HR.out.1, Bytes.near hO7 hns (fun ad e => by have h := (HR.out.2.2.1 ad e).1; simp; exact h), HR.out.2.2.1, (hnow7.set_ k _).sub (cell_set cc), HR.out.2.2.2.2.1.put (by rw [HR.out.2.2.2.2.2.1]; exact hkN) cc, HR.out.2.2.2.2.2.1, HR.out.2.2.2.2.2.2.1, hd7.near hns hgX, hf7.near hns hfX, below_near hB7 hns (fun x hx => by rw [List.mem_singleton.1 hx]; exact HP.out.2.1.1) hB7.size⟩
          have HF := Lib.hid hF
          clear hF hd7 hf7 hn7 hn67 hB7 hbX hnow7 hO7 c0 c1 c2 hu hns hgX hfX hkl hy HR HW HP
          go_wp2
          go_roundw
          case rel => exact HF.out
          case measure => simp [intOf]; omega
        · have hW := HW.out.1
          rw [if_neg (by omega)] at hW
          have hb5 : decide (n ≥ 0) = true := by simp; omega
          have hbi : decide ((i : Int) ≥ n) = false := by simp; omega
          go_wp2_with fail
          refine hW.mono ?_
          rintro e w7 ⟨rfl, hd7, hf7, hn7⟩
          clear hW hA
          have hn67 := (Near.below (X := p.all gf) HW.out.2).trans hn7
          have hB7 := below_near HR.out.2.2.2.2.2.2.2.2.2.1 hn67 HP.out.2.2 HR.out.2.2.2.2.2.2.2.2.2.1.size
          have hbX : b ∉ p.all gf := fun h => by have h1 := HP.out.2.2 _ h; have h2 := HB1.out.size; have h3 := HR.out.2.2.2.2.2.2.2.2.2.2; omega
          have hnow7 := HR.out.2.2.2.1.near hn67 HP.out.1
          have hO7 := Bytes.near HR.out.2.1 hn67 (fun ad e => (HR.out.2.2.1 ad e).2)
          have k1 : w7.cell? ⟨b, off + i * 3 + 1, none⟩ = some (.int .u8 (iu8 cc)) := (hn67.cell (p := ⟨b, off + i * 3 + 1, none⟩) (World.block_lt_of_cell? wr _ c1) hbX).trans c1
          have k2 : w7.cell? ⟨b, off + i * 3 + 2, none⟩ = some (.bool false) := (hn67.cell (p := ⟨b, off + i * 3 + 2, none⟩) (World.block_lt_of_cell? wr _ c2) hbX).trans c2
          have hkl : k < now.length := by rw [HR.out.2.2.2.2.1.ln, HR.out.2.2.2.2.2.1]; exact hkN
          obtain ⟨y, hy⟩ : ∃ y, now[k]? = some y := ⟨_, List.getElem?_eq_getElem hkl⟩
          have dn := hnow7.at_ k (v := .int .u8 (iu8 y)) (by rw [List.getElem?_toArray, List.getElem?_map, hy]; rfl)
          have fn := hnow7.frozen k
          have hu := (Upd.refl gn w7).set k (.int .u8 (iu8 cc))
          have hns := Near.upd (X := [gn]) hu (List.mem_singleton.2 rfl)
          have hgX : p.gd ∉ [gn] ∧ p.gl ∉ [gn] ∧ p.gm ∉ [gn] := by have h := HP.out.1; simp [Pl.all] at h ⊢; exact ⟨fun e => h.1 e.symm, fun e => h.2.1 e.symm, fun e => h.2.2.1 e.symm⟩
          have hfX : ∀ g, gf = some g → g ∉ [gn] := fun g hg => by have h := HP.out.1; rw [hg] at h; simp [Pl.all] at h ⊢; exact fun e => h.2.2.2 e.symm
          have hF : KpRel w1 p gf n gn N l.length (.slice O N cO) (.int .i64 ((i + 1 : Nat) : Int)) (w7.setCell ⟨gn, k, none⟩ (.int .u8 (iu8 cc))) :=
            ⟨i + 1, (d.tick.put k (rep cc)), (now.set k cc), old, O, cO, hlt, rfl, rfl, HR.out.1, Bytes.near hO7 hns (fun ad e => by have h := (HR.out.2.2.1 ad e).1; simp; exact h), HR.out.2.2.1, (hnow7.set_ k _).sub (cell_set cc), HR.out.2.2.2.2.1.put (by rw [HR.out.2.2.2.2.2.1]; exact hkN) cc, HR.out.2.2.2.2.2.1, HR.out.2.2.2.2.2.2.1, hd7.near hns hgX, hf7.near hns hfX, below_near hB7 hns (fun x hx => by rw [List.mem_singleton.1 hx]; exact HP.out.2.1.1) hB7.size⟩
          have HF := Lib.hid hF
          clear hF hd7 hf7 hn7 hn67 hB7 hbX hnow7 hO7 c0 c1 c2 hu hns hgX hfX hkl hy HR HW HP
          go_wp2
          go_roundw
          case rel => exact HF.out
          case measure => simp [intOf]; omega
      · go_wp2_with fail
        have hW := flush_all HR.out.2.2.2.2.2.2.2.1 HR.out.2.2.2.2.2.2.2.2.1
        rw [fzo_flush HR.out.2.2.2.2.2.2.1 HN.out.1 i] at hW
        have HW := Lib.hid (And.intro hW (Below.refl wr.heap.size wr))
        clear hW
        rcases (show (0 ≤ n ∧ n ≤ (i : Int)) ∨ n < 0 ∨ (0 ≤ n ∧ (i : Int) < n) by omega) with hA | hA | hA
        · have hW := HW.out.1
          rw [if_pos hA] at hW
          have hb5 : decide (n ≥ 0) = true := by simp; omega
          have hbi : decide ((i : Int) ≥ n) = true := by simp; omega
          go_wp2_with fail
          refine hW.mono ?_
          rintro e w7 ⟨rfl, hd7, hf7, hn7⟩
          clear hW hA
          have hn67 := (Near.below (X := p.all gf) HW.out.2).trans hn7
          have hB7 := below_near HR.out.2.2.2.2.2.2.2.2.2.1 hn67 HP.out.2.2 HR.out.2.2.2.2.2.2.2.2.2.1.size
          have hbX : b ∉ p.all gf := fun h => by have h1 := HP.out.2.2 _ h; have h2 := HB1.out.size; have h3 := HR.out.2.2.2.2.2.2.2.2.2.2; omega
          have hnow7 := HR.out.2.2.2.1.near hn67 HP.out.1
          have hO7 := Bytes.near HR.out.2.1 hn67 (fun ad e => (HR.out.2.2.1 ad e).2)
          have hF : KpRel w1 p gf n gn N l.length (.slice O N cO) (.int .i64 ((i + 1 : Nat) : Int)) w7 :=
            ⟨i + 1, d, now, old, O, cO, hlt, rfl, rfl, HR.out.1, hO7, HR.out.2.2.1, hnow7, HR.out.2.2.2.2.1, HR.out.2.2.2.2.2.1, HR.out.2.2.2.2.2.2.1, hd7, hf7, hB7⟩
          have HF := Lib.hid hF
          clear hF hd7 hf7 hn7 hn67 hB7 hbX hnow7 hO7 c0 c1 c2 HR HW HP
          go_wp2
          go_roundw
          case rel => exact HF.out
          case measure => simp [intOf]; omega
        · have hW := HW.out.1
          rw [if_neg (by omega)] at hW
          have hb5 : decide (n ≥ 0) = false := by simp; omega
          go_wp2_with fail
          refine hW.mono ?_
          rintro e w7 ⟨rfl, hd7, hf7, hn7⟩
          clear hW hA
          have hn67 := (Near.below (X := p.all gf) HW.out.2).trans hn7
          have hB7 := below_near HR.out.2.2.2.2.2.2.2.2.2.1 hn67 HP.out.2.2 HR.out.2.2.2.2.2.2.2.2.2.1.size
          have hbX : b ∉ p.all gf := fun h => by have h1 := HP.out.2.2 _ h; have h2 := HB1.out.size; have h3 := HR.out.2.2.2.2.2.2.2.2.2.2; omega
          have hnow7 := HR.out.2.2.2.1.near hn67 HP.out.1
          have hO7 := Bytes.near HR.out.2.1 hn67 (fun ad e => (HR.out.2.2.1 ad e).2)
          have k2 : w7.cell? ⟨b, off + i * 3 + 2, none⟩ = some (.bool true) := (hn67.cell (p := ⟨b, off + i * 3 + 2, none⟩) (World.block_lt_of_cell? wr _ c2) hbX).trans c2
          have hnl : now.length = N := by rw [HR.out.2.2.2.2.1.ln, HR.out.2.2.2.2.2.1]
          have hC := copyBytes_any (some ⟨gn, 0, none⟩) N N now hnl.symm (by omega) w7 hnow7.bytes
          have HC := Lib.hid hC
          clear hC c0 c1 c2
          go_wp2_with fail
          refine HC.out.mono ?_
          rintro e w8 ⟨v8, sp8, rfl, hown, hb8⟩
          obtain ⟨O8, c8, rfl, -, -, hr8, -⟩ := OwnsC.reads hown
          rw [hnl]
          have hO8 : ∀ ad, O8 = some ad → w7.heap.size ≤ ad.block := fun ad e => (OwnsC.lt hown ad.block (by rw [e]; rfl)).1
          have hlt7 : ∀ g ∈ p.all gf, g < w7.heap.size := fun g hg => by
            have h1 := hd7.lt
            cases hgf : gf with
            | none => rw [hgf] at hg; simp [Pl.all] at hg; omega
            | some x => have h2 := hf7.lt hgf; rw [hgf] at hg; simp [Pl.all] at hg; omega
          have hgn7 := hnow7.lt
          have hF : KpRel w1 p gf n gn N l.length (.slice O8 N c8) (.int .i64 ((i + 1 : Nat) : Int)) w8 :=
            ⟨i + 1, d.tick.safe, now, now, O8, c8, hlt, rfl, rfl, hnl, hr8, (fun ad e => ⟨fun h => by have := hO8 ad e; omega, fun h => by have := hO8 ad e; have := hlt7 _ h; omega⟩), hnow7.below hb8 hnow7.lt, HR.out.2.2.2.2.1.safe, HR.out.2.2.2.2.2.1, HR.out.2.2.2.2.2.2.1, hd7.near (Near.below (X := []) hb8) (by simp), hf7.near (Near.below (X := []) hb8) (fun g _ => by simp), hB7.trans (hb8.mono hB7.size)⟩
          have HF := Lib.hid hF
          clear hF hd7 hf7 hn7 hn67 hB7 hbX hnow7 hO7 hown hb8 hr8 hO8 hlt7 hgn7 k2 hnl HC HR HW HP
          go_wp2
          go_roundw
          case rel => exact HF.out
          case measure => simp [intOf]; omega
        · have hW := HW.out.1
          rw [if_neg (by omega)] at hW
          have hb5 : decide (n ≥ 0) = true := by simp; omega
          have hbi : decide ((i : Int) ≥ n) = false := by simp; omega
          go_wp2_with fail
          refine hW.mono ?_
          rintro e w7 ⟨rfl, hd7, hf7, hn7⟩
          clear hW hA
          have hn67 := (Near.below (X := p.all gf) HW.out.2).trans hn7
          have hB7 := below_near HR.out.2.2.2.2.2.2.2.2.2.1 hn67 HP.out.2.2 HR.out.2.2.2.2.2.2.2.2.2.1.size
          have hbX : b ∉ p.all gf := fun h => by have h1 := HP.out.2.2 _ h; have h2 := HB1.out.size; have h3 := HR.out.2.2.2.2.2.2.2.2.2.2; omega
          have hnow7 := HR.out.2.2.2.1.near hn67 HP.out.1
          have hO7 := Bytes.near HR.out.2.1 hn67 (fun ad e => (HR.out.2.2.1 ad e).2)
          have k2 : w7.cell? ⟨b, off + i * 3 + 2, none⟩ = some (.bool true) := (hn67.cell (p := ⟨b, off + i * 3 + 2, none⟩) (World.block_lt_of_cell? wr _ c2) hbX).trans c2
          have hnl : now.length = N := by rw [HR.out.2.2.2.2.1.ln, HR.out.2.2.2.2.2.1]
          have hC := copyBytes_any (some ⟨gn, 0, none⟩) N N now hnl.symm (by omega) w7 hnow7.bytes
          have HC := Lib.hid hC
          clear hC c0 c1 c2
          go_wp2_with fail
          refine HC.out.mono ?_
          rintro e w8 ⟨v8, sp8, rfl, hown, hb8⟩
          obtain ⟨O8, c8, rfl, -, -, hr8, -⟩ := OwnsC.reads hown
          rw [hnl]
          have hO8 : ∀ ad, O8 = some ad → w7.heap.size ≤ ad.block := fun ad e => (OwnsC.lt hown ad.block (by rw [e]; rfl)).1
          have hlt7 : ∀ g ∈ p.all gf, g < w7.heap.size := fun g hg => by
            have h1 := hd7.lt
            cases hgf : gf with
            | none => rw [hgf] at hg; simp [Pl.all] at hg; omega
            | some x => have h2 := hf7.lt hgf; rw [hgf] at hg; simp [Pl.all] at hg; omega
          have hgn7 := hnow7.lt
          have hF : KpRel w1 p gf n gn N l.length (.slice O8 N c8) (.int .i64 ((i + 1 : Nat) : Int)) w8 :=
            ⟨i + 1, d.tick.safe, now, now, O8, c8, hlt, rfl, rfl, hnl, hr8, (fun ad e => ⟨fun h => by have := hO8 ad e; omega, fun h => by have := hO8 ad e; have := hlt7 _ h; omega⟩), hnow7.below hb8 hnow7.lt, HR.out.2.2.2.2.1.safe, HR.out.2.2.2.2.2.1, HR.out.2.2.2.2.2.2.1, hd7.near (Near.below (X := []) hb8) (by simp), hf7.near (Near.below (X := []) hb8) (fun g _ => by simp), hB7.trans (hb8.mono hB7.size)⟩
          have HF := Lib.hid hF
          clear hF hd7 hf7 hn7 hn67 hB7 hbX hnow7 hO7 hown hb8 hr8 hO8 hlt7 hgn7 k2 hnl HC HR HW HP
          go_wp2
          go_roundw
          case rel => exact HF.out
          case measure => simp [intOf]; omega
end Go.Proofs.Ytlfgjiahnfakdaa

/- DiskKeeps: for every input the law answers true and every argument reads as it did. No condition. -/
namespace Go
open Go.ChangeShapes Go.WideShapes
section
variable {H : Type} {enc : TypeId × Value → H} {P : Program} {w : World} {base : Nat} {spare : Nat → Bool} {held : Bool}
theorem trodAll_five {t0 t1 t2 t3 t4 : TypeId} {args : Array Value} {ds : List (DataW H)} {ps : List MemPlace} (h : DataW.TrodAll enc P w base spare held [t0, t1, t2, t3, t4] args.toList ds ps) :
    ∃ v0 v1 v2 v3 v4 d0 d1 d2 d3 d4 p0 p1 p2 p3 p4, args = #[v0, v1, v2, v3, v4] ∧ ds = [d0, d1, d2, d3, d4] ∧ ps = p0 ++ p1 ++ p2 ++ p3 ++ p4 ∧ DataW.Trod enc P w base spare held t0 v0 d0 p0 ∧ DataW.Trod enc P w base spare held t1 v1 d1 p1 ∧ DataW.Trod enc P w base spare held t2 v2 d2 p2 ∧ DataW.Trod enc P w base spare held t3 v3 d3 p3 ∧ DataW.Trod enc P w base spare held t4 v4 d4 p4 := by
  obtain ⟨v0, vs, d0, ds', p0, q, hargs, rfl, rfl, h0, hr⟩ := trodAll_cons h
  obtain ⟨v1, vs', d1, ds'', p1, q', rfl, rfl, rfl, h1, hr'⟩ := trodAll_cons hr
  obtain ⟨v2, vs'', d2, ds3, p2, q'', rfl, rfl, rfl, h2, hr''⟩ := trodAll_cons hr'
  obtain ⟨v3, vs3, d3, ds4, p3, q3, rfl, rfl, rfl, h3, hr3⟩ := trodAll_cons hr''
  obtain ⟨v4, vs4, d4, ds5, p4, q4, rfl, rfl, rfl, h4, hr4⟩ := trodAll_cons hr3
  obtain ⟨rfl, rfl, rfl⟩ := trodAll_nil hr4
  exact ⟨v0, v1, v2, v3, v4, d0, d1, d2, d3, d4, p0, p1, p2, p3, p4, by cases args; simp_all, rfl, by simp, h0, h1, h2, h3, h4⟩
theorem trodAll_mk5 {t0 t1 t2 t3 t4 : TypeId} {v0 v1 v2 v3 v4 : Value} {d0 d1 d2 d3 d4 : DataW H} {p0 p1 p2 p3 p4 : List MemPlace} (h0 : DataW.Trod enc P w base spare held t0 v0 d0 p0) (h1 : DataW.Trod enc P w base spare held t1 v1 d1 p1) (h2 : DataW.Trod enc P w base spare held t2 v2 d2 p2) (h3 : DataW.Trod enc P w base spare held t3 v3 d3 p3) (h4 : DataW.Trod enc P w base spare held t4 v4 d4 p4) :
    DataW.TrodAll enc P w base spare held [t0, t1, t2, t3, t4] [v0, v1, v2, v3, v4] [d0, d1, d2, d3, d4] (p0 ++ (p1 ++ (p2 ++ (p3 ++ p4)))) := ⟨p0, p1 ++ (p2 ++ (p3 ++ p4)), h0, ⟨p1, p2 ++ (p3 ++ p4), h1, trodAll_mk3 h2 h3 h4, rfl⟩, rfl⟩
end
/-- The shape of a step. -/
abbrev kstepSh : Sh := .cons (.int .i64) (.cons .byte (.cons .bool .nil))
theorem both_steps {w : World} : ∀ {l : List kstepSh.T} {rows : List (List Value)}, Both (fun d r => r.length = kstepSh.size ∧ Sh.Is w kstepSh d r) l rows → ∃ ks : List KStep, ks.length = l.length ∧ rows.flatten = ks.flatMap KStep.row
  | [], [], _ => ⟨[], rfl, rfl⟩
  | [], _ :: _, h => h.elim
  | _ :: _, [], h => h.elim
  | a :: l, r :: rows, ⟨h1, h2⟩ => by
    obtain ⟨ks, e1, e2⟩ := both_steps h2
    obtain ⟨x, c, f, _⟩ := a
    obtain ⟨_, c1, c2, rfl, _, h3, c3, c4, rfl, _, h4, c5, c6, rfl, _, h5, h6⟩ := h1
    have h3 : c1 = [.int .i64 x] := h3.1
    have h4 : c3 = [u8v c] := h4
    have h5 : c5 = [.bool f] := h5
    have h6 : c6 = [] := h6
    subst h3 h4 h5 h6
    exact ⟨⟨x, c, f⟩ :: ks, (congrArg (· + 1) e1 : ks.length + 1 = l.length + 1), by rw [List.flatten_cons, e2]; rfl⟩
theorem both_bools {w : World} : ∀ {l : List Bool} {rows : List (List Value)}, Both (fun d r => r.length = Sh.bool.size ∧ Sh.Is w .bool d r) l rows → rows.flatten = l.map .bool
  | [], [], _ => rfl
  | [], _ :: _, h => h.elim
  | _ :: _, [], h => h.elim
  | a :: l, r :: rows, ⟨h1, h2⟩ => by
    have hr : r = [.bool a] := h1.2
    rw [List.flatten_cons, hr, both_bools h2]; rfl
end Go
namespace Go.Proofs.Ytlfgjiahnfakdaa
open Go.ChangeShapes Go.WideShapes Go.ChangeAt Go.RowKit
theorem keeps05_args (x n t : Int) (hn : n ≤ IntKind.max .i64) (A K : Option Addr) (c kc : Nat) (l : List kstepSh.T) (keeps : List Bool) (rows rows2 : List (List Value)) (W : World)
    (hb : Both (fun d r => r.length = kstepSh.size ∧ Sh.Is W kstepSh d r) l rows) (hr : Reads W A rows.flatten) (hb2 : Both (fun d r => r.length = Sh.bool.size ∧ Sh.Is W .bool d r) keeps rows2) (hr2 : Reads W K rows2.flatten) :
    Calls Try.prog 9 #[.int .i64 x, .slice A l.length c, .int .i64 n, .slice K keeps.length kc, .int .i64 t] W fun e w' => e = .returned (.bool true) ∧ Below W.heap.size W w' := by
  obtain ⟨ks, e1, e2⟩ := both_steps hb
  rw [← e1]
  exact keeps05_any x n t A K c kc ks keeps W hn (by rw [← e2]; exact hr) (by rw [← both_bools hb2]; exact hr2)
set_option maxRecDepth 100000 in
theorem diskKeeps_lifted (os : Os) (started : os.Started) (H : Type) (enc : TypeId × Value → H) :
    ReturnsInHanded {} Try.checked os 9 .any (Rows.diskKeepsSpec.pre6 enc Try.prog Try.f9 Rows.diskKeepsRow.domain false) (Rows.diskKeepsSpec.post enc Try.prog Try.f9 false true false false) := by
  refine returnsInHanded_of_change (C := Try.checked) Try.own started (by kernel_rfl) Try.func9
    (ChangeSpec.witness6 (enc := enc) (C := Try.checked) false ⟨#[], #[.int .i64 0, .slice none 0 0, .int .i64 0, .slice none 0 0, .int .i64 0], []⟩ 8 (by kernel_rfl) (by kernel_rfl) (by kernel_rfl) (by kernel_rfl)) ?_
  intro W base args ds gs before hval0 hW hcnd _
  have hval : ∀ (j : Nat) t v, Try.f9.params[j]? = some t → args[j]? = some v → Value.okWide Try.prog W .any base t v := hval0
  have hW' := hW
  obtain ⟨p, q, hA0, hV, rfl, hfz, hnd⟩ := hW
  have hA : DataW.TrodAll enc Try.prog W 0 (fun _ => true) true Try.f9.params.toList args.toList ds p := hA0
  rw [Try.params9] at hA hval
  obtain ⟨v0, v1, v2, v3, v4, d0, d1, d2, d3, d4, p0, p1, p2, p3, p4, rfl, rfl, rfl, h0, h1, h2, h3, h4⟩ := trodAll_five hA
  obtain ⟨rfl, rfl⟩ := trodVars_none hV
  have h0k := h0
  have h1k := h1
  have h2k := h2
  have h3k := h3
  have h4k := h4
  obtain ⟨x, hx0⟩ := Sh.open_ (P := Try.prog) (.int .i64) (by kernel_rfl) h0
  obtain ⟨rfl, hlo, hhi⟩ := arg_int Try.underlying3 (hval 0 3 v0 rfl rfl) hx0
  obtain ⟨l, hx1⟩ := Sh.open_ (P := Try.prog) (.slice kstepSh) (by kernel_rfl) h1
  obtain ⟨A, c, rows1, rfl, hc, hc2, hbo, hr⟩ := arg_slice Try.underlying73 (hval 1 73 v1 rfl rfl) hx1
  obtain ⟨n, hx2⟩ := Sh.open_ (P := Try.prog) (.int .i64) (by kernel_rfl) h2
  obtain ⟨rfl, hlo2, hhi2⟩ := arg_int Try.underlying3 (hval 2 3 v2 rfl rfl) hx2
  obtain ⟨k, hx3⟩ := Sh.open_ (P := Try.prog) (.slice .bool) (by kernel_rfl) h3
  obtain ⟨K, kc, rows3, rfl, hkc, hkc2, hbo2, hr2⟩ := arg_slice Try.underlying70 (hval 3 70 v3 rfl rfl) hx3
  obtain ⟨t, hx4⟩ := Sh.open_ (P := Try.prog) (.int .i64) (by kernel_rfl) h4
  obtain ⟨rfl, hlo3, hhi3⟩ := arg_int Try.underlying3 (hval 4 3 v4 rfl rfl) hx4
  clear hA0 hval0
  simp only [List.append_nil] at hW'
  have hlt : ∀ x ∈ p0 ++ p1 ++ p2 ++ p3 ++ p4, x.block < W.heap.size := fun x hx => by simpa using hW'.lt x hx
  refine (keeps05_args x n t hhi2 A K c kc l k _ _ W hbo hr hbo2 hr2).mono fun e W' ⟨he, hw⟩ => ?_
  subst he
  refine ⟨_, rfl, _, _, _, [], p0 ++ p1 ++ p2 ++ p3 ++ p4, [], hW', ?_, ?_, rfl, hw.frame _, fun h => by cases h⟩
  · exact trodAll_mk1 (shut_bool Try.underlying4 true)
  · simp only [List.append_assoc]; exact trodAll_mk5 (Below.trod Try.laidOut (by kernel_rfl) (of_decide_eq_true (by kernel_rfl)) h0k hw (fun x hx => hlt x (by simp [hx]))) (Below.trod Try.laidOut (by kernel_rfl) (of_decide_eq_true (by kernel_rfl)) h1k hw (fun x hx => hlt x (by simp [hx]))) (Below.trod Try.laidOut (by kernel_rfl) (of_decide_eq_true (by kernel_rfl)) h2k hw (fun x hx => hlt x (by simp [hx]))) (Below.trod Try.laidOut (by kernel_rfl) (of_decide_eq_true (by kernel_rfl)) h3k hw (fun x hx => hlt x (by simp [hx]))) (Below.trod Try.laidOut (by kernel_rfl) (of_decide_eq_true (by kernel_rfl)) h4k hw (fun x hx => hlt x (by simp [hx])))
theorem diskKeeps_holds : Rows.DiskKeepsSaid :=
  OpenClaim.holds_of_wide 9 Try.f9 rfl rfl rfl rfl rfl rfl rfl ⟨rfl, rfl, rfl, rfl, rfl⟩ rfl rfl rfl rfl rfl (by kernel_rfl) Try.func9 (by kernel_rfl)
    (of_decide_eq_true (by kernel_rfl)) (by unfold Func.isWrapper; rw [if_neg (by decide +kernel)]; exact ⟨rfl, rfl⟩)
    (fun os started H enc _ => diskKeeps_lifted os started H enc)
end Go.Proofs.Ytlfgjiahnfakdaa
