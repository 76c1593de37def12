/- The pairs of a table between two keys are gathered: the program's Between. Conditions: the grid is known; the blocks that are meant can be read. -/
import Derived.Test.YtgkljncigbiffaaDoorMTableMap19
namespace Go.Proofs.YtgkljncigbiffaaDoor
open Go.RowKit
attribute [local go_sem] Oper.semAt_some
/-- Ahead of each item. -/
structure GBet (w2 : World) (S bf bt : Nat) (q : GPl) (A : Option Addr) (c : Nat) (K : Option Addr) (ck : Nat) (x : List RefT × List (List UInt8)) (l : List PairT) (v : Value) (rows sp : List Value) (W : World) : Prop where
  box : Blk W (S + 2) 41 #[v]
  pairs : PairsU W 0 v l rows sp
  low : ∀ y, v.ownBlock = some y → S ≤ y
  ix : Blk W (S + 3) 128 (indc A c K ck x)
  some_ : Blk W (S + 5) 133 #[.func (.func 62) #[] #[.pointer (some ⟨S + 1, 0, none⟩), .pointer (some ⟨S, 0, none⟩), .pointer (some ⟨bf, 0, none⟩)]]
  gp : Blk W (S + 4) 24 #[.pointer (some ⟨q.gg, 0, none⟩)]
  bel : Below w2.heap.size w2 W
  sz : w2.heap.size = S
  bq : Blk W (S + 1) 50 #[.func (.func 61) #[] #[.pointer (some ⟨bt, 0, none⟩)]]
  bx : Blk W S 128 (indc A c K ck x)
theorem GBet.keeps {w2 : World} {S bf bt : Nat} {q : GPl} {g : Grd} {d : Dsk} {A : Option Addr} {c : Nat} {K : Option Addr} {ck : Nat} {x : List RefT × List (List UInt8)} {l : List PairT} {v : Value} {rows sp : List Value} {W : World} (h : GBet w2 S bf bt q A c K ck x l v rows sp W) (hG : GridR w2 q g d none) (hI : IndexAt w2 A c K ck x) : PKeeps q g d (S + 3) (S + 5) (S + 4) A c K ck x 62 #[.pointer (some ⟨S + 1, 0, none⟩), .pointer (some ⟨S, 0, none⟩), .pointer (some ⟨bf, 0, none⟩)] W :=
  ⟨hG.below h.bel, h.ix, hI.below h.bel, h.some_, h.gp⟩
theorem GBet.keptW {w2 : World} {S bf bt : Nat} {q : GPl} {A : Option Addr} {c : Nat} {K : Option Addr} {ck : Nat} {x : List RefT × List (List UInt8)} {l : List PairT} {v : Value} {rows sp : List Value} {W W' : World} {B : Nat} (h : GBet w2 S bf bt q A c K ck x l v rows sp W) (k : Kept B W W') (hB : S ≤ B) : GBet w2 S bf bt q A c K ck x l v rows sp W' :=
  ⟨h.box.keptW k, h.pairs.keptW k, h.low, h.ix.keptW k, h.some_.keptW k, h.gp.keptW k, (Near.keptW (X := []) ⟨h.bel.os, h.bel.tape, h.bel.output, h.bel.size, fun j hj _ => h.bel.block j hj⟩ k (by rw [h.sz]; exact hB)).toBelow (by simp) (Nat.le_refl _), h.sz, h.bq.keptW k, h.bx.keptW k⟩
set_option maxRecDepth 100000 in
set_option maxHeartbeats 8000000 in
theorem tbetween_ok {w : World} {q : GPl} {g : Grd} {d : Dsk} (h : GridR w q g d none) (hlen : g.W.length ≤ 1099511627776) (r : RefT) (n : Int) (F L : Option Addr) (nf cf nl cl : Nat) (fr to : List UInt8) (A1 A2 : Option Addr) (c1 c2 : Nat) (hfb : Bytes w A1 fr) (htb : Bytes w A2 to) (hfl : fr.length ≤ 5000) (htl : to.length ≤ 5000) (ho : (topen g d none r).1 = 0) (Gr : Nat → List PairT) (hd : ∀ i, (h : i < (topen g d none r).2.1.1.length) → used (topen g d none r).2.1.2 fr to i = true → tdata g d none (topen g d none r).2.1.1[i] = (0, Gr i, g)) (hN : (titems (used (topen g d none r).2.1.2 fr to) Gr (topen g d none r).2.1.1.length).length ≤ 100000) :
    Calls Tryd.prog 13 #[.pointer (some ⟨q.gg, 0, none⟩), .agg (runv r n F L nf cf nl cl), .slice A1 fr.length c1, .slice A2 to.length c2] w fun e w' => ∃ (v : Value) (rows sp : List Value), e = .returned (.tuple #[v, .int .i64 0]) ∧ PairsU w' 0 v ((titems (used (topen g d none r).2.1.2 fr to) Gr (topen g d none r).2.1.1.length).filter (inside fr to)) rows sp ∧ Below w.heap.size w w' := by
  have hb1 := ((((((Below.refl w.heap.size w).alloc (Nat.le_refl _) (.cells (runv r n F L nf cf nl cl) 35)).alloc (by simp) (.cells #[.slice A1 fr.length c1] 22)).alloc (by simp; omega) (.cells #[.slice A2 to.length c2] 22)).alloc (by simp; omega) (.cells #[.slice none 0 0] 41)).alloc (by simp; omega) (.cells #[.int .i64 0] 36))
  have hg3 := (((((Blk.new w 35 (runv r n F L nf cf nl cl)).alloc (.cells #[.slice A1 fr.length c1] 22)).alloc (.cells #[.slice A2 to.length c2] 22)).alloc (.cells #[.slice none 0 0] 41)).alloc (.cells #[.int .i64 0] 36))
  have hgf := ((((Blk.new' (w.alloc (.cells (runv r n F L nf cf nl cl) 35)) 22 #[.slice A1 fr.length c1] (n := w.heap.size + 1) (by simp)).alloc (.cells #[.slice A2 to.length c2] 22)).alloc (.cells #[.slice none 0 0] 41)).alloc (.cells #[.int .i64 0] 36))
  have hgt := (((Blk.new' ((w.alloc (.cells (runv r n F L nf cf nl cl) 35)).alloc (.cells #[.slice A1 fr.length c1] 22)) 22 #[.slice A2 to.length c2] (n := w.heap.size + 2) (by simp)).alloc (.cells #[.slice none 0 0] 41)).alloc (.cells #[.int .i64 0] 36))
  have hg4 := ((Blk.new' (((w.alloc (.cells (runv r n F L nf cf nl cl) 35)).alloc (.cells #[.slice A1 fr.length c1] 22)).alloc (.cells #[.slice A2 to.length c2] 22)) 41 #[.slice none 0 0] (n := w.heap.size + 3) (by simp)).alloc (.cells #[.int .i64 0] 36))
  have hg5 := (Blk.new' ((((w.alloc (.cells (runv r n F L nf cf nl cl) 35)).alloc (.cells #[.slice A1 fr.length c1] 22)).alloc (.cells #[.slice A2 to.length c2] 22)).alloc (.cells #[.slice none 0 0] 41)) 36 #[.int .i64 0] (n := w.heap.size + 4) (by simp))
  have hop := topen_any (h.below hb1) hlen r n F L nf cf nl cl
  have hz0 := topen_zero ho
  have H0 := Lib.hid (And.intro h (And.intro hb1 (And.intro hg4 (And.intro hg5 (And.intro hlen (And.intro hz0 hd))))))
  have HA := Lib.hid (And.intro hgf (And.intro hgt (And.intro (Bytes.below hfb hb1) (And.intro (Bytes.below htb hb1) (And.intro hfl htl)))))
  clear h hb1 hg4 hg5 hlen hd hgf hgt hfb htb hfl htl
  unfold runv at H0 hg3 hop HA ⊢
  refine callsIn_wide (n := 3).1 ?_
  refine callsIn_of_wp_marks Tryd.func13 rfl trivial ?_ rfl
  simp only [Tryd.ntmps13, List.size_toArray, List.length_cons, List.length_nil, Nat.reduceAdd, Nat.reduceSub, Array.replicate_succ, Array.replicate_zero, List.push_toArray, List.append_toArray, List.nil_append, List.cons_append]
  refine wpIn_wide.2 ?_
  go_wp2_with (first
    | ((with_reducible show wpList _ _ _ ((⟨some 19, _, _, _, _, _⟩ : Oper) :: _) _ _); refine wpList_load_blk (o := ⟨some 19, _, _, _, _, _⟩) (hg3) (by rfl) _ _ (by rfl) (by rfl) _ Tryd.underlying35 (by rfl) (sizeRun) (by rfl) ?_)
    | fail)
  refine hop.mono ?_
  rintro e w2 ⟨A, c, K, ck, rfl, hI, hL⟩
  rw [ho]
  have hb2 := hL.2 (by rw [ho]; rfl)
  obtain ⟨x, hx⟩ : ∃ x, x = (topen g d none r).2.1 := ⟨_, rfl⟩
  rw [← hx] at hI
  have hxl : (topen g d none r).2.1 = x := hx.symm
  have hG2 := H0.out.1.below (H0.out.2.1.trans (hb2.mono H0.out.2.1.size))
  have hix := (Blk.new w2 128 #[.slice A x.1.length c, .slice K x.2.length ck])
  have H2 := Lib.hid (And.intro hI (And.intro (H0.out.2.1.trans (hb2.mono H0.out.2.1.size)) (And.intro hG2 (And.intro (H0.out.2.2.1.below hb2 H0.out.2.2.1.lt) (And.intro (H0.out.2.2.2.1.below hb2 H0.out.2.2.2.1.lt) hxl)))))
  have HA2 := Lib.hid (And.intro (HA.out.1.below hb2 HA.out.1.lt) (And.intro (HA.out.2.1.below hb2 HA.out.2.1.lt) (And.intro (Bytes.below HA.out.2.2.1 hb2) (And.intro (Bytes.below HA.out.2.2.2.1 hb2) HA.out.2.2.2.2))))
  rw [← hx]
  unfold indc
  clear hop hg3 hI hL hb2 hG2 hx hxl HA
  have hixq := (((Blk.new w2 128 #[.slice A x.1.length c, .slice K x.2.length ck]).alloc (.cells #[.func (.func 61) #[] #[.pointer (some ⟨w.heap.size + 2, 0, none⟩)]] 50)).alloc (.cells #[.slice none 0 0] 41))
  clear hix
  go_wp2_with (first
    | ((with_reducible show wpList _ _ _ ((⟨some 28, _, _, _, _, _⟩ : Oper) :: _) _ _); refine wpList_load_blk (o := ⟨some 28, _, _, _, _, _⟩) (hixq) (by rfl) _ _ (by rfl) (by rfl) _ Tryd.underlying128 (by rfl) (sizeIx) (by rfl) ?_)
    | fail)
  refine (pairs_any A K x.1.length c x.2.length ck q.gg 62 #[.pointer (some ⟨w2.heap.size + 1, 0, none⟩), .pointer (some ⟨w2.heap.size, 0, none⟩), .pointer (some ⟨w.heap.size + 1, 0, none⟩)] _).mono ?_
  rintro e w6 ⟨rfl, rfl⟩
  have eb : (((w2.alloc (.cells #[.slice A x.1.length c, .slice K x.2.length ck] 128)).alloc (.cells #[.func (.func 61) #[] #[.pointer (some ⟨w.heap.size + 2, 0, none⟩)]] 50)).alloc (.cells #[.slice none 0 0] 41)).heap.size = w2.heap.size + 3 := by simp
  have h6b : Below w2.heap.size w2 ((((((w2.alloc (.cells #[.slice A x.1.length c, .slice K x.2.length ck] 128)).alloc (.cells #[.func (.func 61) #[] #[.pointer (some ⟨w.heap.size + 2, 0, none⟩)]] 50)).alloc (.cells #[.slice none 0 0] 41)).alloc (.cells #[.slice A x.1.length c, .slice K x.2.length ck] 128)).alloc (.cells #[.pointer (some ⟨q.gg, 0, none⟩)] 24)).alloc (.cells #[.func (.func 62) #[] #[.pointer (some ⟨w2.heap.size + 1, 0, none⟩), .pointer (some ⟨w2.heap.size, 0, none⟩), .pointer (some ⟨w.heap.size + 1, 0, none⟩)]] 133)) := (((((((Below.refl w2.heap.size w2).alloc (Nat.le_refl _) (.cells #[.slice A x.1.length c, .slice K x.2.length ck] 128)).alloc (by simp) (.cells #[.func (.func 61) #[] #[.pointer (some ⟨w.heap.size + 2, 0, none⟩)]] 50)).alloc (by simp; omega) (.cells #[.slice none 0 0] 41)).alloc (by simp; omega) (.cells #[.slice A x.1.length c, .slice K x.2.length ck] 128)).alloc (by simp; omega) (.cells #[.pointer (some ⟨q.gg, 0, none⟩)] 24)).alloc (by simp; omega) (.cells #[.func (.func 62) #[] #[.pointer (some ⟨w2.heap.size + 1, 0, none⟩), .pointer (some ⟨w2.heap.size, 0, none⟩), .pointer (some ⟨w.heap.size + 1, 0, none⟩)]] 133))
  have hS : GBet w2 w2.heap.size (w.heap.size + 1) (w.heap.size + 2) q A c K ck x [] (.slice none 0 0) [] [] ((((((w2.alloc (.cells #[.slice A x.1.length c, .slice K x.2.length ck] 128)).alloc (.cells #[.func (.func 61) #[] #[.pointer (some ⟨w.heap.size + 2, 0, none⟩)]] 50)).alloc (.cells #[.slice none 0 0] 41)).alloc (.cells #[.slice A x.1.length c, .slice K x.2.length ck] 128)).alloc (.cells #[.pointer (some ⟨q.gg, 0, none⟩)] 24)).alloc (.cells #[.func (.func 62) #[] #[.pointer (some ⟨w2.heap.size + 1, 0, none⟩), .pointer (some ⟨w2.heap.size, 0, none⟩), .pointer (some ⟨w.heap.size + 1, 0, none⟩)]] 133)) :=
    ⟨((((Blk.new' ((w2.alloc (.cells #[.slice A x.1.length c, .slice K x.2.length ck] 128)).alloc (.cells #[.func (.func 61) #[] #[.pointer (some ⟨w.heap.size + 2, 0, none⟩)]] 50)) 41 #[.slice none 0 0] (n := w2.heap.size + 2) (by simp)).alloc (.cells #[.slice A x.1.length c, .slice K x.2.length ck] 128)).alloc (.cells #[.pointer (some ⟨q.gg, 0, none⟩)] 24)).alloc (.cells #[.func (.func 62) #[] #[.pointer (some ⟨w2.heap.size + 1, 0, none⟩), .pointer (some ⟨w2.heap.size, 0, none⟩), .pointer (some ⟨w.heap.size + 1, 0, none⟩)]] 133)), PairsU.nil _ _, fun y hy => (by cases hy), (((Blk.new' (((w2.alloc (.cells #[.slice A x.1.length c, .slice K x.2.length ck] 128)).alloc (.cells #[.func (.func 61) #[] #[.pointer (some ⟨w.heap.size + 2, 0, none⟩)]] 50)).alloc (.cells #[.slice none 0 0] 41)) 128 #[.slice A x.1.length c, .slice K x.2.length ck] (n := w2.heap.size + 3) (by simp)).alloc (.cells #[.pointer (some ⟨q.gg, 0, none⟩)] 24)).alloc (.cells #[.func (.func 62) #[] #[.pointer (some ⟨w2.heap.size + 1, 0, none⟩), .pointer (some ⟨w2.heap.size, 0, none⟩), .pointer (some ⟨w.heap.size + 1, 0, none⟩)]] 133)), (Blk.new' (((((w2.alloc (.cells #[.slice A x.1.length c, .slice K x.2.length ck] 128)).alloc (.cells #[.func (.func 61) #[] #[.pointer (some ⟨w.heap.size + 2, 0, none⟩)]] 50)).alloc (.cells #[.slice none 0 0] 41)).alloc (.cells #[.slice A x.1.length c, .slice K x.2.length ck] 128)).alloc (.cells #[.pointer (some ⟨q.gg, 0, none⟩)] 24)) 133 #[.func (.func 62) #[] #[.pointer (some ⟨w2.heap.size + 1, 0, none⟩), .pointer (some ⟨w2.heap.size, 0, none⟩), .pointer (some ⟨w.heap.size + 1, 0, none⟩)]] (n := w2.heap.size + 5) (by simp)), ((Blk.new' ((((w2.alloc (.cells #[.slice A x.1.length c, .slice K x.2.length ck] 128)).alloc (.cells #[.func (.func 61) #[] #[.pointer (some ⟨w.heap.size + 2, 0, none⟩)]] 50)).alloc (.cells #[.slice none 0 0] 41)).alloc (.cells #[.slice A x.1.length c, .slice K x.2.length ck] 128)) 24 #[.pointer (some ⟨q.gg, 0, none⟩)] (n := w2.heap.size + 4) (by simp)).alloc (.cells #[.func (.func 62) #[] #[.pointer (some ⟨w2.heap.size + 1, 0, none⟩), .pointer (some ⟨w2.heap.size, 0, none⟩), .pointer (some ⟨w.heap.size + 1, 0, none⟩)]] 133)), h6b, rfl, (((((Blk.new' (w2.alloc (.cells #[.slice A x.1.length c, .slice K x.2.length ck] 128)) 50 #[.func (.func 61) #[] #[.pointer (some ⟨w.heap.size + 2, 0, none⟩)]] (n := w2.heap.size + 1) (by simp)).alloc (.cells #[.slice none 0 0] 41)).alloc (.cells #[.slice A x.1.length c, .slice K x.2.length ck] 128)).alloc (.cells #[.pointer (some ⟨q.gg, 0, none⟩)] 24)).alloc (.cells #[.func (.func 62) #[] #[.pointer (some ⟨w2.heap.size + 1, 0, none⟩), .pointer (some ⟨w2.heap.size, 0, none⟩), .pointer (some ⟨w.heap.size + 1, 0, none⟩)]] 133)), ((((((Blk.new w2 128 #[.slice A x.1.length c, .slice K x.2.length ck]).alloc (.cells #[.func (.func 61) #[] #[.pointer (some ⟨w.heap.size + 2, 0, none⟩)]] 50)).alloc (.cells #[.slice none 0 0] 41)).alloc (.cells #[.slice A x.1.length c, .slice K x.2.length ck] 128)).alloc (.cells #[.pointer (some ⟨q.gg, 0, none⟩)] 24)).alloc (.cells #[.func (.func 62) #[] #[.pointer (some ⟨w2.heap.size + 1, 0, none⟩), .pointer (some ⟨w2.heap.size, 0, none⟩), .pointer (some ⟨w.heap.size + 1, 0, none⟩)]] 133))⟩
  have hz6 : ((((((w2.alloc (.cells #[.slice A x.1.length c, .slice K x.2.length ck] 128)).alloc (.cells #[.func (.func 61) #[] #[.pointer (some ⟨w.heap.size + 2, 0, none⟩)]] 50)).alloc (.cells #[.slice none 0 0] 41)).alloc (.cells #[.slice A x.1.length c, .slice K x.2.length ck] 128)).alloc (.cells #[.pointer (some ⟨q.gg, 0, none⟩)] 24)).alloc (.cells #[.func (.func 62) #[] #[.pointer (some ⟨w2.heap.size + 1, 0, none⟩), .pointer (some ⟨w2.heap.size, 0, none⟩), .pointer (some ⟨w.heap.size + 1, 0, none⟩)]] 133)).heap.size = w2.heap.size + 6 := by simp
  rw [eb]
  simp only [show w2.heap.size + 3 + 2 = w2.heap.size + 5 from rfl, show w2.heap.size + 3 + 1 = w2.heap.size + 4 from rfl]
  have hql : q.p.gm < w2.heap.size ∧ q.gi < w2.heap.size := ⟨H2.out.2.2.1.lt _ (GPl.mem.2 (.inr (.inr (.inr (.inr (by simp [Pl.all])))))), H2.out.2.2.1.lt _ (GPl.mem.2 (.inr (.inr (.inl rfl))))⟩
  generalize ((((((w2.alloc (.cells #[.slice A x.1.length c, .slice K x.2.length ck] 128)).alloc (.cells #[.func (.func 61) #[] #[.pointer (some ⟨w.heap.size + 2, 0, none⟩)]] 50)).alloc (.cells #[.slice none 0 0] 41)).alloc (.cells #[.slice A x.1.length c, .slice K x.2.length ck] 128)).alloc (.cells #[.pointer (some ⟨q.gg, 0, none⟩)] 24)).alloc (.cells #[.func (.func 62) #[] #[.pointer (some ⟨w2.heap.size + 1, 0, none⟩), .pointer (some ⟨w2.heap.size, 0, none⟩), .pointer (some ⟨w.heap.size + 1, 0, none⟩)]] 133)) = w6 at hS hz6 ⊢
  have hws : w.heap.size + 5 ≤ w2.heap.size := by have := H2.out.2.2.2.2.1.lt; omega
  generalize w2.heap.size = S at hS hz6 hql hws ⊢
  have HWS := Lib.hid hws
  have H6 := Lib.hid (And.intro hS (And.intro hz6 hql))
  clear hS hz6 eb h6b hixq hql hws
  go_wp2_with fail
  have HX := Lib.hid (show titems (used (topen g d none r).2.1.2 fr to) Gr (topen g d none r).2.1.1.length = titems (used x.2 fr to) Gr x.1.length by rw [H2.out.2.2.2.2.2])
  refine wpIn_wide (n := 3).1 ?_
  refine wpIn_rangeRowV rfl (by omega) (gf := 107) (lb := #[.pointer (some ⟨S + 3, 0, none⟩), .pointer (some ⟨S + 5, 0, none⟩), .pointer (some ⟨S + 4, 0, none⟩)]) rfl trivial (enters_of Tryd.func107 (by kernel_rfl) rfl)
    (PIt (titems (used x.2 fr to) Gr x.1.length)) (fun k W vals hE => by obtain ⟨p, kv, vv, -, rfl, -⟩ := hE; rfl) (titems (used x.2 fr to) Gr x.1.length).length (fun k X W => ∃ v rows sp, GBet w2 S (w.heap.size + 1) (w.heap.size + 2) q A c K ck x (((titems (used x.2 fr to) Gr x.1.length).take k).filter (inside fr to)) v rows sp W ∧ X = v.ownBlock.toList) (fun _ _ => False)
    (fun k X W h => ?hIX) (fun k X W W' h kw => ?hI) (fun _ _ _ h _ => h) ⟨.slice none 0 0, [], [], H6.out.1, rfl⟩ ?row ?round ?done (fun _ _ _ _ h => h.elim)
  case hIX =>
    obtain ⟨v, rows, sp, h1, rfl⟩ := h
    exact fun y hy => (OwnsC.lt h1.pairs.own y (Option.mem_toList.1 hy)).2
  case hI =>
    obtain ⟨v, rows, sp, h1, h2⟩ := h
    exact ⟨v, rows, sp, h1.keptW kw (by rw [H6.out.2.1]; omega), h2⟩
  case row =>
    have hxl := H2.out.2.2.2.2.2
    have hz := H0.out.2.2.2.2.2.1
    rw [hxl] at hz
    refine pairs_row 2 (by omega) (q := q) (d := d) (A := A) (c := c) (K := K) (ck := ck) (sb := #[.pointer (some ⟨S + 1, 0, none⟩), .pointer (some ⟨S, 0, none⟩), .pointer (some ⟨w.heap.size + 1, 0, none⟩)]) H0.out.2.2.2.2.1 (by omega) (enters_of Tryd.func62 (by kernel_rfl) rfl) (used x.2 fr to) Gr (fun W => Below w2.heap.size w2 W ∧ Blk W (S + 1) 50 #[.func (.func 61) #[] #[.pointer (some ⟨w.heap.size + 2, 0, none⟩)]] ∧ Blk W S 128 (indc A c K ck x)) (fun i W hi hPK hE => ?_) (fun i h hu => ?_) _ (fun k X W h => ?_)
    · have hsz := H6.out.1.sz
      exact bets_any i (w.heap.size + 2) S (w.heap.size + 1) (S + 1) A K A1 A2 x.1.length c ck c1 c2 x.2 fr to W (by omega) (by omega) hE.2.1 hE.2.2 (HA2.out.1.below hE.1 HA2.out.1.lt) (HA2.out.2.1.below hE.1 HA2.out.2.1.lt) (Bytes.below HA2.out.2.2.1 hE.1) (Bytes.below HA2.out.2.2.2.1 hE.1) HA2.out.2.2.2.2.2 hPK.at_.keys
    · have := H0.out.2.2.2.2.2.2 i (by rw [hxl]; exact h) (by rw [hxl]; exact hu)
      simpa only [hxl] using this
    · obtain ⟨v, rows, sp, h1, -⟩ := h
      exact ⟨h1.keeps H2.out.2.2.1 H2.out.1, h1.bel, h1.bq, h1.bx⟩
  case round =>
    intro l k X W vals hl1 hl2 hI hk hE
    obtain ⟨v, rows, sp, h1, rfl⟩ := hI
    obtain ⟨p, kv, vv, hit, rfl, hPO⟩ := hE
    obtain ⟨A6, c6, B6, e6, rfl, rfl, -⟩ := hPO.at_
    have hz := zeroPairrun
    have HI := Lib.hid (And.intro h1 (And.intro hit hPO))
    clear h1 hit hPO hk
    have hkN : k ≤ 100000 := by have := (List.getElem?_eq_some_iff.1 HI.out.2.1).1; rw [HX.out] at hN; omega
    have hb0 := (Below.refl W.heap.size W).alloc (Nat.le_refl _) (.cells #[.slice A6 p.1.length c6, .slice B6 p.2.1.length e6, .bool p.2.2.1] 40)
    have hg0 := Blk.new W 40 #[.slice A6 p.1.length c6, .slice B6 p.2.1.length e6, .bool p.2.2.1]
    have hB6 : S ≤ w6.heap.size := by have := H6.out.2.1; omega
    have hI0 := HI.out.1.keptW (B := w6.heap.size) (Kept.below hb0) hB6
    have hP0 := HI.out.2.2.below hb0
    have H0' := Lib.hid (And.intro hb0 (And.intro hg0 (And.intro hI0 (And.intro hP0 hB6))))
    have HIT := Lib.hid HI.out.2.1
    have HSZ := Lib.hid (show S + 6 ≤ W.heap.size by have := H6.out.2.1; omega)
    clear hb0 hg0 hI0 hP0 hB6 HI
    gi_wp2_with fail
    refine ⟨H0'.out.1, fun W2 hW2 => ?_⟩
    have hI2 := H0'.out.2.2.1.keptW hW2 H0'.out.2.2.2.2
    have hg2 := H0'.out.2.1.keptW hW2
    have hP2 := H0'.out.2.2.2.1.keptW hW2
    have hsW := hW2.size
    clear hW2
    obtain ⟨gx, hgx⟩ : ∃ gx, gx = W.heap.size := ⟨_, rfl⟩
    rw [← hgx] at hg2 HSZ ⊢
    have hgxs : gx < W2.heap.size := hg2.lt
    -- is it behind the first key?
    have hsz := H6.out.1.sz
    have hbf := HA2.out.1.below hI2.bel HA2.out.1.lt
    have hbt := HA2.out.2.1.below hI2.bel HA2.out.2.1.lt
    have hfb := Bytes.below HA2.out.2.2.1 hI2.bel
    have htb := Bytes.below HA2.out.2.2.2.1 hI2.bel
    obtain ⟨sk0, sv0, ok0, ov0⟩ := hP2
    obtain ⟨A7, c7, e7, -, -, hkb⟩ := OwnB.open_ ok0
    injection e7 with e71 e72 e73
    subst e71 e73
    have d1 := hg2.at_ 0 (v := .slice A6 p.1.length c6) rfl
    have d2 := hbf.at_ 0 (v := .slice A1 fr.length c1) rfl
    have d3 := hI2.bq.at_ 0 (v := .func (.func 61) #[] #[.pointer (some ⟨w.heap.size + 2, 0, none⟩)]) rfl
    have HC := Lib.hid (And.intro (compare_any A6 A1 p.1.length fr.length c6 c1 p.1 fr rfl rfl W2 hkb hfb) (betf_any (w.heap.size + 2) A6 A2 c6 c2 p.1 to W2 hbt hkb htb HA2.out.2.2.2.2.2))
    have H1 := Lib.hid (And.intro hI2 (And.intro (show PairO W2 0 (.slice A6 p.1.length c6) (.slice B6 p.2.1.length e6) p from ⟨sk0, sv0, ok0, ov0⟩) hg2))
    have hins : inside fr to p = (!decide (p.1 < fr) && pbelow to p.1) := rfl
    have hstep : ((titems (used x.2 fr to) Gr x.1.length).take (k + 1)).filter (inside fr to) = ((titems (used x.2 fr to) Gr x.1.length).take k).filter (inside fr to) ++ (if inside fr to p = true then [p] else []) := by
      obtain ⟨hk1, hk2⟩ := List.getElem?_eq_some_iff.1 HIT.out
      rw [List.take_succ_eq_append_getElem hk1, hk2, List.filter_append]
      congr 1
      by_cases hbi : inside fr to p = true
      · rw [if_pos hbi]; simp [hbi]
      · rw [if_neg hbi]; simp [hbi]
    have HST := Lib.hid (And.intro hins hstep)
    have hleave : ∀ W9, Below W2.heap.size W2 W9 → inside fr to p = false → Young w6.heap.size v.ownBlock.toList W2 W9 ∧ ∃ X', (∃ v' rows' sp', GBet w2 S (w.heap.size + 1) (w.heap.size + 2) q A c K ck x (((titems (used x.2 fr to) Gr x.1.length).take (k + 1)).filter (inside fr to)) v' rows' sp' W9 ∧ X' = v'.ownBlock.toList) ∧ Grown v.ownBlock.toList X' W2 := fun W9 hb9 hf => by
      refine ⟨Young.below hb9, _, ⟨v, rows, sp, ?_, rfl⟩, Grown.refl _ _⟩
      rw [HST.out.2, hf, if_neg (by simp), List.append_nil]
      exact H1.out.1.keptW (B := S) (Kept.below hb9) (Nat.le_refl _)
    have HL := Lib.hid hleave
    clear hI2 hg2 hbf hbt hfb htb ok0 ov0 hkb hins hstep hleave hgx hsW
    gi_wp2_with fail
    refine ⟨trivial, ?_⟩
    refine (calls_round HC.out.1).mono ?_
    rintro e W3 ⟨rfl, hw3⟩
    subst hw3
    cases hb : decide (p.1 < fr)
    case true =>
      have kb : decide (Lib.compareBytes p.1 fr ≥ 0) = false := by rw [cmp_ge0, hb]; rfl
      have HF := Lib.hid (HL.out W3 (Below.refl _ _) (by rw [HST.out.1, hb]; rfl))
      clear d1 d2 d3 hb
      gi_wp2_with fail
      refine ⟨by simp, ?_⟩
      gi_wp2_with fail
      exact HF.out
    have kb : decide (Lib.compareBytes p.1 fr ≥ 0) = true := by rw [cmp_ge0, hb]; rfl
    gi_wp2_with fail
    refine ⟨trivial, ?_⟩
    refine (calls_round HC.out.2).mono ?_
    rintro e W4 ⟨rfl, hb4⟩
    cases hq : pbelow to p.1
    case false =>
      have HF := Lib.hid (HL.out W4 hb4 (by rw [HST.out.1, hq]; simp))
      clear d1 d2 d3 hb hb4 hq kb
      gi_wp2_with fail
      exact HF.out
    have hI4 := H1.out.1.keptW (B := S) (Kept.below hb4) (Nat.le_refl _)
    have hP4 := H1.out.2.1.below hb4
    have hg2 := H1.out.2.2.below hb4 H1.out.2.2.lt
    have HY4 := Lib.hid (And.intro (Young.below hb4 : Young w6.heap.size v.ownBlock.toList W3 W4) hb4.size)
    have HIN := Lib.hid (show inside fr to p = true by rw [HST.out.1, hb, hq]; rfl)
    obtain ⟨A5, c5, rfl, -, -, -, -⟩ := OwnsC.reads hI4.pairs.own
    obtain ⟨nk, hnk⟩ : ∃ nk, nk = (((titems (used x.2 fr to) Gr x.1.length).take k).filter (inside fr to)).length := ⟨_, rfl⟩
    have hnk9 : nk ≤ 100000 := by rw [hnk]; exact Nat.le_trans (List.length_filter_le _ _) (by rw [List.length_take]; omega)
    have hbl := (Below.refl W4.heap.size W4).alloc (Nat.le_refl _) (.cells #[.slice A6 p.1.length c6, .slice B6 p.2.1.length e6, .bool p.2.2.1] 40)
    have hra : Reads (W4.alloc (.cells #[.slice A6 p.1.length c6, .slice B6 p.2.1.length e6, .bool p.2.2.1] 40)) (some ⟨W4.heap.size, 0, none⟩) [.slice A6 p.1.length c6, .slice B6 p.2.1.length e6, .bool p.2.2.1] := reads_new W4 40 [.slice A6 p.1.length c6, .slice B6 p.2.1.length e6, .bool p.2.2.1]
    have hoa := OwnsC.ownBelow hI4.pairs.own hbl
    rw [← hnk] at hoa
    have d8 := hI4.box.at_ 0 (v := .slice A5 (((titems (used x.2 fr to) Gr x.1.length).take k).filter (inside fr to)).length c5) rfl
    rw [← hnk] at d8
    have g1 := hg2.at_ 0 (v := .slice A6 p.1.length c6) rfl
    have g2 := hg2.at_ 1 (v := .slice B6 p.2.1.length e6) rfl
    have g3 := hg2.at_ 2 (v := .bool p.2.2.1) rfl
    have H3 := Lib.hid (And.intro hI4 (And.intro hP4 (And.intro hbl (And.intro hra (And.intro hoa hnk)))))
    clear hI4 hP4 hbl hra hoa hnk d1 d2 d3 hb hb4 hq kb hgxs
    gi_wp2_with (first
      | ((with_reducible show wpListIn _ _ _ _ _ ((⟨some 51, _, _, _, _, _⟩ : Oper) :: _) _ _); refine wpListIn_round (by rfl) ?_; refine wpList_append_vals (o := ⟨some 51, _, _, _, _, _⟩) (by rfl) _ _ _ (by rfl) 0 40 (.agg #[.slice none 0 0, .slice none 0 0, .bool false]) 3 56 Tryd.underlying41 infoPair (by rfl) (by omega) (.slice A5 nk c5) nk rows sp (by rfl) H3.out.2.2.2.2.1 (some ⟨W4.heap.size, 0, none⟩) 1 1 [.slice A6 p.1.length c6, .slice B6 p.2.1.length e6, .bool p.2.2.1] (by rfl) (by rfl) H3.out.2.2.2.1 (by simp [Value.oneCell']) (by simp only [maxLen]; omega) (by omega) (Nat.zero_le _) ?_; intro v4 W8 sp4 ho4 hg4 hv4 hn4; refine stopped ?_)
      | fail)
    refine Stopped.mk ?_
    have hW3 := H3.out.1.bel.trans (H3.out.2.2.1.mono H3.out.1.bel.size)
    have hn8 : Near (Value.slice A5 nk c5).ownBlock.toList (W4.alloc (.cells #[.slice A6 p.1.length c6, .slice B6 p.2.1.length e6, .bool p.2.2.1] 40)) W8 := Near.grown hg4 (fun y hy => Option.mem_toList.2 hy)
    have hSS := H3.out.1.sz
    have hlw := H3.out.1.low
    rw [← H3.out.2.2.2.2.2] at hlw
    have hb8 : Below w2.heap.size w2 W8 := hW3.trans (hn8.toBelow (fun y hy => by rw [hSS]; exact hlw y (Option.mem_toList.1 hy)) hW3.size)
    have hpl := H3.out.1.pairs.below H3.out.2.2.1
    have hown := hpl.own
    rw [← H3.out.2.2.2.2.2] at hown
    have hoff : ∀ y t cs, t ≠ 40 → Blk (W4.alloc (.cells #[.slice A6 p.1.length c6, .slice B6 p.2.1.length e6, .bool p.2.2.1] 40)) y t cs → y ∉ (Value.slice A5 nk c5).ownBlock.toList := fun y t cs ht hb hm => by
      obtain ⟨cs', hb'⟩ := ownBlk hown (Option.mem_toList.1 hm)
      exact hb.apart hb' ht rfl
    obtain ⟨sk, sv, ok1, ov1⟩ := H3.out.2.1.below H3.out.2.2.1
    have hadd := hpl.add ok1 ov1 (by rw [← H3.out.2.2.2.2.2]; exact hn8) (by rw [← H3.out.2.2.2.2.2]; exact ho4)
    have hbx := (H3.out.1.box.below H3.out.2.2.1 H3.out.1.box.lt).near hn8 (hoff _ _ _ (by decide) (H3.out.1.box.below H3.out.2.2.1 H3.out.1.box.lt))
    have hxi := (H3.out.1.ix.below H3.out.2.2.1 H3.out.1.ix.lt).near hn8 (hoff _ _ _ (by decide) (H3.out.1.ix.below H3.out.2.2.1 H3.out.1.ix.lt))
    have hxs := (H3.out.1.some_.below H3.out.2.2.1 H3.out.1.some_.lt).near hn8 (hoff _ _ _ (by decide) (H3.out.1.some_.below H3.out.2.2.1 H3.out.1.some_.lt))
    have hxg := (H3.out.1.gp.below H3.out.2.2.1 H3.out.1.gp.lt).near hn8 (hoff _ _ _ (by decide) (H3.out.1.gp.below H3.out.2.2.1 H3.out.1.gp.lt))
    have hxq := (H3.out.1.bq.below H3.out.2.2.1 H3.out.1.bq.lt).near hn8 (hoff _ _ _ (by decide) (H3.out.1.bq.below H3.out.2.2.1 H3.out.1.bq.lt))
    have hxx := (H3.out.1.bx.below H3.out.2.2.1 H3.out.1.bx.lt).near hn8 (hoff _ _ _ (by decide) (H3.out.1.bx.below H3.out.2.2.1 H3.out.1.bx.lt))
    have hlow4 : ∀ y, v4.ownBlock = some y → S ≤ y ∧ (y ∈ (Value.slice A5 nk c5).ownBlock.toList ∨ W4.heap.size ≤ y) := fun y hy => by
      rcases hv4 with e | e
      · rw [e] at hy; exact ⟨hlw y hy, .inl (Option.mem_toList.2 hy)⟩
      · rw [e] at hy; injection hy with hy
        have h1 := H3.out.2.2.1.size
        have h2 := H3.out.1.bel.size
        exact ⟨by omega, .inr (by omega)⟩
    obtain ⟨B4, c4, rfl, -, -, -, -⟩ := OwnsC.reads ho4
    have d9 := hbx.at_ 0 (v := .slice A5 (((titems (used x.2 fr to) Gr x.1.length).take k).filter (inside fr to)).length c5) rfl
    have f9 := hbx.frozen 0
    have u9 : Upd (S + 2) W8 (W8.setCell ⟨S + 2, 0, none⟩ (.slice B4 (nk + 1) c4)) := (Upd.refl _ _).set 0 _
    have hadd9 := hadd.near (Near.upd u9 (X := [S + 2]) (by simp)) (fun y hy hm => by
      obtain ⟨cs, hb⟩ := ownBlk hadd.own hy
      exact hb.apart hbx (by decide) (List.mem_singleton.1 hm)) (fun y cs hb hm => hb.apart hbx (by decide) (List.mem_singleton.1 hm))
    rw [show ((titems (used x.2 fr to) Gr x.1.length).take k).filter (inside fr to) ++ [p] = ((titems (used x.2 fr to) Gr x.1.length).take (k + 1)).filter (inside fr to) by rw [HST.out.2, if_pos HIN.out]] at hadd9
    have hG9 : GBet w2 S (w.heap.size + 1) (w.heap.size + 2) q A c K ck x (((titems (used x.2 fr to) Gr x.1.length).take (k + 1)).filter (inside fr to)) (.slice B4 (nk + 1) c4) (rows ++ [.slice A6 p.1.length c6, .slice B6 p.2.1.length e6, .bool p.2.2.1]) sp4 (W8.setCell ⟨S + 2, 0, none⟩ (.slice B4 (nk + 1) c4)) :=
      ⟨hbx.set_ 0 _, hadd9, fun y hy => (hlow4 y hy).1, hxi.upd u9 (by omega), hxs.upd u9 (by omega), hxg.upd u9 (by omega), hb8.setCell (by rw [hSS]; simp) _, hSS, hxq.upd u9 (by omega), hxx.upd u9 (by omega)⟩
    have hY9 : Young w6.heap.size (Value.slice A5 nk c5).ownBlock.toList W4 (W8.setCell ⟨S + 2, 0, none⟩ (.slice B4 (nk + 1) c4)) := ((Young.below H3.out.2.2.1).trans (Young.near hn8 (fun y hy => .inr hy))).trans (Young.near (Near.upd u9 (X := [S + 2]) (by simp)) (fun y hy => .inl (by rw [List.mem_singleton.1 hy, H6.out.2.1]; omega)))
    have hY0 := HY4.out.1
    rw [← H3.out.2.2.2.2.2] at hY0
    have H9 := Lib.hid (And.intro hG9 (And.intro (hY0.trans hY9) hlow4))
    clear ho4 hg4 hv4 hn4 hW3 hn8 hlw hb8 hpl hown hoff ok1 ov1 hadd hbx hxi hxs hxg hxq hxx hlow4 u9 hadd9 hG9 hY9 hY0 d8 g1 g2 g3 hg2
    refine ⟨rfl, ?_⟩
    gi_wp2_with fail
    obtain rfl := H3.out.2.2.2.2.2
    exact ⟨H9.out.2.1, _, ⟨_, _, _, H9.out.1, rfl⟩, fun y hy => (H9.out.2.2 y (Option.mem_toList.1 hy)).2.imp id fun h => Nat.le_trans HY4.out.2 h⟩
  case done =>
    intro D X W hD hI hK
    obtain ⟨v, rows, sp, h1, rfl⟩ := hI
    rw [List.take_length] at h1
    obtain ⟨lf, hlf⟩ : ∃ lf, lf = (titems (used x.2 fr to) Gr x.1.length).filter (inside fr to) := ⟨_, rfl⟩
    rw [← hlf] at h1
    obtain ⟨A5, c5, rfl, -, -, -, -⟩ := OwnsC.reads h1.pairs.own
    have d8 := h1.box.at_ 0 (v := .slice A5 lf.length c5) rfl
    have hr4 := H2.out.2.2.2.1.below h1.bel H2.out.2.2.2.1.lt
    have hr5 := H2.out.2.2.2.2.1.below h1.bel H2.out.2.2.2.2.1.lt
    have d4 := hr4.at_ 0 (v := .slice none 0 0) rfl
    have d5 := hr5.at_ 0 (v := .int .i64 0) rfl
    have f4 := hr4.frozen 0
    have f5 := hr5.frozen 0
    have HY := Lib.hid (And.intro h1 (And.intro hK hlf))
    have HR := Lib.hid (And.intro hr4 (And.intro hr5 (H2.out.2.1.trans (h1.bel.mono H2.out.2.1.size))))
    clear h1 hK hr4 hr5 hlf
    go_wp2_with fail
    have hDl : S ≤ D := by have := H6.out.2.1; omega
    have hws := HWS.out
    have u1 : Upd (w.heap.size + 3) W (W.setCell ⟨w.heap.size + 3, 0, none⟩ (.slice A5 lf.length c5)) := (Upd.refl _ _).set 0 _
    have hr4 := HR.out.1.set_ 0 (.slice A5 lf.length c5)
    have hr5 := HR.out.2.1.upd u1 (by omega)
    have hp1 := HY.out.1.pairs.near (Near.upd u1 (X := [w.heap.size + 3]) (by simp)) (fun y hy hm => by
      obtain ⟨cs, hb⟩ := ownBlk HY.out.1.pairs.own hy
      exact hb.apart HR.out.1 (by decide) (List.mem_singleton.1 hm)) (fun y cs hb hm => hb.apart HR.out.1 (by decide) (List.mem_singleton.1 hm))
    have hk1 := (u1.block D (by omega)).trans HY.out.2.1
    have hb1 := HR.out.2.2.setCell (p := ⟨w.heap.size + 3, 0, none⟩) (by simp) (.slice A5 lf.length c5)
    have H9 := Lib.hid (And.intro hr4 (And.intro hr5 (And.intro hp1 (And.intro hk1 hb1))))
    clear u1 hr4 hr5 hp1 hk1 hb1 d8 d4 d5 f4 f5
    generalize W.setCell ⟨w.heap.size + 3, 0, none⟩ (.slice A5 lf.length c5) = W9 at H9 ⊢
    have u2 : Upd (w.heap.size + 4) W9 (W9.setCell ⟨w.heap.size + 4, 0, none⟩ (.int .i64 0)) := (Upd.refl _ _).set 0 _
    have hr4 := H9.out.1.upd u2 (by omega)
    have hr5 := H9.out.2.1.set_ 0 (.int .i64 0)
    have hp2 := H9.out.2.2.1.near (Near.upd u2 (X := [w.heap.size + 4]) (by simp)) (fun y hy hm => by
      obtain ⟨cs, hb⟩ := ownBlk H9.out.2.2.1.own hy
      exact hb.apart H9.out.2.1 (by decide) (List.mem_singleton.1 hm)) (fun y cs hb hm => hb.apart H9.out.2.1 (by decide) (List.mem_singleton.1 hm))
    have hk2 := (u2.block D (by omega)).trans H9.out.2.2.2.1
    have hb2 := H9.out.2.2.2.2.setCell (p := ⟨w.heap.size + 4, 0, none⟩) (by simp) (.int .i64 0)
    refine ⟨by simp, .inl ⟨_, _, rfl, run_takeDeferred hk2, ?_⟩⟩
    have k1 := mark_kept (B := S) hDl hk2
    refine ⟨_, results_cells2 (by rfl) _ _ (w.heap.size + 3) (w.heap.size + 4) _ _ _ _ (by rfl) ((hr4.keptW k1).at_ 0 rfl) Tryd.underlying41 rfl (by rfl) ((hr5.keptW k1).at_ 0 rfl) Tryd.underlying36 rfl, ?_⟩
    refine ⟨_, rows, sp, rfl, ?_, ?_⟩
    · rw [HX.out, ← HY.out.2.2]
      exact hp2.keptW k1
    · exact (Near.keptW (X := []) ⟨hb2.os, hb2.tape, hb2.output, hb2.size, fun j hj _ => hb2.block j hj⟩ k1 (by omega)).toBelow (by simp) (Nat.le_refl _)
end Go.Proofs.YtgkljncigbiffaaDoor


/- A table that cannot be written: the program's Build answers an error. Conditions: the grid is known; the pairs can be read. -/
namespace Go.Proofs.YtgkljncigbiffaaDoor
open Go.RowKit
theorem bu_lt2 {a b : Nat} (h : a < b) : decide ((a : Int) < (b : Int)) = true := decide_eq_true (by omega)
set_option maxRecDepth 100000 in
set_option maxHeartbeats 4000000 in
theorem tbuild_bad {w : World} {q : GPl} {g : Grd} {d : Dsk} {f : Option Fus} (h : GridR w q g d f) (A : Option Addr) (c : Nat) (l : List PairT) (hl : l.length ≤ 65536) (hP : Pairs w A l) (s : Int) (hc : (ppack l).1 = 2) :
    Calls Tryd.prog 10 #[.pointer (some ⟨q.gg, 0, none⟩), .slice A l.length c, .int .i64 s] w fun e w' => e = .returned (.tuple #[.agg #[.int .i64 0, .int .i64 0, .int .i64 0, .slice none 0 0, .slice none 0 0], .int .i64 2]) ∧ Below w.heap.size w w' := by
  have hz := zeroRunrun
  have hb1 := (Below.refl w.heap.size w).alloc (Nat.le_refl _) (.cells #[.int .i64 0, .int .i64 0, .int .i64 0, .slice none 0 0, .slice none 0 0] 35)
  have hg6 := Blk.new w 35 #[.int .i64 0, .int .i64 0, .int .i64 0, .slice none 0 0, .slice none 0 0]
  have hno := tnone_any (h.below hb1)
  have H0 := Lib.hid (And.intro hb1 hg6)
  have HP := Lib.hid (And.intro hP (And.intro hl hc))
  obtain ⟨n, hn⟩ : ∃ n, n = l.length := ⟨_, rfl⟩
  have HN := Lib.hid hn
  rw [← hn]
  clear h hb1 hg6 hP hl hc hn
  go_enter Tryd.func10, Tryd.ntmps10
  go_wp2_with fail
  refine hno.mono ?_
  rintro e w1 ⟨rfl, hb1⟩
  have hbw1 := H0.out.1.trans (hb1.mono H0.out.1.size)
  have hpk := pack_any (N := fun _ => True) A c l HP.out.2.1 w1 (HP.out.1.below hbw1) (fun _ _ _ _ _ _ _ _ _ _ _ _ => trivial)
  rw [← HN.out] at hpk
  have H1 := Lib.hid (And.intro hbw1 (H0.out.2.below hb1 H0.out.2.lt))
  clear hno hb1 hbw1
  go_wp2_with fail
  refine hpk.mono ?_
  rintro e w2 ⟨vb, vk, bs, sp, ks, sk, rfl, -, -, -, hb2⟩
  rw [HP.out.2.2]
  have hg62 := H1.out.2.below hb2 H1.out.2.lt
  have H2 := Lib.hid (H1.out.1.trans (hb2.mono H1.out.1.size))
  clear hpk hb2
  go_wp2_with (first
    | ((with_reducible show wpList _ _ _ ((⟨none, _, _, _, _, _⟩ : Oper) :: _) _ _); refine wpList_store_blk (o := ⟨none, _, _, _, _, _⟩) (hg62) (by rfl) _ _ _ (by rfl) (by rfl) (#[.int .i64 0, .int .i64 0, .int .i64 0, .slice none 0 0, .slice none 0 0]) (by rfl) (sizeRun) (by rfl) (by rfl) (by simp [Value.oneCell']) ?_; intro w9 h9 hu9)
    | fail)
  refine bodyPost_ret (results_row_tmp (by rfl) _ _ w.heap.size _ _ _ (by rfl) h9 Tryd.underlying35 (by rfl) sizeRun) rfl ?_
  exact ⟨rfl, H2.out.upd hu9 (Nat.le_refl _)⟩
set_option maxRecDepth 100000 in
set_option maxHeartbeats 4000000 in
theorem tbuild_full {w : World} {q : GPl} {g : Grd} {d : Dsk} {f : Option Fus} (h : GridR w q g d f) (A : Option Addr) (c : Nat) (l : List PairT) (hl : l.length ≤ 65536) (hP : Pairs w A l) (s : Int) (hc : (ppack l).1 = 0) (hs1 : 0 ≤ s) (hs2 : s ≤ 1073741824) (hf : cnts g.L 0 < (ppack l).2.length + 1) :
    Calls Tryd.prog 10 #[.pointer (some ⟨q.gg, 0, none⟩), .slice A l.length c, .int .i64 s] w fun e w' => e = .returned (.tuple #[.agg #[.int .i64 0, .int .i64 0, .int .i64 0, .slice none 0 0, .slice none 0 0], .int .i64 8]) ∧ Below w.heap.size w w' := by
  have hz := zeroRunrun
  have hb1 := (Below.refl w.heap.size w).alloc (Nat.le_refl _) (.cells #[.int .i64 0, .int .i64 0, .int .i64 0, .slice none 0 0, .slice none 0 0] 35)
  have hg6 := Blk.new w 35 #[.int .i64 0, .int .i64 0, .int .i64 0, .slice none 0 0, .slice none 0 0]
  have hno := tnone_any (h.below hb1)
  have H0 := Lib.hid (And.intro hb1 hg6)
  have HP := Lib.hid (And.intro hP (And.intro hl hc))
  have HG := Lib.hid h
  obtain ⟨n, hn⟩ : ∃ n, n = l.length := ⟨_, rfl⟩
  have HN := Lib.hid hn
  rw [← hn]
  clear h hb1 hg6 hP hl hc hn
  go_enter Tryd.func10, Tryd.ntmps10
  go_wp2_with fail
  refine hno.mono ?_
  rintro e w1 ⟨rfl, hb1⟩
  have hbw1 := H0.out.1.trans (hb1.mono H0.out.1.size)
  have hpk := pack_any (N := fun _ => True) A c l HP.out.2.1 w1 (HP.out.1.below hbw1) (fun _ _ _ _ _ _ _ _ _ _ _ _ => trivial)
  rw [← HN.out] at hpk
  have H1 := Lib.hid (And.intro hbw1 (H0.out.2.below hb1 H0.out.2.lt))
  clear hno hb1 hbw1
  go_wp2_with fail
  refine hpk.mono ?_
  rintro e w2 ⟨vb, vk, bs, sp, ks, sk, rfl, hBo, hKe, -, hb2⟩
  rw [HP.out.2.2]
  obtain ⟨Ab, cb, rfl, -, -, -, -⟩ := OwnsC.reads hBo.own
  obtain ⟨Ak, ck, rfl, -, -, -, -⟩ := OwnsC.reads hKe.own
  obtain ⟨m, hm⟩ : ∃ m, m = (ppack l).2.length := ⟨_, rfl⟩
  have hm15 : m ≤ 15 := by obtain ⟨-, h64, -, ha, hp⟩ := ppack_ok HP.out.2.2; rw [hm, hp]; exact pgroups_few ha h64
  have hcn := gcounts_any (HG.out.below (H1.out.1.trans (hb2.mono H1.out.1.size)))
  rw [← hm] at hf ⊢
  generalize cnts g.L 0 = a at hcn hf
  generalize cnts g.L 1 = a1 at hcn
  generalize cnts g.L 2 = a2 at hcn
  have k1 : decide (s < 0) = false := decide_eq_false (Int.not_lt.2 hs1)
  have k2 : decide (s > 1073741824) = false := decide_eq_false (Int.not_lt.2 hs2)
  have k2' : decide (1073741824 < s) = false := decide_eq_false (Int.not_lt.2 hs2)
  have k3 : wrap64 ((m : Int) + 1) = ((m + 1 : Nat) : Int) := by rw [w64_in (by omega)]; omega
  have k4 : decide ((a : Int) < ((m + 1 : Nat) : Int)) = true := bu_lt2 hf
  have k5 : decide (a < m + 1) = true := decide_eq_true hf
  have k6 : decide ((a : Int) < (m : Int) + 1) = true := bu_lt2 hf
  have hg62 := H1.out.2.below hb2 H1.out.2.lt
  have H2 := Lib.hid (H1.out.1.trans (hb2.mono H1.out.1.size))
  clear hpk hb2 hBo hKe hm hs1 hs2 hf
  go_wp2_with fail
  refine hcn.mono ?_
  rintro e w3 ⟨rfl, hb3⟩
  have hg63 := hg62.below hb3 hg62.lt
  have H3 := Lib.hid (H2.out.trans (hb3.mono H2.out.size))
  clear hcn hb3
  go_wp2_with (first
    | ((with_reducible show wpList _ _ _ ((⟨none, _, _, _, _, _⟩ : Oper) :: _) _ _); refine wpList_store_blk (o := ⟨none, _, _, _, _, _⟩) (hg63) (by rfl) _ _ _ (by rfl) (by rfl) (#[.int .i64 0, .int .i64 0, .int .i64 0, .slice none 0 0, .slice none 0 0]) (by rfl) (sizeRun) (by rfl) (by rfl) (by simp [Value.oneCell']) ?_; intro w9 h9 hu9)
    | fail)
  refine bodyPost_ret (results_row_tmp (by rfl) _ _ w.heap.size _ _ _ (by rfl) h9 Tryd.underlying35 (by rfl) sizeRun) rfl ?_
  exact ⟨rfl, H3.out.upd hu9 (Nat.le_refl _)⟩
end Go.Proofs.YtgkljncigbiffaaDoor

/- A grid that a statement made: the calls on tables. Conditions: as each says. -/
namespace Go.Proofs.YtgkljncigbiffaaDoor
open Go.RowKit
/-- No block of a grid or of its disk is of this type. -/
def NG (t : TypeId) : Prop := t ≠ 30 ∧ t ≠ 203 ∧ t ≠ 33 ∧ t ≠ 105 ∧ t ≠ 145 ∧ t ≠ 211
/-- Blocks of a grid and of its disk alone may have been written. -/
def Soft (w w' : World) : Prop := ∃ X : List Nat, Near X w w' ∧ ∀ x ∈ X, ∀ t cs, Blk w x t cs → ¬ NG t
section
variable {w w' w'' : World} {q : GPl} {g g1 : Grd} {d d1 : Dsk} {f f1 : Option Fus}
theorem Soft.refl (w : World) : Soft w w := ⟨[], Near.refl _ _, fun _ hx => absurd hx List.not_mem_nil⟩
theorem Soft.below (k : Below w.heap.size w w') : Soft w w' := ⟨[], Near.below k, fun _ hx => absurd hx List.not_mem_nil⟩
theorem Soft.blk {x : Nat} {t : TypeId} {cs : Array Value} (h : Soft w w') (hb : Blk w x t cs) (ht : NG t) : Blk w' x t cs := by
  obtain ⟨X, k, hX⟩ := h
  exact hb.near k (fun hm => hX _ hm _ _ hb ht)
theorem Soft.trans (h : Soft w w') (k : Soft w' w'') : Soft w w'' := by
  obtain ⟨X, h1, h2⟩ := h
  obtain ⟨Y, k1, k2⟩ := k
  refine ⟨X ++ Y, (h1.wider fun x hx => List.mem_append.2 (.inl hx)).trans (k1.wider fun x hx => List.mem_append.2 (.inr hx)), fun x hx t cs hb => ?_⟩
  by_cases hX : x ∈ X
  · exact h2 x hX t cs hb
  · rcases List.mem_append.1 hx with e | e
    · exact absurd e hX
    · exact k2 x e t cs (hb.near h1 hX)
theorem Soft.size (h : Soft w w') : w.heap.size ≤ w'.heap.size := by
  obtain ⟨X, k, -⟩ := h
  exact k.size
theorem Soft.post (h : GridR w q g d f) (hp : GPost w q g1 d1 f1 w') : Soft w w' := by
  obtain ⟨q', -, -, -, -, hN, -⟩ := hp
  exact ⟨q.all, hN, fun x hx t cs hb ht => h.offT hb ht hx⟩
theorem Soft.pairsU {base : Nat} {v : Value} {l : List PairT} {rows sp : List Value} (h : Soft w w') (hp : PairsU w base v l rows sp) : PairsU w' base v l rows sp := by
  obtain ⟨X, k, hX⟩ := h
  refine hp.near k (fun x hx hm => ?_) (fun x cs hb hm => hX x hm _ _ hb (by unfold NG; decide))
  obtain ⟨cs, hb⟩ := ownBlk hp.own hx
  exact hX x hm _ _ hb (by unfold NG; decide)
end
/-- A step of a statement about tables. -/
structure TS (B : Nat) (Y : List Nat) (w w' : World) : Prop where
  st : GStep B Y w w'
  so : Soft w w'
section
variable {B gp dp : Nat} {Y Y' : List Nat} {w w' w'' : World} {g g2 : Grd} {d d2 : Dsk}
theorem TS.trans (h : TS B Y w w') (k : TS B Y w' w'') : TS B Y w w'' := ⟨h.st.trans k.st, h.so.trans k.so⟩
theorem TS.sub (h : TS B Y w w') (hs : ∀ y ∈ Y', y ∈ Y) : TS B Y' w w' := ⟨h.st.sub hs, h.so⟩
theorem TS.below (k : Below w.heap.size w w') (hs : B ≤ w.heap.size) (hY : ∀ y ∈ Y, y < w.heap.size) : TS B Y w w' := ⟨GStep.below k hs hY, Soft.below k⟩
theorem TS.bel (h : TS B Y w w') : Below B w w' := h.st.bel
theorem GX.belowT (h : GX B Y w gp dp g d) (k : Below w.heap.size w w') : GX B Y w' gp dp g d ∧ TS B Y w w' := ⟨(h.below k).1, (h.below k).2, Soft.below k⟩
theorem GX.postT {q : GPl} {f : Option Fus} {g1 : Grd} {d1 : Dsk} {f1 : Option Fus} (h0 : GridR w q g1 d1 f1) (h1 : q.gg = gp) (h2 : q.p.gd = dp) (h3 : q.gf = none) (h5 : ∀ x ∈ q.all, B ≤ x ∧ x ∉ Y) (h6 : ∀ y ∈ Y, y < w.heap.size) (h7 : B ≤ w.heap.size) (h : GPost w q g2 d2 f w') : GX B Y w' gp dp g2 d2 ∧ TS B Y w w' :=
  ⟨(GX.of_post h1 h2 h3 h5 h6 h7 h).1, (GX.of_post h1 h2 h3 h5 h6 h7 h).2, Soft.post h0 h⟩
/-- A byte of the disk is turned. -/
theorem xtturn (h : GX B Y w gp dp g d) (s a : Int) (m : UInt8) {c0 : Int} (hg : d.turn s a m = (c0, d2)) (hN : d2.N = d.N) :
    Calls Tryd.prog 22 #[.pointer (some ⟨dp, 0, none⟩), .int .i64 s, .int .i64 a, .int .u8 (iu8 m)] w fun e w' => e = .returned (.int .i64 c0) ∧ GX B Y w' gp dp g d2 ∧ TS B Y w w' := by
  obtain ⟨q, h1, h2, h3, h4, h5, h6, h7⟩ := h
  have hr := turn_all s a m h4.dk.dr h4.dk.ok
  have hok := Dsk.turn_ok (s := s) (a := a) (m := m) h4.dk.ok
  rw [hg] at hok
  rw [hg, h2] at hr
  refine hr.mono ?_
  rintro e w' ⟨rfl, hd, hN2⟩
  have hlow : Near (q.p.all q.gf) w w' := hN2.wider (fun x hx => by rw [List.mem_singleton.1 hx]; simp [Pl.all])
  have hfr := h4.dk.fr.near hN2 (fun x hx => by rw [h3] at hx; cases hx)
  exact ⟨rfl, GX.postT h4 h1 h2 h3 h5 h6 h7 (f := none) ⟨q, rfl, rfl, rfl, h4.wrote ⟨hd, hfr, hok⟩ hlow hN, hlow.wider (fun x hx => GPl.mem.2 (.inr (.inr (.inr (.inr hx))))), fun x hx => .inl hx⟩⟩
/-- All pairs. -/
theorem xtall (h : GX B Y w gp dp g d) (hlen : g.W.length ≤ 1099511627776) (r : RefT) (n : Int) (F L : Option Addr) (nf cf nl cl : Nat) (l : List PairT) (ho : (topen g d none r).1 = 0) (Gr : Nat → List PairT) (hd : ∀ i, (h : i < (topen g d none r).2.1.1.length) → tdata g d none (topen g d none r).2.1.1[i] = (0, Gr i, g)) (hl : titems (fun _ => true) Gr (topen g d none r).2.1.1.length = l) (hN : l.length ≤ 100000) :
    Calls Tryd.prog 12 #[.pointer (some ⟨gp, 0, none⟩), .agg (runv r n F L nf cf nl cl)] w fun e w' => ∃ (v : Value) (rows sp : List Value), e = .returned (.tuple #[v, .int .i64 0]) ∧ PairsU w' 0 v l rows sp ∧ GX B Y w' gp dp g d ∧ TS B Y w w' := by
  have h0 := h
  obtain ⟨q, h1, h2, h3, h4, h5, h6, h7⟩ := h
  subst hl
  have hr := tall_ok h4 hlen r n F L nf cf nl cl ho Gr hd hN
  rw [h1] at hr
  refine hr.mono ?_
  rintro e w' ⟨v, rows, sp, rfl, hP, hB⟩
  exact ⟨v, rows, sp, rfl, hP, h0.belowT hB⟩
/-- The pairs between two keys. -/
theorem xtbetween (h : GX B Y w gp dp g d) (hlen : g.W.length ≤ 1099511627776) (r : RefT) (n : Int) (F L : Option Addr) (nf cf nl cl : Nat) (fr to : List UInt8) (A1 A2 : Option Addr) (c1 c2 : Nat) (hf : Bytes w A1 fr) (ht : Bytes w A2 to) (hfl : fr.length ≤ 5000) (htl : to.length ≤ 5000) (l : List PairT) (ho : (topen g d none r).1 = 0) (Gr : Nat → List PairT) (hd : ∀ i, (h : i < (topen g d none r).2.1.1.length) → used (topen g d none r).2.1.2 fr to i = true → tdata g d none (topen g d none r).2.1.1[i] = (0, Gr i, g))
    (hl : (titems (used (topen g d none r).2.1.2 fr to) Gr (topen g d none r).2.1.1.length).filter (inside fr to) = l) (hN : (titems (used (topen g d none r).2.1.2 fr to) Gr (topen g d none r).2.1.1.length).length ≤ 100000) :
    Calls Tryd.prog 13 #[.pointer (some ⟨gp, 0, none⟩), .agg (runv r n F L nf cf nl cl), .slice A1 fr.length c1, .slice A2 to.length c2] w fun e w' => ∃ (v : Value) (rows sp : List Value), e = .returned (.tuple #[v, .int .i64 0]) ∧ PairsU w' 0 v l rows sp ∧ GX B Y w' gp dp g d ∧ TS B Y w w' := by
  have h0 := h
  obtain ⟨q, h1, h2, h3, h4, h5, h6, h7⟩ := h
  subst hl
  have hr := tbetween_ok h4 hlen r n F L nf cf nl cl fr to A1 A2 c1 c2 hf ht hfl htl ho Gr hd hN
  rw [h1] at hr
  refine hr.mono ?_
  rintro e w' ⟨v, rows, sp, rfl, hP, hB⟩
  exact ⟨v, rows, sp, rfl, hP, h0.belowT hB⟩
/-- A key's pair. -/
theorem xtget (h : GX B Y w gp dp g d) (hlen : g.W.length ≤ 1099511627776) (r : RefT) (n : Int) (F L : Option Addr) (nf cf nl cl : Nat) (A : Option Addr) (ce : Nat) (key : List UInt8) (hB : Bytes w A key)
    (hmono : ∀ a b : Nat, a ≤ b → b < (topen g d none r).2.1.2.length → key < (topen g d none r).2.1.2.getD a [] → key < (topen g d none r).2.1.2.getD b []) {cd : Int} {p : PairT} (hT : tget g d none r key = (cd, p, g2)) :
    Calls Tryd.prog 11 #[.pointer (some ⟨gp, 0, none⟩), .agg (runv r n F L nf cf nl cl), .slice A key.length ce] w fun e w' => ∃ (kv vv : Value), e = .returned (.tuple #[.agg #[kv, vv, .bool p.2.2.1], .int .i64 cd]) ∧ PairO w' w.heap.size kv vv p ∧ GX B Y w' gp dp g2 d ∧ TS B Y w w' := by
  obtain ⟨q, h1, h2, h3, h4, h5, h6, h7⟩ := h
  have hr := tget_any h4 hlen r n F L nf cf nl cl A ce key hB hmono
  rw [h1, hT] at hr
  refine hr.mono ?_
  rintro e w' ⟨kv, vv, rfl, hO, hP⟩
  exact ⟨kv, vv, rfl, hO, GX.postT h4 h1 h2 h3 h5 h6 h7 hP⟩
/-- Is a key told just so? -/
theorem xtgets (h : GX B Y w gp dp g d) (hlen : g.W.length ≤ 1099511627776) (r : RefT) (n : Int) (F L : Option Addr) (nf cf nl cl : Nat) (key : List UInt8) (hk : key.length ≤ 5000) (p : PairT) (A A' : Option Addr) (c e0 : Nat) {cd : Int}
    (hp : PairAt w p A c A' e0) (hA : ∀ ad, A = some ad → ad.block ∈ Y ∨ ad.block < B) (hA' : p.2.1 ≠ [] → ∀ ad, A' = some ad → ad.block ∈ Y ∨ ad.block < B) (hT : tget g d none r key = (cd, p, g2))
    (hmono : ∀ a b : Nat, a ≤ b → b < (topen g d none r).2.1.2.length → key < (topen g d none r).2.1.2.getD a [] → key < (topen g d none r).2.1.2.getD b []) :
    Calls Tryd.prog 29 #[.pointer (some ⟨gp, 0, none⟩), .agg (runv r n F L nf cf nl cl), .string (str key), .agg (pairc p A c A' e0), .int .i64 cd] w fun e w' => e = .returned (.bool true) ∧ GX B Y w' gp dp g2 d ∧ TS B Y w w' := by
  obtain ⟨q, h1, h2, h3, h4, h5, h6, h7⟩ := h
  have off : ∀ ad : Addr, (ad.block ∈ Y ∨ ad.block < B) → ad.block ∉ q.all := fun ad ha hm => by
    rcases ha with e | e
    · exact (h5 _ hm).2 e
    · have := (h5 _ hm).1; omega
  have hr := gets_any h4 hlen r n F L nf cf nl cl key hk p A A' c e0 cd (fun w' hn => ⟨hp.kc, hp.km, hp.vc, hp.vm, Bytes.near hp.k hn (fun ad e => off ad (hA ad e)), near_bytes hp.v hn (fun hne ad e => off ad (hA' hne ad e))⟩) hT hmono
  rw [h1] at hr
  refine hr.mono ?_
  rintro e w' ⟨rfl, hP⟩
  exact ⟨rfl, GX.postT h4 h1 h2 h3 h5 h6 h7 hP⟩
/-- The table's blocks. -/
theorem xtblocks (h : GX B Y w gp dp g d) (hlen : g.W.length ≤ 1099511627776) (r : RefT) (n : Int) (F L : Option Addr) (nf cf nl cl : Nat) {l : List RefT} (hT : tblocks g d none r = (0, l, g2)) :
    Calls Tryd.prog 14 #[.pointer (some ⟨gp, 0, none⟩), .agg (runv r n F L nf cf nl cl)] w fun e w' => ∃ (A : Option Addr) (c : Nat), e = .returned (.tuple #[.slice A l.length c, .int .i64 0]) ∧ Refs w' A l ∧ l.length ≤ c ∧ c ≤ 9223372036854775807 ∧ (∀ ad, A = some ad → GX B (ad.block :: Y) w' gp dp g2 d) ∧ GX B Y w' gp dp g2 d ∧ TS B Y w w' := by
  have h0 := h
  obtain ⟨q, h1, h2, h3, h4, h5, h6, h7⟩ := h
  have hr := tblocks_any h4 hlen r n F L nf cf nl cl
  have hz : g = g2 := by
    have := tblocks_zero (g := g) (d := d) (f := none) (r := r) (by rw [hT])
    rw [hT] at this
    exact this.symm
  subst hz
  rw [h1, hT] at hr
  refine hr.mono ?_
  rintro e w' ⟨v, sp, rfl, hO, hL⟩
  have hB := hL.2 rfl
  obtain ⟨A, c, rfl, hc, hm, hrd, -⟩ := OwnsC.reads hO
  refine ⟨A, c, rfl, Refs.of hrd, hc, hm, fun ad e => ?_, h0.belowT hB⟩
  subst e
  have hlt := OwnsC.lt hO ad.block rfl
  exact h0.add hB hlt.1 hlt.2
/-- A table is dropped. -/
theorem xtdrop (h : GX B Y w gp dp g d) (hlen : g.W.length ≤ 1099511627776) (r : RefT) (hr : -9223372036854775808 ≤ r.1 ∧ r.1 ≤ 9223372036854775807) (n : Int) (F L : Option Addr) (nf cf nl cl : Nat) {cd : Int} (hT : tdrop g d r = (cd, g2)) :
    Calls Tryd.prog 15 #[.pointer (some ⟨gp, 0, none⟩), .agg (runv r n F L nf cf nl cl)] w fun e w' => e = .returned (.int .i64 cd) ∧ GX B Y w' gp dp g2 d ∧ TS B Y w w' := by
  obtain ⟨q, h1, h2, h3, h4, h5, h6, h7⟩ := h
  have hc := tdrop_any h4 hlen r hr n F L nf cf nl cl
  rw [h1, hT] at hc
  refine hc.mono ?_
  rintro e w' ⟨rfl, hP⟩
  exact ⟨rfl, GX.postT h4 h1 h2 h3 h5 h6 h7 hP⟩
/-- A table is written. -/
theorem xtbuild {G : Nat → Grd} {D : Nat → Dsk} {R : Nat → RefT} {root : RefT} {s : Int} {w0 : World} (h0 : GX B Y w0 gp dp (G 0) (D 0)) (hk : Below w0.heap.size w0 w) (hT : Tab w) (hTB : 1 < B)
    (A : Option Addr) (c : Nat) (l : List PairT) (hl : l.length ≤ 65536) (hP : Pairs w A l) (hX : ∀ X : List Nat, (∀ x ∈ X, B ≤ x ∧ x ∉ Y ∧ x < w0.heap.size) → PairsX X w A l) (hok : (ppack l).1 = 0) (hs1 : 0 ≤ s) (hs2 : s ≤ 1073741824)
    (hf : (ppack l).2.length + 1 ≤ cnts (G 0).L 0) (hpt : Puts s ((ppack l).2.map gbody) (kbytes ((ppack l).2.map gkey)) root G D R) :
    Calls Tryd.prog 10 #[.pointer (some ⟨gp, 0, none⟩), .slice A l.length c, .int .i64 s] w fun e w' => ∃ (A1 A2 : Option Addr) (n1 c1 n2 c2 : Nat), e = .returned (.tuple #[.agg (runv root (l.length : Int) A1 A2 n1 c1 n2 c2), .int .i64 0]) ∧ GX B Y w' gp dp (G ((ppack l).2.length + 1)) (D ((ppack l).2.length + 1)) ∧ TS B Y w w' := by
  obtain ⟨q, h1, h2, h3, h4, h5, h6, h7⟩ := h0
  obtain ⟨p1, p2, -⟩ := ppack_ok hok
  have hn : 0 < l.length := by cases l with
    | nil => exact absurd rfl p1
    | cons a b => simp
  have hr := tbuild_any (h4.below hk) hT (fun hm => by have := (h5 _ hm).1; omega) A c l hl hP (hX q.all (fun x hx => ⟨(h5 x hx).1, (h5 x hx).2, h4.lt x hx⟩)) hok hs1 hs2 hf hpt (l[0].1) ((l[l.length - 1]'(by omega)).1) ⟨_, List.getElem?_eq_getElem hn, rfl⟩ ⟨_, List.getElem?_eq_getElem (by omega), rfl⟩
  rw [h1] at hr
  refine hr.mono ?_
  rintro e w' ⟨fv, lv, sf, sl, rfl, hF, hL, hP⟩
  obtain ⟨A1, c1, rfl, -, -, -⟩ := OwnB.open_ hF
  obtain ⟨A2, c2, rfl, -, -, -⟩ := OwnB.open_ hL
  exact ⟨A1, A2, _, c1, _, c2, rfl, GX.postT (h4.below hk) h1 h2 h3 h5 (fun y hy => Nat.lt_of_lt_of_le (h6 y hy) hk.size) (Nat.le_trans h7 hk.size) hP⟩
/-- A table is not written. -/
theorem xtbuild_bad (h : GX B Y w gp dp g d) (A : Option Addr) (c : Nat) (l : List PairT) (hl : l.length ≤ 65536) (hP : Pairs w A l) (s : Int) (hc : (ppack l).1 = 2) :
    Calls Tryd.prog 10 #[.pointer (some ⟨gp, 0, none⟩), .slice A l.length c, .int .i64 s] w fun e w' => e = .returned (.tuple #[.agg #[.int .i64 0, .int .i64 0, .int .i64 0, .slice none 0 0, .slice none 0 0], .int .i64 2]) ∧ GX B Y w' gp dp g d ∧ TS B Y w w' := by
  have h0 := h
  obtain ⟨q, h1, h2, h3, h4, h5, h6, h7⟩ := h
  have hr := tbuild_bad h4 A c l hl hP s hc
  rw [h1] at hr
  refine hr.mono ?_
  rintro e w' ⟨rfl, hB⟩
  exact ⟨rfl, h0.belowT hB⟩
theorem xtbuild_badB (h : GX B Y w gp dp g d) (A : Option Addr) (c : Nat) (l : List PairT) (hl : l.length ≤ 65536) (hP : Pairs w A l) (s : Int) (hc : (ppack l).1 = 2) :
    Calls Tryd.prog 10 #[.pointer (some ⟨gp, 0, none⟩), .slice A l.length c, .int .i64 s] w fun e w' => e = .returned (.tuple #[.agg #[.int .i64 0, .int .i64 0, .int .i64 0, .slice none 0 0, .slice none 0 0], .int .i64 2]) ∧ Below w.heap.size w w' := by
  obtain ⟨q, h1, h2, h3, h4, h5, h6, h7⟩ := h
  have hr := tbuild_bad h4 A c l hl hP s hc
  rw [h1] at hr
  exact hr
theorem xtbuild_full (h : GX B Y w gp dp g d) (A : Option Addr) (c : Nat) (l : List PairT) (hl : l.length ≤ 65536) (hP : Pairs w A l) (s : Int) (hc : (ppack l).1 = 0) (hs1 : 0 ≤ s) (hs2 : s ≤ 1073741824) (hf : cnts g.L 0 < (ppack l).2.length + 1) :
    Calls Tryd.prog 10 #[.pointer (some ⟨gp, 0, none⟩), .slice A l.length c, .int .i64 s] w fun e w' => e = .returned (.tuple #[.agg #[.int .i64 0, .int .i64 0, .int .i64 0, .slice none 0 0, .slice none 0 0], .int .i64 8]) ∧ GX B Y w' gp dp g d ∧ TS B Y w w' := by
  have h0 := h
  obtain ⟨q, h1, h2, h3, h4, h5, h6, h7⟩ := h
  have hr := tbuild_full h4 A c l hl hP s hc hs1 hs2 hf
  rw [h1] at hr
  refine hr.mono ?_
  rintro e w' ⟨rfl, hB⟩
  exact ⟨rfl, h0.belowT hB⟩
end
end Go.Proofs.YtgkljncigbiffaaDoor

/- The chapter's pairs, one by one: what abc answers. Plain facts of this program. No condition. -/
namespace Go.Proofs.YtgkljncigbiffaaDoor
open Go.RowKit
/-- A pair of the chapter's, where it lies. -/
theorem abc_at {w w' : World} {e : Ending} (h : AbcTold w e w') : ∃ b : Nat, e = .returned (.slice (some ⟨b, 0, none⟩) 3 3) ∧ Pairs w' (some ⟨b, 0, none⟩) abcL ∧ (∀ X : List Nat, (∀ x ∈ X, x < w.heap.size) → PairsX X w' (some ⟨b, 0, none⟩) abcL) ∧ Below w.heap.size w w' ∧
    ∀ i, (hi : i < abcL.length) → ∃ (a : Addr) (c : Nat) (A2 : Option Addr) (c2 : Nat), w'.rangeAt b (i * 3) [.slice (some a) abcL[i].1.length c, .slice A2 abcL[i].2.1.length c2, .bool abcL[i].2.2.1] ∧ PairAt w' abcL[i] (some a) c A2 c2 ∧ w.heap.size ≤ a.block ∧ a.block < w'.heap.size ∧ w.heap.size ≤ b := by
  obtain ⟨b, rfl, hP, hX, hB, -⟩ := h
  refine ⟨b, rfl, hP, hX, hB, fun i hi => ?_⟩
  have hi3 : i < 3 := hi
  have hne : 1 ≤ abcL[i].1.length := by
    have : ∀ j : Fin 3, 1 ≤ (abcL[j.1]'(j.2)).1.length := by decide
    exact this ⟨i, hi3⟩
  obtain ⟨b1, off1, e1, hlt, hc⟩ := hP (by decide)
  injection e1 with e1
  injection e1 with e11 e12
  subst e11 e12
  obtain ⟨A1, c1, A2, c2, k1, k2, k3, k4⟩ := hc i hi
  obtain ⟨b2, off2, a, c, e2, hbx, h1, -, -, h4, h5⟩ := hX (List.range w.heap.size) (fun x hx => List.mem_range.1 hx) i hi hne
  injection e2 with e2
  injection e2 with e21 e22
  subst e21 e22
  rw [k1] at h1
  injection h1 with h1
  injection h1 with h11 h12 h13
  subst h11 h13
  refine ⟨a, c1, A2, c2, range3 (by rw [Nat.zero_add] at k1; exact k1) (by rw [Nat.zero_add] at k2; exact k2) (by rw [Nat.zero_add] at k3; exact k3), k4, Nat.le_of_not_lt (fun hlt => h5 (List.mem_range.2 hlt)), ?_, Nat.le_of_not_lt (fun hlt => hbx (List.mem_range.2 hlt))⟩
  obtain ⟨b3, off3, e3, hc3⟩ := k4.k (by intro e; have := congrArg List.length e; rw [List.length_map] at this; have h0 : abcL[i].1.length = 0 := this; omega)
  injection e3 with e3
  subst e3
  exact World.block_lt_of_cell? w' _ (hc3 0 _ (List.getElem?_eq_getElem (by rw [List.length_map]; omega)))
theorem rangeAt_upd {w w' : World} {b off x : Nat} {l : List Value} (h : w.rangeAt b off l) (u : Upd x w w') (hne : b ≠ x) : w'.rangeAt b off l := fun j v hv => by
  have h1 := h j v hv
  unfold World.cell? at h1 ⊢
  rw [u.block b hne]
  exact h1
theorem rangeAt_lt {w : World} {b off : Nat} {v : Value} {l : List Value} (h : w.rangeAt b off (v :: l)) : b < w.heap.size := World.block_lt_of_cell? w _ (h 0 v rfl)
/-- Two pairs, in a list that has just been made. -/
theorem pairs_two {w : World} {g : Nat} {t : TypeId} {p q : PairT} {A B A' B' : Option Addr} {c e c' e' : Nat} (hb : Blk w g t #[.slice A p.1.length c, .slice B p.2.1.length e, .bool p.2.2.1, .slice A' q.1.length c', .slice B' q.2.1.length e', .bool q.2.2.1]) (hp : PairAt w p A c B e) (hq : PairAt w q A' c' B' e') : Pairs w (some ⟨g, 0, none⟩) [p, q] := fun _ => by
  refine ⟨g, 0, rfl, hb.lt, fun i hi => ?_⟩
  have h2 : i = 0 ∨ i = 1 := by simp only [List.length_cons, List.length_nil] at hi; omega
  rcases h2 with rfl | rfl
  · exact ⟨A, c, B, e, hb.at_ 0 rfl, hb.at_ 1 rfl, hb.at_ 2 rfl, hp⟩
  · exact ⟨A', c', B', e', hb.at_ 3 rfl, hb.at_ 4 rfl, hb.at_ 5 rfl, hq⟩
end Go.Proofs.YtgkljncigbiffaaDoor

/- A region that draws its order, by a plan that branches; behind an operation the class of worlds may be narrowed (what it made is known from there on). Plain facts over any program. No condition. -/
namespace Go
section
variable {P : Program} {ops : Array Oper} {md : Region.Mode} {C : World → Prop} {Z : List Nat} {Q : Exit → Act → World → Prop}
theorem wpAnyC_narrow {C' : World → Prop} (hC : ∀ w, C' w → C w) : ∀ (fuel : Nat) (s : Array Bool) (a : Act) (w : World), wpAnyC P md ops C' Z Q fuel s a w → wpAnyC P md ops C Z Q fuel s a w := by
  intro fuel
  induction fuel with
  | zero => intro s a w h; exact h
  | succ fuel ih =>
    intro s a w h
    exact ⟨h.1, fun i hi => wpOp_mono (fun a' w' h' => ⟨h'.1.imp id (hC w'), ih _ _ _ h'.2⟩) (h.2 i hi)⟩
def wpTreeN (P : Program) (ops : Array Oper) (Z : List Nat) (Q : Exit → Act → World → Prop) : PlanT → (World → Prop) → Act → World → Prop
  | .done, _, a, w => Q .normal a w
  | .take i r, C, a, w => match ops[i]? with
    | some o => ∃ v, YieldsC P ops C o v a ∧ (C w → wpTreeN P ops Z Q r C (a.put o.dst v) w)
    | none => False
  | .opt i r m, C, a, w => wpOp P ops Q i (fun a' w' => (i ∈ Z ∧ wpTreeN P ops Z Q r C a' w') ∨ ∃ C' : World → Prop, (∀ w, C' w → C w) ∧ C' w' ∧ wpTreeN P ops Z Q r C' a' w') a w ∧ wpTreeN P ops Z Q m C a w
  | .no, _, _, _ => True
theorem anyC_of_treeN (hns : Region.noSelect ops = true) (hQ : ∀ c a a' w, a'.defers = a.defers → Q (.panic c) a' w → Q (.panic c) a w) :
    ∀ (t : PlanT) (C : World → Prop) (n : Nat) (s : Array Bool) (a : Act) (w : World), Z = [] → C w → wpTreeN P ops Z Q t C a w →
      (Region.treeB md ops Z t true n s = true → wpAnyC P md ops C Z Q n s a w) ∧
      (∀ m, n = m + 1 → Region.treeB md ops Z t false n s = true → ∀ i ∈ t.heads, wpOp P ops Q i (fun a' w' => (i ∈ Z ∨ C w') ∧ wpAnyC P md ops C Z Q m (s.setIfInBounds i true) a' w') a w) := by
  intro t
  induction t with
  | done =>
    intro C n s a w _ _ h
    refine ⟨fun hB => ?_, fun m _ _ i hi => by cases hi⟩
    simp only [Region.treeB, Bool.and_eq_true, decide_eq_true_eq] at hB
    obtain ⟨rfl, hB⟩ := hB
    exact ⟨by simpa using hB, h⟩
  | no =>
    intro C n s a w _ _ _
    exact ⟨fun hB => by simp [Region.treeB] at hB, fun m _ _ i hi => by cases hi⟩
  | take i r ih =>
    intro C n s a w hz hC h
    refine ⟨fun hB => ?_, fun m _ _ i hi => by cases hi⟩
    cases n with
    | zero => simp [Region.treeB] at hB
    | succ n =>
      simp only [Region.treeB, Bool.and_eq_true] at hB
      obtain ⟨⟨⟨h1, h2⟩, h3⟩, h4⟩ := hB
      have hr : i ∈ Region.ready md ops s := by simpa using h1
      obtain ⟨_, oi, hoi, _⟩ := mem_ready.1 hr
      simp only [wpTreeN, hoi] at h
      obtain ⟨v, hy, hn⟩ := h
      exact wpAnyC_first hoi hns hQ (fun z hz => List.all_eq_true.1 h3 z hz) n s a w (Region.free_spec hoi h2) hr hy hC ((ih C n _ _ _ hz hC (hn hC)).1 h4)
  | opt i r m ihr ihm =>
    intro C n s a w hz hC h
    obtain ⟨h1, h2⟩ := h
    have key : ∀ k first, n = k + 1 → Region.treeB md ops Z (.opt i r m) first n s = true → ∀ j ∈ (PlanT.opt i r m).heads, wpOp P ops Q j (fun a' w' => (j ∈ Z ∨ C w') ∧ wpAnyC P md ops C Z Q k (s.setIfInBounds j true) a' w') a w := by
      intro k first hn hB j hj
      subst hn
      simp only [Region.treeB, Bool.and_eq_true] at hB
      obtain ⟨⟨_, hr⟩, hm⟩ := hB
      simp only [PlanT.heads, List.mem_cons] at hj
      rcases hj with rfl | hj
      · refine wpOp_mono (fun a' w' h' => ?_) h1
        rcases h' with ⟨h', -⟩ | ⟨C', hCC, hC', h'⟩
        · rw [hz] at h'; cases h'
        · exact ⟨.inr (hCC _ hC'), wpAnyC_narrow hCC _ _ _ _ ((ihr C' k _ a' w' hz hC' h').1 hr)⟩
      · exact (ihm C (k + 1) s a w hz hC h2).2 k rfl hm j hj
    refine ⟨fun hB => ?_, fun k hk hB => key k false hk hB⟩
    cases n with
    | zero => simp [Region.treeB] at hB
    | succ n =>
      have hk := key n true rfl hB
      simp only [Region.treeB, Bool.and_eq_true, Bool.not_true, Bool.false_or, decide_eq_true_eq] at hB
      refine ⟨fun h0 => (by rw [hB.1.1] at h0; cases h0), fun j hj => ?_⟩
      rw [hB.1.1] at hj
      exact hk j hj
/-- **THE REGION, BY A PLAN THAT BRANCHES**; the class may be narrowed on the way. -/
theorem wp_region_treeN {id : Nat} {a : Act} {w : World} {l : List Oper} {Q : Exit → Act → World → Prop} (C : World → Prop) (t : PlanT) (hm : P.follows .mixedOrders = true)
    (hB : (Region.noSelect l.toArray && Region.treeB .any l.toArray [] t true l.toArray.size (Array.replicate l.toArray.size false)) = true)
    (hC : C w.drew) (h : wpTreeN P l.toArray [] (tidy Q) t C a w.drew) : (Code.region id l.toArray true).wp P Q a w := by
  simp only [Bool.and_eq_true] at hB
  refine wp_mono (Q := tidy Q) ?_ (tidy_le Q)
  refine wp_region_any hm ?_
  exact wpAny_of_C _ _ _ _ ((anyC_of_treeN hB.1 (fun _ _ _ _ _ q => q.elim) t C _ _ a w.drew rfl hC h).1 hB.2)
theorem wpTreeN_take {w : World} (is : List Nat) (r : PlanT) : ∀ (a : Act), ((is.filterMap fun i => ops[i]?).all fun o => o.op.stillB) = true → (is.all fun i => decide (i < ops.size)) = true →
    C w → wpQuiet P ops C (fun a' => wpTreeN P ops Z Q r C a' w) (is.filterMap fun i => ops[i]?) a → wpTreeN P ops Z Q (PlanT.takes is r) C a w := by
  induction is with
  | nil => intro a _ _ _ h; exact h
  | cons i is ih =>
    intro a hs hlt hC h
    simp only [List.all_cons, Bool.and_eq_true, decide_eq_true_eq] at hlt
    have hi : ops[i]? = some ops[i] := Array.getElem?_eq_getElem hlt.1
    simp only [List.filterMap_cons, hi, List.all_cons, Bool.and_eq_true] at hs h
    have hq : qOp P ops C i (wpQuiet P ops C (fun a' => wpTreeN P ops Z Q r C a' w) (is.filterMap fun i => ops[i]?)) a := by unfold qOp; simp only [hi]; exact h
    obtain ⟨v, hy, hK⟩ := yieldsIn_of_qOp hi hq
    simp only [PlanT.takes, wpTreeN, hi]
    exact ⟨v, yieldsC_of hs.1 hy, fun _ => ih _ hs.2 hlt.2 hC hK⟩
/-- Operations that are taken first, read in a class of worlds. -/
theorem wpTreeN_takeL {l : List Oper} {w : World} (is : List Nat) (r : PlanT) (a : Act) (hs : ((is.filterMap fun i => l[i]?).all fun o => o.op.stillB) = true) (hlt : (is.all fun i => decide (i < l.length)) = true)
    (hC : C w) (h : wpQuiet P l.toArray C (fun a' => wpTreeN P l.toArray Z Q r C a' w) (is.filterMap fun i => l[i]?) a) : wpTreeN P l.toArray Z Q (PlanT.takes is r) C a w := by
  have e : (is.filterMap fun i => l.toArray[i]?) = is.filterMap fun i => l[i]? := by congr 1; funext i; exact List.getElem?_toArray ..
  exact wpTreeN_take is r a (by rw [e]; exact hs) (by simpa using hlt) hC (by rw [e]; exact h)
theorem wpTreeN_pure {l : List Oper} {w : World} (is : List Nat) (r : PlanT) : ∀ (a : Act), ((is.filterMap fun i => l[i]?).all fun o => o.op.stillB) = true → (is.all fun i => decide (i < l.length)) = true →
    wpQuiet P l.toArray (fun _ => True) (fun a' => wpTreeN P l.toArray Z Q r C a' w) (is.filterMap fun i => l[i]?) a → wpTreeN P l.toArray Z Q (PlanT.takes is r) C a w := by
  induction is with
  | nil => intro a _ _ h; exact h
  | cons i is ih =>
    intro a hs hlt h
    simp only [List.all_cons, Bool.and_eq_true, decide_eq_true_eq] at hlt
    have hi : l[i]? = some l[i] := List.getElem?_eq_getElem hlt.1
    have hi' : l.toArray[i]? = some l[i] := by rw [List.getElem?_toArray]; exact hi
    simp only [List.filterMap_cons, hi, List.all_cons, Bool.and_eq_true] at hs h
    have hq : qOp P l.toArray (fun _ => True) i (wpQuiet P l.toArray (fun _ => True) (fun a' => wpTreeN P l.toArray Z Q r C a' w) (is.filterMap fun i => l[i]?)) a := by unfold qOp; simp only [hi']; exact h
    obtain ⟨v, hy, hK⟩ := yieldsIn_of_qOp hi' hq
    have hy' := yieldsC_of hs.1 hy
    simp only [PlanT.takes, wpTreeN, hi']
    refine ⟨v, ?_, fun _ => ih _ hs.2 hlt.2 hK⟩
    rcases hy' with ⟨h1, h2⟩ | h1
    · exact .inl ⟨h1, fun w _ => h2 w trivial⟩
    · exact .inr h1
/-- What is asked behind an operation that came. -/
def TreeNQ (P : Program) (ops : Array Oper) (C : World → Prop) (Z : List Nat) (Q : Exit → Act → World → Prop) (i : Nat) (r : PlanT) : Exit → Act → World → Prop
  | .normal, a, w => (i ∈ Z ∧ wpTreeN P ops Z Q r C a w) ∨ ∃ C' : World → Prop, (∀ w, C' w → C w) ∧ C' w ∧ wpTreeN P ops Z Q r C' a w
  | e, a, w => Q e a w
theorem wpTreeN_opt {l : List Oper} {a : Act} {w : World} {i : Nat} {r m : PlanT} (o : Oper) (ho : l[i]? = some o) (h : wpList P l.toArray (TreeNQ P l.toArray C Z Q i r) [o] a w) (hm : wpTreeN P l.toArray Z Q m C a w) : wpTreeN P l.toArray Z Q (.opt i r m) C a w := by
  refine ⟨?_, hm⟩
  have ho' : l.toArray[i]? = some o := by rw [List.getElem?_toArray]; exact ho
  unfold wpOp
  simp only [ho']
  unfold wpList at h
  have hmono : ∀ {a : Act} {w : World}, o.wp P a w (wpList P l.toArray (TreeNQ P l.toArray C Z Q i r) []) (TreeNQ P l.toArray C Z Q i r) → o.wp P a w (fun a' w' => (i ∈ Z ∧ wpTreeN P l.toArray Z Q r C a' w') ∨ ∃ C' : World → Prop, (∀ w, C' w → C w) ∧ C' w' ∧ wpTreeN P l.toArray Z Q r C' a' w') Q := by
    intro a w h
    unfold Oper.wp at h ⊢
    generalize (execOp a.eval o).run P w = rr at *
    cases rr with
    | ok n w' =>
      cases n <;> simp only [Oper.upon] at h ⊢
      case value u => exact h
      case skip => exact h
      case defer d => exact h
      case enter f args =>
        refine Calls.mono h fun e w'' he => ?_
        cases e <;> exact he
      case row row args => exact Rows.mono h fun u w'' he => he
    | halt x w' => cases x <;> simp only [Oper.upon] at h ⊢; exact h
  split
  · rename_i hw
    rw [if_pos hw] at h
    rcases h with h | ⟨h1, h2⟩
    · exact .inl (hmono h)
    · exact .inr ⟨h1, h2⟩
  · rename_i hw
    rw [if_neg hw] at h
    exact h
/-- The only one that may come. -/
theorem wpTreeN_one {l : List Oper} {a : Act} {w : World} {i : Nat} {r : PlanT} (o : Oper) (ho : l[i]? = some o) (h : wpList P l.toArray (TreeNQ P l.toArray C Z Q i r) [o] a w) : wpTreeN P l.toArray Z Q (.opt i r .no) C a w :=
  wpTreeN_opt o ho h trivial
theorem wpTreeN_done {a : Act} {w : World} (h : Q .normal a w) : wpTreeN P ops Z (tidy Q) .done C a w := h
theorem TreeNQ.in_ {a : Act} {w : World} {i : Nat} {r : PlanT} (hC : C w) (h : wpTreeN P ops Z Q r C a w) : TreeNQ P ops C Z Q i r .normal a w := .inr ⟨C, fun _ h => h, hC, h⟩
/-- The class is narrowed. -/
theorem TreeNQ.nar {a : Act} {w : World} {i : Nat} {r : PlanT} (C' : World → Prop) (hCC : ∀ w, C' w → C w) (hC : C' w) (h : wpTreeN P ops Z Q r C' a w) : TreeNQ P ops C Z Q i r .normal a w := .inr ⟨C', hCC, hC, h⟩
end
end Go
