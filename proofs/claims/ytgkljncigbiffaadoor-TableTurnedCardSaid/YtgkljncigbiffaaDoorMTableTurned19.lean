/- The pairs of a table between two keys are gathered: the program's Between. Conditions: the grid is known; the blocks that are meant can be read. -/
import Derived.Test.YtgkljncigbiffaaDoorMTableTurned18
import Derived.Lib.ConvBytes
namespace Go.Proofs.YtgkljncigbiffaaDoor
open Go.RowKit
attribute [local go_sem] Oper.semAt_some
/-- Ahead of each item. -/
structure GBet (w2 : World) (S bf bt : Nat) (q : GPl) (A : Option Addr) (c : Nat) (K : Option Addr) (ck : Nat) (x : List RefT × List (List UInt8)) (l : List PairT) (v : Value) (rows sp : List Value) (W : World) : Prop where
  box : Blk W (S + 2) 41 #[v]
  pairs : PairsU W 0 v l rows sp
  low : ∀ y, v.ownBlock = some y → S ≤ y
  ix : Blk W (S + 3) 128 (indc A c K ck x)
  some_ : Blk W (S + 5) 133 #[.func (.func 62) #[] #[.pointer (some ⟨S + 1, 0, none⟩), .pointer (some ⟨S, 0, none⟩), .pointer (some ⟨bf, 0, none⟩)]]
  gp : Blk W (S + 4) 24 #[.pointer (some ⟨q.gg, 0, none⟩)]
  bel : Below w2.heap.size w2 W
  sz : w2.heap.size = S
  bq : Blk W (S + 1) 50 #[.func (.func 61) #[] #[.pointer (some ⟨bt, 0, none⟩)]]
  bx : Blk W S 128 (indc A c K ck x)
theorem GBet.keeps {w2 : World} {S bf bt : Nat} {q : GPl} {g : Grd} {d : Dsk} {A : Option Addr} {c : Nat} {K : Option Addr} {ck : Nat} {x : List RefT × List (List UInt8)} {l : List PairT} {v : Value} {rows sp : List Value} {W : World} (h : GBet w2 S bf bt q A c K ck x l v rows sp W) (hG : GridR w2 q g d none) (hI : IndexAt w2 A c K ck x) : PKeeps q g d (S + 3) (S + 5) (S + 4) A c K ck x 62 #[.pointer (some ⟨S + 1, 0, none⟩), .pointer (some ⟨S, 0, none⟩), .pointer (some ⟨bf, 0, none⟩)] W :=
  ⟨hG.below h.bel, h.ix, hI.below h.bel, h.some_, h.gp⟩
theorem GBet.keptW {w2 : World} {S bf bt : Nat} {q : GPl} {A : Option Addr} {c : Nat} {K : Option Addr} {ck : Nat} {x : List RefT × List (List UInt8)} {l : List PairT} {v : Value} {rows sp : List Value} {W W' : World} {B : Nat} (h : GBet w2 S bf bt q A c K ck x l v rows sp W) (k : Kept B W W') (hB : S ≤ B) : GBet w2 S bf bt q A c K ck x l v rows sp W' :=
  ⟨h.box.keptW k, h.pairs.keptW k, h.low, h.ix.keptW k, h.some_.keptW k, h.gp.keptW k, (Near.keptW (X := []) ⟨h.bel.os, h.bel.tape, h.bel.output, h.bel.size, fun j hj _ => h.bel.block j hj⟩ k (by rw [h.sz]; exact hB)).toBelow (by simp) (Nat.le_refl _), h.sz, h.bq.keptW k, h.bx.keptW k⟩
set_option maxRecDepth 100000 in
set_option maxHeartbeats 8000000 in
theorem tbetween_ok {w : World} {q : GPl} {g : Grd} {d : Dsk} (h : GridR w q g d none) (hlen : g.W.length ≤ 1099511627776) (r : RefT) (n : Int) (F L : Option Addr) (nf cf nl cl : Nat) (fr to : List UInt8) (A1 A2 : Option Addr) (c1 c2 : Nat) (hfb : Bytes w A1 fr) (htb : Bytes w A2 to) (hfl : fr.length ≤ 5000) (htl : to.length ≤ 5000) (ho : (topen g d none r).1 = 0) (Gr : Nat → List PairT) (hd : ∀ i, (h : i < (topen g d none r).2.1.1.length) → used (topen g d none r).2.1.2 fr to i = true → tdata g d none (topen g d none r).2.1.1[i] = (0, Gr i, g)) (hN : (titems (used (topen g d none r).2.1.2 fr to) Gr (topen g d none r).2.1.1.length).length ≤ 100000) :
    Calls Tryd.prog 13 #[.pointer (some ⟨q.gg, 0, none⟩), .agg (runv r n F L nf cf nl cl), .slice A1 fr.length c1, .slice A2 to.length c2] w fun e w' => ∃ (v : Value) (rows sp : List Value), e = .returned (.tuple #[v, .int .i64 0]) ∧ PairsU w' 0 v ((titems (used (topen g d none r).2.1.2 fr to) Gr (topen g d none r).2.1.1.length).filter (inside fr to)) rows sp ∧ Below w.heap.size w w' := by
  have hb1 := ((((((Below.refl w.heap.size w).alloc (Nat.le_refl _) (.cells (runv r n F L nf cf nl cl) 35)).alloc (by simp) (.cells #[.slice A1 fr.length c1] 22)).alloc (by simp; omega) (.cells #[.slice A2 to.length c2] 22)).alloc (by simp; omega) (.cells #[.slice none 0 0] 41)).alloc (by simp; omega) (.cells #[.int .i64 0] 36))
  have hg3 := (((((Blk.new w 35 (runv r n F L nf cf nl cl)).alloc (.cells #[.slice A1 fr.length c1] 22)).alloc (.cells #[.slice A2 to.length c2] 22)).alloc (.cells #[.slice none 0 0] 41)).alloc (.cells #[.int .i64 0] 36))
  have hgf := ((((Blk.new' (w.alloc (.cells (runv r n F L nf cf nl cl) 35)) 22 #[.slice A1 fr.length c1] (n := w.heap.size + 1) (by simp)).alloc (.cells #[.slice A2 to.length c2] 22)).alloc (.cells #[.slice none 0 0] 41)).alloc (.cells #[.int .i64 0] 36))
  have hgt := (((Blk.new' ((w.alloc (.cells (runv r n F L nf cf nl cl) 35)).alloc (.cells #[.slice A1 fr.length c1] 22)) 22 #[.slice A2 to.length c2] (n := w.heap.size + 2) (by simp)).alloc (.cells #[.slice none 0 0] 41)).alloc (.cells #[.int .i64 0] 36))
  have hg4 := ((Blk.new' (((w.alloc (.cells (runv r n F L nf cf nl cl) 35)).alloc (.cells #[.slice A1 fr.length c1] 22)).alloc (.cells #[.slice A2 to.length c2] 22)) 41 #[.slice none 0 0] (n := w.heap.size + 3) (by simp)).alloc (.cells #[.int .i64 0] 36))
  have hg5 := (Blk.new' ((((w.alloc (.cells (runv r n F L nf cf nl cl) 35)).alloc (.cells #[.slice A1 fr.length c1] 22)).alloc (.cells #[.slice A2 to.length c2] 22)).alloc (.cells #[.slice none 0 0] 41)) 36 #[.int .i64 0] (n := w.heap.size + 4) (by simp))
  have hop := topen_any (h.below hb1) hlen r n F L nf cf nl cl
  have hz0 := topen_zero ho
  have H0 := Lib.hid (And.intro h (And.intro hb1 (And.intro hg4 (And.intro hg5 (And.intro hlen (And.intro hz0 hd))))))
  have HA := Lib.hid (And.intro hgf (And.intro hgt (And.intro (Bytes.below hfb hb1) (And.intro (Bytes.below htb hb1) (And.intro hfl htl)))))
  clear h hb1 hg4 hg5 hlen hd hgf hgt hfb htb hfl htl
  unfold runv at H0 hg3 hop HA ⊢
  refine callsIn_wide (n := 3).1 ?_
  refine callsIn_of_wp_marks Tryd.func13 rfl trivial ?_ rfl
  simp only [Tryd.ntmps13, List.size_toArray, List.length_cons, List.length_nil, Nat.reduceAdd, Nat.reduceSub, Array.replicate_succ, Array.replicate_zero, List.push_toArray, List.append_toArray, List.nil_append, List.cons_append]
  refine wpIn_wide.2 ?_
  go_wp2_with (first
    | ((with_reducible show wpList _ _ _ ((⟨some 19, _, _, _, _, _⟩ : Oper) :: _) _ _); refine wpList_load_blk (o := ⟨some 19, _, _, _, _, _⟩) (hg3) (by rfl) _ _ (by rfl) (by rfl) _ Tryd.underlying35 (by rfl) (sizeRun) (by rfl) ?_)
    | fail)
  refine hop.mono ?_
  rintro e w2 ⟨A, c, K, ck, rfl, hI, hL⟩
  rw [ho]
  have hb2 := hL.2 (by rw [ho]; rfl)
  obtain ⟨x, hx⟩ : ∃ x, x = (topen g d none r).2.1 := ⟨_, rfl⟩
  rw [← hx] at hI
  have hxl : (topen g d none r).2.1 = x := hx.symm
  have hG2 := H0.out.1.below (H0.out.2.1.trans (hb2.mono H0.out.2.1.size))
  have hix := (Blk.new w2 128 #[.slice A x.1.length c, .slice K x.2.length ck])
  have H2 := Lib.hid (And.intro hI (And.intro (H0.out.2.1.trans (hb2.mono H0.out.2.1.size)) (And.intro hG2 (And.intro (H0.out.2.2.1.below hb2 H0.out.2.2.1.lt) (And.intro (H0.out.2.2.2.1.below hb2 H0.out.2.2.2.1.lt) hxl)))))
  have HA2 := Lib.hid (And.intro (HA.out.1.below hb2 HA.out.1.lt) (And.intro (HA.out.2.1.below hb2 HA.out.2.1.lt) (And.intro (Bytes.below HA.out.2.2.1 hb2) (And.intro (Bytes.below HA.out.2.2.2.1 hb2) HA.out.2.2.2.2))))
  rw [← hx]
  unfold indc
  clear hop hg3 hI hL hb2 hG2 hx hxl HA
  have hixq := (((Blk.new w2 128 #[.slice A x.1.length c, .slice K x.2.length ck]).alloc (.cells #[.func (.func 61) #[] #[.pointer (some ⟨w.heap.size + 2, 0, none⟩)]] 50)).alloc (.cells #[.slice none 0 0] 41))
  clear hix
  go_wp2_with (first
    | ((with_reducible show wpList _ _ _ ((⟨some 28, _, _, _, _, _⟩ : Oper) :: _) _ _); refine wpList_load_blk (o := ⟨some 28, _, _, _, _, _⟩) (hixq) (by rfl) _ _ (by rfl) (by rfl) _ Tryd.underlying128 (by rfl) (sizeIx) (by rfl) ?_)
    | fail)
  refine (pairs_any A K x.1.length c x.2.length ck q.gg 62 #[.pointer (some ⟨w2.heap.size + 1, 0, none⟩), .pointer (some ⟨w2.heap.size, 0, none⟩), .pointer (some ⟨w.heap.size + 1, 0, none⟩)] _).mono ?_
  rintro e w6 ⟨rfl, rfl⟩
  have eb : (((w2.alloc (.cells #[.slice A x.1.length c, .slice K x.2.length ck] 128)).alloc (.cells #[.func (.func 61) #[] #[.pointer (some ⟨w.heap.size + 2, 0, none⟩)]] 50)).alloc (.cells #[.slice none 0 0] 41)).heap.size = w2.heap.size + 3 := by simp
  have h6b : Below w2.heap.size w2 ((((((w2.alloc (.cells #[.slice A x.1.length c, .slice K x.2.length ck] 128)).alloc (.cells #[.func (.func 61) #[] #[.pointer (some ⟨w.heap.size + 2, 0, none⟩)]] 50)).alloc (.cells #[.slice none 0 0] 41)).alloc (.cells #[.slice A x.1.length c, .slice K x.2.length ck] 128)).alloc (.cells #[.pointer (some ⟨q.gg, 0, none⟩)] 24)).alloc (.cells #[.func (.func 62) #[] #[.pointer (some ⟨w2.heap.size + 1, 0, none⟩), .pointer (some ⟨w2.heap.size, 0, none⟩), .pointer (some ⟨w.heap.size + 1, 0, none⟩)]] 133)) := (((((((Below.refl w2.heap.size w2).alloc (Nat.le_refl _) (.cells #[.slice A x.1.length c, .slice K x.2.length ck] 128)).alloc (by simp) (.cells #[.func (.func 61) #[] #[.pointer (some ⟨w.heap.size + 2, 0, none⟩)]] 50)).alloc (by simp; omega) (.cells #[.slice none 0 0] 41)).alloc (by simp; omega) (.cells #[.slice A x.1.length c, .slice K x.2.length ck] 128)).alloc (by simp; omega) (.cells #[.pointer (some ⟨q.gg, 0, none⟩)] 24)).alloc (by simp; omega) (.cells #[.func (.func 62) #[] #[.pointer (some ⟨w2.heap.size + 1, 0, none⟩), .pointer (some ⟨w2.heap.size, 0, none⟩), .pointer (some ⟨w.heap.size + 1, 0, none⟩)]] 133))
  have hS : GBet w2 w2.heap.size (w.heap.size + 1) (w.heap.size + 2) q A c K ck x [] (.slice none 0 0) [] [] ((((((w2.alloc (.cells #[.slice A x.1.length c, .slice K x.2.length ck] 128)).alloc (.cells #[.func (.func 61) #[] #[.pointer (some ⟨w.heap.size + 2, 0, none⟩)]] 50)).alloc (.cells #[.slice none 0 0] 41)).alloc (.cells #[.slice A x.1.length c, .slice K x.2.length ck] 128)).alloc (.cells #[.pointer (some ⟨q.gg, 0, none⟩)] 24)).alloc (.cells #[.func (.func 62) #[] #[.pointer (some ⟨w2.heap.size + 1, 0, none⟩), .pointer (some ⟨w2.heap.size, 0, none⟩), .pointer (some ⟨w.heap.size + 1, 0, none⟩)]] 133)) :=
    ⟨((((Blk.new' ((w2.alloc (.cells #[.slice A x.1.length c, .slice K x.2.length ck] 128)).alloc (.cells #[.func (.func 61) #[] #[.pointer (some ⟨w.heap.size + 2, 0, none⟩)]] 50)) 41 #[.slice none 0 0] (n := w2.heap.size + 2) (by simp)).alloc (.cells #[.slice A x.1.length c, .slice K x.2.length ck] 128)).alloc (.cells #[.pointer (some ⟨q.gg, 0, none⟩)] 24)).alloc (.cells #[.func (.func 62) #[] #[.pointer (some ⟨w2.heap.size + 1, 0, none⟩), .pointer (some ⟨w2.heap.size, 0, none⟩), .pointer (some ⟨w.heap.size + 1, 0, none⟩)]] 133)), PairsU.nil _ _, fun y hy => (by cases hy), (((Blk.new' (((w2.alloc (.cells #[.slice A x.1.length c, .slice K x.2.length ck] 128)).alloc (.cells #[.func (.func 61) #[] #[.pointer (some ⟨w.heap.size + 2, 0, none⟩)]] 50)).alloc (.cells #[.slice none 0 0] 41)) 128 #[.slice A x.1.length c, .slice K x.2.length ck] (n := w2.heap.size + 3) (by simp)).alloc (.cells #[.pointer (some ⟨q.gg, 0, none⟩)] 24)).alloc (.cells #[.func (.func 62) #[] #[.pointer (some ⟨w2.heap.size + 1, 0, none⟩), .pointer (some ⟨w2.heap.size, 0, none⟩), .pointer (some ⟨w.heap.size + 1, 0, none⟩)]] 133)), (Blk.new' (((((w2.alloc (.cells #[.slice A x.1.length c, .slice K x.2.length ck] 128)).alloc (.cells #[.func (.func 61) #[] #[.pointer (some ⟨w.heap.size + 2, 0, none⟩)]] 50)).alloc (.cells #[.slice none 0 0] 41)).alloc (.cells #[.slice A x.1.length c, .slice K x.2.length ck] 128)).alloc (.cells #[.pointer (some ⟨q.gg, 0, none⟩)] 24)) 133 #[.func (.func 62) #[] #[.pointer (some ⟨w2.heap.size + 1, 0, none⟩), .pointer (some ⟨w2.heap.size, 0, none⟩), .pointer (some ⟨w.heap.size + 1, 0, none⟩)]] (n := w2.heap.size + 5) (by simp)), ((Blk.new' ((((w2.alloc (.cells #[.slice A x.1.length c, .slice K x.2.length ck] 128)).alloc (.cells #[.func (.func 61) #[] #[.pointer (some ⟨w.heap.size + 2, 0, none⟩)]] 50)).alloc (.cells #[.slice none 0 0] 41)).alloc (.cells #[.slice A x.1.length c, .slice K x.2.length ck] 128)) 24 #[.pointer (some ⟨q.gg, 0, none⟩)] (n := w2.heap.size + 4) (by simp)).alloc (.cells #[.func (.func 62) #[] #[.pointer (some ⟨w2.heap.size + 1, 0, none⟩), .pointer (some ⟨w2.heap.size, 0, none⟩), .pointer (some ⟨w.heap.size + 1, 0, none⟩)]] 133)), h6b, rfl, (((((Blk.new' (w2.alloc (.cells #[.slice A x.1.length c, .slice K x.2.length ck] 128)) 50 #[.func (.func 61) #[] #[.pointer (some ⟨w.heap.size + 2, 0, none⟩)]] (n := w2.heap.size + 1) (by simp)).alloc (.cells #[.slice none 0 0] 41)).alloc (.cells #[.slice A x.1.length c, .slice K x.2.length ck] 128)).alloc (.cells #[.pointer (some ⟨q.gg, 0, none⟩)] 24)).alloc (.cells #[.func (.func 62) #[] #[.pointer (some ⟨w2.heap.size + 1, 0, none⟩), .pointer (some ⟨w2.heap.size, 0, none⟩), .pointer (some ⟨w.heap.size + 1, 0, none⟩)]] 133)), ((((((Blk.new w2 128 #[.slice A x.1.length c, .slice K x.2.length ck]).alloc (.cells #[.func (.func 61) #[] #[.pointer (some ⟨w.heap.size + 2, 0, none⟩)]] 50)).alloc (.cells #[.slice none 0 0] 41)).alloc (.cells #[.slice A x.1.length c, .slice K x.2.length ck] 128)).alloc (.cells #[.pointer (some ⟨q.gg, 0, none⟩)] 24)).alloc (.cells #[.func (.func 62) #[] #[.pointer (some ⟨w2.heap.size + 1, 0, none⟩), .pointer (some ⟨w2.heap.size, 0, none⟩), .pointer (some ⟨w.heap.size + 1, 0, none⟩)]] 133))⟩
  have hz6 : ((((((w2.alloc (.cells #[.slice A x.1.length c, .slice K x.2.length ck] 128)).alloc (.cells #[.func (.func 61) #[] #[.pointer (some ⟨w.heap.size + 2, 0, none⟩)]] 50)).alloc (.cells #[.slice none 0 0] 41)).alloc (.cells #[.slice A x.1.length c, .slice K x.2.length ck] 128)).alloc (.cells #[.pointer (some ⟨q.gg, 0, none⟩)] 24)).alloc (.cells #[.func (.func 62) #[] #[.pointer (some ⟨w2.heap.size + 1, 0, none⟩), .pointer (some ⟨w2.heap.size, 0, none⟩), .pointer (some ⟨w.heap.size + 1, 0, none⟩)]] 133)).heap.size = w2.heap.size + 6 := by simp
  rw [eb]
  simp only [show w2.heap.size + 3 + 2 = w2.heap.size + 5 from rfl, show w2.heap.size + 3 + 1 = w2.heap.size + 4 from rfl]
  have hql : q.p.gm < w2.heap.size ∧ q.gi < w2.heap.size := ⟨H2.out.2.2.1.lt _ (GPl.mem.2 (.inr (.inr (.inr (.inr (by simp [Pl.all])))))), H2.out.2.2.1.lt _ (GPl.mem.2 (.inr (.inr (.inl rfl))))⟩
  generalize ((((((w2.alloc (.cells #[.slice A x.1.length c, .slice K x.2.length ck] 128)).alloc (.cells #[.func (.func 61) #[] #[.pointer (some ⟨w.heap.size + 2, 0, none⟩)]] 50)).alloc (.cells #[.slice none 0 0] 41)).alloc (.cells #[.slice A x.1.length c, .slice K x.2.length ck] 128)).alloc (.cells #[.pointer (some ⟨q.gg, 0, none⟩)] 24)).alloc (.cells #[.func (.func 62) #[] #[.pointer (some ⟨w2.heap.size + 1, 0, none⟩), .pointer (some ⟨w2.heap.size, 0, none⟩), .pointer (some ⟨w.heap.size + 1, 0, none⟩)]] 133)) = w6 at hS hz6 ⊢
  have hws : w.heap.size + 5 ≤ w2.heap.size := by have := H2.out.2.2.2.2.1.lt; omega
  generalize w2.heap.size = S at hS hz6 hql hws ⊢
  have HWS := Lib.hid hws
  have H6 := Lib.hid (And.intro hS (And.intro hz6 hql))
  clear hS hz6 eb h6b hixq hql hws
  go_wp2_with fail
  have HX := Lib.hid (show titems (used (topen g d none r).2.1.2 fr to) Gr (topen g d none r).2.1.1.length = titems (used x.2 fr to) Gr x.1.length by rw [H2.out.2.2.2.2.2])
  refine wpIn_wide (n := 3).1 ?_
  refine wpIn_rangeRowV rfl (by omega) (gf := 107) (lb := #[.pointer (some ⟨S + 3, 0, none⟩), .pointer (some ⟨S + 5, 0, none⟩), .pointer (some ⟨S + 4, 0, none⟩)]) rfl trivial (enters_of Tryd.func107 (by kernel_rfl) rfl)
    (PIt (titems (used x.2 fr to) Gr x.1.length)) (fun k W vals hE => by obtain ⟨p, kv, vv, -, rfl, -⟩ := hE; rfl) (titems (used x.2 fr to) Gr x.1.length).length (fun k X W => ∃ v rows sp, GBet w2 S (w.heap.size + 1) (w.heap.size + 2) q A c K ck x (((titems (used x.2 fr to) Gr x.1.length).take k).filter (inside fr to)) v rows sp W ∧ X = v.ownBlock.toList) (fun _ _ => False)
    (fun k X W h => ?hIX) (fun k X W W' h kw => ?hI) (fun _ _ _ h _ => h) ⟨.slice none 0 0, [], [], H6.out.1, rfl⟩ ?row ?round ?done (fun _ _ _ _ h => h.elim)
  case hIX =>
    obtain ⟨v, rows, sp, h1, rfl⟩ := h
    exact fun y hy => (OwnsC.lt h1.pairs.own y (Option.mem_toList.1 hy)).2
  case hI =>
    obtain ⟨v, rows, sp, h1, h2⟩ := h
    exact ⟨v, rows, sp, h1.keptW kw (by rw [H6.out.2.1]; omega), h2⟩
  case row =>
    have hxl := H2.out.2.2.2.2.2
    have hz := H0.out.2.2.2.2.2.1
    rw [hxl] at hz
    refine pairs_row 2 (by omega) (q := q) (d := d) (A := A) (c := c) (K := K) (ck := ck) (sb := #[.pointer (some ⟨S + 1, 0, none⟩), .pointer (some ⟨S, 0, none⟩), .pointer (some ⟨w.heap.size + 1, 0, none⟩)]) H0.out.2.2.2.2.1 (by omega) (enters_of Tryd.func62 (by kernel_rfl) rfl) (used x.2 fr to) Gr (fun W => Below w2.heap.size w2 W ∧ Blk W (S + 1) 50 #[.func (.func 61) #[] #[.pointer (some ⟨w.heap.size + 2, 0, none⟩)]] ∧ Blk W S 128 (indc A c K ck x)) (fun i W hi hPK hE => ?_) (fun i h hu => ?_) _ (fun k X W h => ?_)
    · have hsz := H6.out.1.sz
      exact bets_any i (w.heap.size + 2) S (w.heap.size + 1) (S + 1) A K A1 A2 x.1.length c ck c1 c2 x.2 fr to W (by omega) (by omega) hE.2.1 hE.2.2 (HA2.out.1.below hE.1 HA2.out.1.lt) (HA2.out.2.1.below hE.1 HA2.out.2.1.lt) (Bytes.below HA2.out.2.2.1 hE.1) (Bytes.below HA2.out.2.2.2.1 hE.1) HA2.out.2.2.2.2.2 hPK.at_.keys
    · have := H0.out.2.2.2.2.2.2 i (by rw [hxl]; exact h) (by rw [hxl]; exact hu)
      simpa only [hxl] using this
    · obtain ⟨v, rows, sp, h1, -⟩ := h
      exact ⟨h1.keeps H2.out.2.2.1 H2.out.1, h1.bel, h1.bq, h1.bx⟩
  case round =>
    intro l k X W vals hl1 hl2 hI hk hE
    obtain ⟨v, rows, sp, h1, rfl⟩ := hI
    obtain ⟨p, kv, vv, hit, rfl, hPO⟩ := hE
    obtain ⟨A6, c6, B6, e6, rfl, rfl, -⟩ := hPO.at_
    have hz := zeroPairrun
    have HI := Lib.hid (And.intro h1 (And.intro hit hPO))
    clear h1 hit hPO hk
    have hkN : k ≤ 100000 := by have := (List.getElem?_eq_some_iff.1 HI.out.2.1).1; rw [HX.out] at hN; omega
    have hb0 := (Below.refl W.heap.size W).alloc (Nat.le_refl _) (.cells #[.slice A6 p.1.length c6, .slice B6 p.2.1.length e6, .bool p.2.2.1] 40)
    have hg0 := Blk.new W 40 #[.slice A6 p.1.length c6, .slice B6 p.2.1.length e6, .bool p.2.2.1]
    have hB6 : S ≤ w6.heap.size := by have := H6.out.2.1; omega
    have hI0 := HI.out.1.keptW (B := w6.heap.size) (Kept.below hb0) hB6
    have hP0 := HI.out.2.2.below hb0
    have H0' := Lib.hid (And.intro hb0 (And.intro hg0 (And.intro hI0 (And.intro hP0 hB6))))
    have HIT := Lib.hid HI.out.2.1
    have HSZ := Lib.hid (show S + 6 ≤ W.heap.size by have := H6.out.2.1; omega)
    clear hb0 hg0 hI0 hP0 hB6 HI
    gi_wp2_with fail
    refine ⟨H0'.out.1, fun W2 hW2 => ?_⟩
    have hI2 := H0'.out.2.2.1.keptW hW2 H0'.out.2.2.2.2
    have hg2 := H0'.out.2.1.keptW hW2
    have hP2 := H0'.out.2.2.2.1.keptW hW2
    have hsW := hW2.size
    clear hW2
    obtain ⟨gx, hgx⟩ : ∃ gx, gx = W.heap.size := ⟨_, rfl⟩
    rw [← hgx] at hg2 HSZ ⊢
    have hgxs : gx < W2.heap.size := hg2.lt
    -- is it behind the first key?
    have hsz := H6.out.1.sz
    have hbf := HA2.out.1.below hI2.bel HA2.out.1.lt
    have hbt := HA2.out.2.1.below hI2.bel HA2.out.2.1.lt
    have hfb := Bytes.below HA2.out.2.2.1 hI2.bel
    have htb := Bytes.below HA2.out.2.2.2.1 hI2.bel
    obtain ⟨sk0, sv0, ok0, ov0⟩ := hP2
    obtain ⟨A7, c7, e7, -, -, hkb⟩ := OwnB.open_ ok0
    injection e7 with e71 e72 e73
    subst e71 e73
    have d1 := hg2.at_ 0 (v := .slice A6 p.1.length c6) rfl
    have d2 := hbf.at_ 0 (v := .slice A1 fr.length c1) rfl
    have d3 := hI2.bq.at_ 0 (v := .func (.func 61) #[] #[.pointer (some ⟨w.heap.size + 2, 0, none⟩)]) rfl
    have HC := Lib.hid (And.intro (compare_any A6 A1 p.1.length fr.length c6 c1 p.1 fr rfl rfl W2 hkb hfb) (betf_any (w.heap.size + 2) A6 A2 c6 c2 p.1 to W2 hbt hkb htb HA2.out.2.2.2.2.2))
    have H1 := Lib.hid (And.intro hI2 (And.intro (show PairO W2 0 (.slice A6 p.1.length c6) (.slice B6 p.2.1.length e6) p from ⟨sk0, sv0, ok0, ov0⟩) hg2))
    have hins : inside fr to p = (!decide (p.1 < fr) && pbelow to p.1) := rfl
    have hstep : ((titems (used x.2 fr to) Gr x.1.length).take (k + 1)).filter (inside fr to) = ((titems (used x.2 fr to) Gr x.1.length).take k).filter (inside fr to) ++ (if inside fr to p = true then [p] else []) := by
      obtain ⟨hk1, hk2⟩ := List.getElem?_eq_some_iff.1 HIT.out
      rw [List.take_succ_eq_append_getElem hk1, hk2, List.filter_append]
      congr 1
      by_cases hbi : inside fr to p = true
      · rw [if_pos hbi]; simp [hbi]
      · rw [if_neg hbi]; simp [hbi]
    have HST := Lib.hid (And.intro hins hstep)
    have hleave : ∀ W9, Below W2.heap.size W2 W9 → inside fr to p = false → Young w6.heap.size v.ownBlock.toList W2 W9 ∧ ∃ X', (∃ v' rows' sp', GBet w2 S (w.heap.size + 1) (w.heap.size + 2) q A c K ck x (((titems (used x.2 fr to) Gr x.1.length).take (k + 1)).filter (inside fr to)) v' rows' sp' W9 ∧ X' = v'.ownBlock.toList) ∧ Grown v.ownBlock.toList X' W2 := fun W9 hb9 hf => by
      refine ⟨Young.below hb9, _, ⟨v, rows, sp, ?_, rfl⟩, Grown.refl _ _⟩
      rw [HST.out.2, hf, if_neg (by simp), List.append_nil]
      exact H1.out.1.keptW (B := S) (Kept.below hb9) (Nat.le_refl _)
    have HL := Lib.hid hleave
    clear hI2 hg2 hbf hbt hfb htb ok0 ov0 hkb hins hstep hleave hgx hsW
    gi_wp2_with fail
    refine ⟨trivial, ?_⟩
    refine (calls_round HC.out.1).mono ?_
    rintro e W3 ⟨rfl, hw3⟩
    subst hw3
    cases hb : decide (p.1 < fr)
    case true =>
      have kb : decide (Lib.compareBytes p.1 fr ≥ 0) = false := by rw [cmp_ge0, hb]; rfl
      have HF := Lib.hid (HL.out W3 (Below.refl _ _) (by rw [HST.out.1, hb]; rfl))
      clear d1 d2 d3 hb
      gi_wp2_with fail
      refine ⟨by simp, ?_⟩
      gi_wp2_with fail
      exact HF.out
    have kb : decide (Lib.compareBytes p.1 fr ≥ 0) = true := by rw [cmp_ge0, hb]; rfl
    gi_wp2_with fail
    refine ⟨trivial, ?_⟩
    refine (calls_round HC.out.2).mono ?_
    rintro e W4 ⟨rfl, hb4⟩
    cases hq : pbelow to p.1
    case false =>
      have HF := Lib.hid (HL.out W4 hb4 (by rw [HST.out.1, hq]; simp))
      clear d1 d2 d3 hb hb4 hq kb
      gi_wp2_with fail
      exact HF.out
    have hI4 := H1.out.1.keptW (B := S) (Kept.below hb4) (Nat.le_refl _)
    have hP4 := H1.out.2.1.below hb4
    have hg2 := H1.out.2.2.below hb4 H1.out.2.2.lt
    have HY4 := Lib.hid (And.intro (Young.below hb4 : Young w6.heap.size v.ownBlock.toList W3 W4) hb4.size)
    have HIN := Lib.hid (show inside fr to p = true by rw [HST.out.1, hb, hq]; rfl)
    obtain ⟨A5, c5, rfl, -, -, -, -⟩ := OwnsC.reads hI4.pairs.own
    obtain ⟨nk, hnk⟩ : ∃ nk, nk = (((titems (used x.2 fr to) Gr x.1.length).take k).filter (inside fr to)).length := ⟨_, rfl⟩
    have hnk9 : nk ≤ 100000 := by rw [hnk]; exact Nat.le_trans (List.length_filter_le _ _) (by rw [List.length_take]; omega)
    have hbl := (Below.refl W4.heap.size W4).alloc (Nat.le_refl _) (.cells #[.slice A6 p.1.length c6, .slice B6 p.2.1.length e6, .bool p.2.2.1] 40)
    have hra : Reads (W4.alloc (.cells #[.slice A6 p.1.length c6, .slice B6 p.2.1.length e6, .bool p.2.2.1] 40)) (some ⟨W4.heap.size, 0, none⟩) [.slice A6 p.1.length c6, .slice B6 p.2.1.length e6, .bool p.2.2.1] := reads_new W4 40 [.slice A6 p.1.length c6, .slice B6 p.2.1.length e6, .bool p.2.2.1]
    have hoa := OwnsC.ownBelow hI4.pairs.own hbl
    rw [← hnk] at hoa
    have d8 := hI4.box.at_ 0 (v := .slice A5 (((titems (used x.2 fr to) Gr x.1.length).take k).filter (inside fr to)).length c5) rfl
    rw [← hnk] at d8
    have g1 := hg2.at_ 0 (v := .slice A6 p.1.length c6) rfl
    have g2 := hg2.at_ 1 (v := .slice B6 p.2.1.length e6) rfl
    have g3 := hg2.at_ 2 (v := .bool p.2.2.1) rfl
    have H3 := Lib.hid (And.intro hI4 (And.intro hP4 (And.intro hbl (And.intro hra (And.intro hoa hnk)))))
    clear hI4 hP4 hbl hra hoa hnk d1 d2 d3 hb hb4 hq kb hgxs
    gi_wp2_with (first
      | ((with_reducible show wpListIn _ _ _ _ _ ((⟨some 51, _, _, _, _, _⟩ : Oper) :: _) _ _); refine wpListIn_round (by rfl) ?_; refine wpList_append_vals (o := ⟨some 51, _, _, _, _, _⟩) (by rfl) _ _ _ (by rfl) 0 40 (.agg #[.slice none 0 0, .slice none 0 0, .bool false]) 3 56 Tryd.underlying41 infoPair (by rfl) (by omega) (.slice A5 nk c5) nk rows sp (by rfl) H3.out.2.2.2.2.1 (some ⟨W4.heap.size, 0, none⟩) 1 1 [.slice A6 p.1.length c6, .slice B6 p.2.1.length e6, .bool p.2.2.1] (by rfl) (by rfl) H3.out.2.2.2.1 (by simp [Value.oneCell']) (by simp only [maxLen]; omega) (by omega) (Nat.zero_le _) ?_; intro v4 W8 sp4 ho4 hg4 hv4 hn4; refine stopped ?_)
      | fail)
    refine Stopped.mk ?_
    have hW3 := H3.out.1.bel.trans (H3.out.2.2.1.mono H3.out.1.bel.size)
    have hn8 : Near (Value.slice A5 nk c5).ownBlock.toList (W4.alloc (.cells #[.slice A6 p.1.length c6, .slice B6 p.2.1.length e6, .bool p.2.2.1] 40)) W8 := Near.grown hg4 (fun y hy => Option.mem_toList.2 hy)
    have hSS := H3.out.1.sz
    have hlw := H3.out.1.low
    rw [← H3.out.2.2.2.2.2] at hlw
    have hb8 : Below w2.heap.size w2 W8 := hW3.trans (hn8.toBelow (fun y hy => by rw [hSS]; exact hlw y (Option.mem_toList.1 hy)) hW3.size)
    have hpl := H3.out.1.pairs.below H3.out.2.2.1
    have hown := hpl.own
    rw [← H3.out.2.2.2.2.2] at hown
    have hoff : ∀ y t cs, t ≠ 40 → Blk (W4.alloc (.cells #[.slice A6 p.1.length c6, .slice B6 p.2.1.length e6, .bool p.2.2.1] 40)) y t cs → y ∉ (Value.slice A5 nk c5).ownBlock.toList := fun y t cs ht hb hm => by
      obtain ⟨cs', hb'⟩ := ownBlk hown (Option.mem_toList.1 hm)
      exact hb.apart hb' ht rfl
    obtain ⟨sk, sv, ok1, ov1⟩ := H3.out.2.1.below H3.out.2.2.1
    have hadd := hpl.add ok1 ov1 (by rw [← H3.out.2.2.2.2.2]; exact hn8) (by rw [← H3.out.2.2.2.2.2]; exact ho4)
    have hbx := (H3.out.1.box.below H3.out.2.2.1 H3.out.1.box.lt).near hn8 (hoff _ _ _ (by decide) (H3.out.1.box.below H3.out.2.2.1 H3.out.1.box.lt))
    have hxi := (H3.out.1.ix.below H3.out.2.2.1 H3.out.1.ix.lt).near hn8 (hoff _ _ _ (by decide) (H3.out.1.ix.below H3.out.2.2.1 H3.out.1.ix.lt))
    have hxs := (H3.out.1.some_.below H3.out.2.2.1 H3.out.1.some_.lt).near hn8 (hoff _ _ _ (by decide) (H3.out.1.some_.below H3.out.2.2.1 H3.out.1.some_.lt))
    have hxg := (H3.out.1.gp.below H3.out.2.2.1 H3.out.1.gp.lt).near hn8 (hoff _ _ _ (by decide) (H3.out.1.gp.below H3.out.2.2.1 H3.out.1.gp.lt))
    have hxq := (H3.out.1.bq.below H3.out.2.2.1 H3.out.1.bq.lt).near hn8 (hoff _ _ _ (by decide) (H3.out.1.bq.below H3.out.2.2.1 H3.out.1.bq.lt))
    have hxx := (H3.out.1.bx.below H3.out.2.2.1 H3.out.1.bx.lt).near hn8 (hoff _ _ _ (by decide) (H3.out.1.bx.below H3.out.2.2.1 H3.out.1.bx.lt))
    have hlow4 : ∀ y, v4.ownBlock = some y → S ≤ y ∧ (y ∈ (Value.slice A5 nk c5).ownBlock.toList ∨ W4.heap.size ≤ y) := fun y hy => by
      rcases hv4 with e | e
      · rw [e] at hy; exact ⟨hlw y hy, .inl (Option.mem_toList.2 hy)⟩
      · rw [e] at hy; injection hy with hy
        have h1 := H3.out.2.2.1.size
        have h2 := H3.out.1.bel.size
        exact ⟨by omega, .inr (by omega)⟩
    obtain ⟨B4, c4, rfl, -, -, -, -⟩ := OwnsC.reads ho4
    have d9 := hbx.at_ 0 (v := .slice A5 (((titems (used x.2 fr to) Gr x.1.length).take k).filter (inside fr to)).length c5) rfl
    have f9 := hbx.frozen 0
    have u9 : Upd (S + 2) W8 (W8.setCell ⟨S + 2, 0, none⟩ (.slice B4 (nk + 1) c4)) := (Upd.refl _ _).set 0 _
    have hadd9 := hadd.near (Near.upd u9 (X := [S + 2]) (by simp)) (fun y hy hm => by
      obtain ⟨cs, hb⟩ := ownBlk hadd.own hy
      exact hb.apart hbx (by decide) (List.mem_singleton.1 hm)) (fun y cs hb hm => hb.apart hbx (by decide) (List.mem_singleton.1 hm))
    rw [show ((titems (used x.2 fr to) Gr x.1.length).take k).filter (inside fr to) ++ [p] = ((titems (used x.2 fr to) Gr x.1.length).take (k + 1)).filter (inside fr to) by rw [HST.out.2, if_pos HIN.out]] at hadd9
    have hG9 : GBet w2 S (w.heap.size + 1) (w.heap.size + 2) q A c K ck x (((titems (used x.2 fr to) Gr x.1.length).take (k + 1)).filter (inside fr to)) (.slice B4 (nk + 1) c4) (rows ++ [.slice A6 p.1.length c6, .slice B6 p.2.1.length e6, .bool p.2.2.1]) sp4 (W8.setCell ⟨S + 2, 0, none⟩ (.slice B4 (nk + 1) c4)) :=
      ⟨hbx.set_ 0 _, hadd9, fun y hy => (hlow4 y hy).1, hxi.upd u9 (by omega), hxs.upd u9 (by omega), hxg.upd u9 (by omega), hb8.setCell (by rw [hSS]; simp) _, hSS, hxq.upd u9 (by omega), hxx.upd u9 (by omega)⟩
    have hY9 : Young w6.heap.size (Value.slice A5 nk c5).ownBlock.toList W4 (W8.setCell ⟨S + 2, 0, none⟩ (.slice B4 (nk + 1) c4)) := ((Young.below H3.out.2.2.1).trans (Young.near hn8 (fun y hy => .inr hy))).trans (Young.near (Near.upd u9 (X := [S + 2]) (by simp)) (fun y hy => .inl (by rw [List.mem_singleton.1 hy, H6.out.2.1]; omega)))
    have hY0 := HY4.out.1
    rw [← H3.out.2.2.2.2.2] at hY0
    have H9 := Lib.hid (And.intro hG9 (And.intro (hY0.trans hY9) hlow4))
    clear ho4 hg4 hv4 hn4 hW3 hn8 hlw hb8 hpl hown hoff ok1 ov1 hadd hbx hxi hxs hxg hxq hxx hlow4 u9 hadd9 hG9 hY9 hY0 d8 g1 g2 g3 hg2
    refine ⟨rfl, ?_⟩
    gi_wp2_with fail
    obtain rfl := H3.out.2.2.2.2.2
    exact ⟨H9.out.2.1, _, ⟨_, _, _, H9.out.1, rfl⟩, fun y hy => (H9.out.2.2 y (Option.mem_toList.1 hy)).2.imp id fun h => Nat.le_trans HY4.out.2 h⟩
  case done =>
    intro D X W hD hI hK
    obtain ⟨v, rows, sp, h1, rfl⟩ := hI
    rw [List.take_length] at h1
    obtain ⟨lf, hlf⟩ : ∃ lf, lf = (titems (used x.2 fr to) Gr x.1.length).filter (inside fr to) := ⟨_, rfl⟩
    rw [← hlf] at h1
    obtain ⟨A5, c5, rfl, -, -, -, -⟩ := OwnsC.reads h1.pairs.own
    have d8 := h1.box.at_ 0 (v := .slice A5 lf.length c5) rfl
    have hr4 := H2.out.2.2.2.1.below h1.bel H2.out.2.2.2.1.lt
    have hr5 := H2.out.2.2.2.2.1.below h1.bel H2.out.2.2.2.2.1.lt
    have d4 := hr4.at_ 0 (v := .slice none 0 0) rfl
    have d5 := hr5.at_ 0 (v := .int .i64 0) rfl
    have f4 := hr4.frozen 0
    have f5 := hr5.frozen 0
    have HY := Lib.hid (And.intro h1 (And.intro hK hlf))
    have HR := Lib.hid (And.intro hr4 (And.intro hr5 (H2.out.2.1.trans (h1.bel.mono H2.out.2.1.size))))
    clear h1 hK hr4 hr5 hlf
    go_wp2_with fail
    have hDl : S ≤ D := by have := H6.out.2.1; omega
    have hws := HWS.out
    have u1 : Upd (w.heap.size + 3) W (W.setCell ⟨w.heap.size + 3, 0, none⟩ (.slice A5 lf.length c5)) := (Upd.refl _ _).set 0 _
    have hr4 := HR.out.1.set_ 0 (.slice A5 lf.length c5)
    have hr5 := HR.out.2.1.upd u1 (by omega)
    have hp1 := HY.out.1.pairs.near (Near.upd u1 (X := [w.heap.size + 3]) (by simp)) (fun y hy hm => by
      obtain ⟨cs, hb⟩ := ownBlk HY.out.1.pairs.own hy
      exact hb.apart HR.out.1 (by decide) (List.mem_singleton.1 hm)) (fun y cs hb hm => hb.apart HR.out.1 (by decide) (List.mem_singleton.1 hm))
    have hk1 := (u1.block D (by omega)).trans HY.out.2.1
    have hb1 := HR.out.2.2.setCell (p := ⟨w.heap.size + 3, 0, none⟩) (by simp) (.slice A5 lf.length c5)
    have H9 := Lib.hid (And.intro hr4 (And.intro hr5 (And.intro hp1 (And.intro hk1 hb1))))
    clear u1 hr4 hr5 hp1 hk1 hb1 d8 d4 d5 f4 f5
    generalize W.setCell ⟨w.heap.size + 3, 0, none⟩ (.slice A5 lf.length c5) = W9 at H9 ⊢
    have u2 : Upd (w.heap.size + 4) W9 (W9.setCell ⟨w.heap.size + 4, 0, none⟩ (.int .i64 0)) := (Upd.refl _ _).set 0 _
    have hr4 := H9.out.1.upd u2 (by omega)
    have hr5 := H9.out.2.1.set_ 0 (.int .i64 0)
    have hp2 := H9.out.2.2.1.near (Near.upd u2 (X := [w.heap.size + 4]) (by simp)) (fun y hy hm => by
      obtain ⟨cs, hb⟩ := ownBlk H9.out.2.2.1.own hy
      exact hb.apart H9.out.2.1 (by decide) (List.mem_singleton.1 hm)) (fun y cs hb hm => hb.apart H9.out.2.1 (by decide) (List.mem_singleton.1 hm))
    have hk2 := (u2.block D (by omega)).trans H9.out.2.2.2.1
    have hb2 := H9.out.2.2.2.2.setCell (p := ⟨w.heap.size + 4, 0, none⟩) (by simp) (.int .i64 0)
    refine ⟨by simp, .inl ⟨_, _, rfl, run_takeDeferred hk2, ?_⟩⟩
    have k1 := mark_kept (B := S) hDl hk2
    refine ⟨_, results_cells2 (by rfl) _ _ (w.heap.size + 3) (w.heap.size + 4) _ _ _ _ (by rfl) ((hr4.keptW k1).at_ 0 rfl) Tryd.underlying41 rfl (by rfl) ((hr5.keptW k1).at_ 0 rfl) Tryd.underlying36 rfl, ?_⟩
    refine ⟨_, rows, sp, rfl, ?_, ?_⟩
    · rw [HX.out, ← HY.out.2.2]
      exact hp2.keptW k1
    · exact (Near.keptW (X := []) ⟨hb2.os, hb2.tape, hb2.output, hb2.size, fun j hj _ => hb2.block j hj⟩ k1 (by omega)).toBelow (by simp) (Nat.le_refl _)
end Go.Proofs.YtgkljncigbiffaaDoor


/- A table that cannot be written: the program's Build answers an error. Conditions: the grid is known; the pairs can be read. -/
namespace Go.Proofs.YtgkljncigbiffaaDoor
open Go.RowKit
theorem bu_lt2 {a b : Nat} (h : a < b) : decide ((a : Int) < (b : Int)) = true := decide_eq_true (by omega)
set_option maxRecDepth 100000 in
set_option maxHeartbeats 4000000 in
theorem tbuild_bad {w : World} {q : GPl} {g : Grd} {d : Dsk} {f : Option Fus} (h : GridR w q g d f) (A : Option Addr) (c : Nat) (l : List PairT) (hl : l.length ≤ 65536) (hP : Pairs w A l) (s : Int) (hc : (ppack l).1 = 2) :
    Calls Tryd.prog 10 #[.pointer (some ⟨q.gg, 0, none⟩), .slice A l.length c, .int .i64 s] w fun e w' => e = .returned (.tuple #[.agg #[.int .i64 0, .int .i64 0, .int .i64 0, .slice none 0 0, .slice none 0 0], .int .i64 2]) ∧ Below w.heap.size w w' := by
  have hz := zeroRunrun
  have hb1 := (Below.refl w.heap.size w).alloc (Nat.le_refl _) (.cells #[.int .i64 0, .int .i64 0, .int .i64 0, .slice none 0 0, .slice none 0 0] 35)
  have hg6 := Blk.new w 35 #[.int .i64 0, .int .i64 0, .int .i64 0, .slice none 0 0, .slice none 0 0]
  have hno := tnone_any (h.below hb1)
  have H0 := Lib.hid (And.intro hb1 hg6)
  have HP := Lib.hid (And.intro hP (And.intro hl hc))
  obtain ⟨n, hn⟩ : ∃ n, n = l.length := ⟨_, rfl⟩
  have HN := Lib.hid hn
  rw [← hn]
  clear h hb1 hg6 hP hl hc hn
  go_enter Tryd.func10, Tryd.ntmps10
  go_wp2_with fail
  refine hno.mono ?_
  rintro e w1 ⟨rfl, hb1⟩
  have hbw1 := H0.out.1.trans (hb1.mono H0.out.1.size)
  have hpk := pack_any (N := fun _ => True) A c l HP.out.2.1 w1 (HP.out.1.below hbw1) (fun _ _ _ _ _ _ _ _ _ _ _ _ => trivial)
  rw [← HN.out] at hpk
  have H1 := Lib.hid (And.intro hbw1 (H0.out.2.below hb1 H0.out.2.lt))
  clear hno hb1 hbw1
  go_wp2_with fail
  refine hpk.mono ?_
  rintro e w2 ⟨vb, vk, bs, sp, ks, sk, rfl, -, -, -, hb2⟩
  rw [HP.out.2.2]
  have hg62 := H1.out.2.below hb2 H1.out.2.lt
  have H2 := Lib.hid (H1.out.1.trans (hb2.mono H1.out.1.size))
  clear hpk hb2
  go_wp2_with (first
    | ((with_reducible show wpList _ _ _ ((⟨none, _, _, _, _, _⟩ : Oper) :: _) _ _); refine wpList_store_blk (o := ⟨none, _, _, _, _, _⟩) (hg62) (by rfl) _ _ _ (by rfl) (by rfl) (#[.int .i64 0, .int .i64 0, .int .i64 0, .slice none 0 0, .slice none 0 0]) (by rfl) (sizeRun) (by rfl) (by rfl) (by simp [Value.oneCell']) ?_; intro w9 h9 hu9)
    | fail)
  refine bodyPost_ret (results_row_tmp (by rfl) _ _ w.heap.size _ _ _ (by rfl) h9 Tryd.underlying35 (by rfl) sizeRun) rfl ?_
  exact ⟨rfl, H2.out.upd hu9 (Nat.le_refl _)⟩
set_option maxRecDepth 100000 in
set_option maxHeartbeats 4000000 in
theorem tbuild_full {w : World} {q : GPl} {g : Grd} {d : Dsk} {f : Option Fus} (h : GridR w q g d f) (A : Option Addr) (c : Nat) (l : List PairT) (hl : l.length ≤ 65536) (hP : Pairs w A l) (s : Int) (hc : (ppack l).1 = 0) (hs1 : 0 ≤ s) (hs2 : s ≤ 1073741824) (hf : cnts g.L 0 < (ppack l).2.length + 1) :
    Calls Tryd.prog 10 #[.pointer (some ⟨q.gg, 0, none⟩), .slice A l.length c, .int .i64 s] w fun e w' => e = .returned (.tuple #[.agg #[.int .i64 0, .int .i64 0, .int .i64 0, .slice none 0 0, .slice none 0 0], .int .i64 8]) ∧ Below w.heap.size w w' := by
  have hz := zeroRunrun
  have hb1 := (Below.refl w.heap.size w).alloc (Nat.le_refl _) (.cells #[.int .i64 0, .int .i64 0, .int .i64 0, .slice none 0 0, .slice none 0 0] 35)
  have hg6 := Blk.new w 35 #[.int .i64 0, .int .i64 0, .int .i64 0, .slice none 0 0, .slice none 0 0]
  have hno := tnone_any (h.below hb1)
  have H0 := Lib.hid (And.intro hb1 hg6)
  have HP := Lib.hid (And.intro hP (And.intro hl hc))
  have HG := Lib.hid h
  obtain ⟨n, hn⟩ : ∃ n, n = l.length := ⟨_, rfl⟩
  have HN := Lib.hid hn
  rw [← hn]
  clear h hb1 hg6 hP hl hc hn
  go_enter Tryd.func10, Tryd.ntmps10
  go_wp2_with fail
  refine hno.mono ?_
  rintro e w1 ⟨rfl, hb1⟩
  have hbw1 := H0.out.1.trans (hb1.mono H0.out.1.size)
  have hpk := pack_any (N := fun _ => True) A c l HP.out.2.1 w1 (HP.out.1.below hbw1) (fun _ _ _ _ _ _ _ _ _ _ _ _ => trivial)
  rw [← HN.out] at hpk
  have H1 := Lib.hid (And.intro hbw1 (H0.out.2.below hb1 H0.out.2.lt))
  clear hno hb1 hbw1
  go_wp2_with fail
  refine hpk.mono ?_
  rintro e w2 ⟨vb, vk, bs, sp, ks, sk, rfl, hBo, hKe, -, hb2⟩
  rw [HP.out.2.2]
  obtain ⟨Ab, cb, rfl, -, -, -, -⟩ := OwnsC.reads hBo.own
  obtain ⟨Ak, ck, rfl, -, -, -, -⟩ := OwnsC.reads hKe.own
  obtain ⟨m, hm⟩ : ∃ m, m = (ppack l).2.length := ⟨_, rfl⟩
  have hm15 : m ≤ 15 := by obtain ⟨-, h64, -, ha, hp⟩ := ppack_ok HP.out.2.2; rw [hm, hp]; exact pgroups_few ha h64
  have hcn := gcounts_any (HG.out.below (H1.out.1.trans (hb2.mono H1.out.1.size)))
  rw [← hm] at hf ⊢
  generalize cnts g.L 0 = a at hcn hf
  generalize cnts g.L 1 = a1 at hcn
  generalize cnts g.L 2 = a2 at hcn
  have k1 : decide (s < 0) = false := decide_eq_false (Int.not_lt.2 hs1)
  have k2 : decide (s > 1073741824) = false := decide_eq_false (Int.not_lt.2 hs2)
  have k2' : decide (1073741824 < s) = false := decide_eq_false (Int.not_lt.2 hs2)
  have k3 : wrap64 ((m : Int) + 1) = ((m + 1 : Nat) : Int) := by rw [w64_in (by omega)]; omega
  have k4 : decide ((a : Int) < ((m + 1 : Nat) : Int)) = true := bu_lt2 hf
  have k5 : decide (a < m + 1) = true := decide_eq_true hf
  have k6 : decide ((a : Int) < (m : Int) + 1) = true := bu_lt2 hf
  have hg62 := H1.out.2.below hb2 H1.out.2.lt
  have H2 := Lib.hid (H1.out.1.trans (hb2.mono H1.out.1.size))
  clear hpk hb2 hBo hKe hm hs1 hs2 hf
  go_wp2_with fail
  refine hcn.mono ?_
  rintro e w3 ⟨rfl, hb3⟩
  have hg63 := hg62.below hb3 hg62.lt
  have H3 := Lib.hid (H2.out.trans (hb3.mono H2.out.size))
  clear hcn hb3
  go_wp2_with (first
    | ((with_reducible show wpList _ _ _ ((⟨none, _, _, _, _, _⟩ : Oper) :: _) _ _); refine wpList_store_blk (o := ⟨none, _, _, _, _, _⟩) (hg63) (by rfl) _ _ _ (by rfl) (by rfl) (#[.int .i64 0, .int .i64 0, .int .i64 0, .slice none 0 0, .slice none 0 0]) (by rfl) (sizeRun) (by rfl) (by rfl) (by simp [Value.oneCell']) ?_; intro w9 h9 hu9)
    | fail)
  refine bodyPost_ret (results_row_tmp (by rfl) _ _ w.heap.size _ _ _ (by rfl) h9 Tryd.underlying35 (by rfl) sizeRun) rfl ?_
  exact ⟨rfl, H3.out.upd hu9 (Nat.le_refl _)⟩
end Go.Proofs.YtgkljncigbiffaaDoor

/- []byte(s) of a string that is no constant. Plain facts over any program. No condition. -/
namespace Go
open Go.RowKit
theorem bytesWorld_below (w : World) (e : TypeId) (s : ByteArray) : Below w.heap.size w (Lib.bytesWorld w e s) :=
  ⟨by simp [Lib.bytesWorld, World.freeze, World.alloc, World.drew, -World.alloc_eq, -World.drew_eq], by simp [Lib.bytesWorld, World.freeze, World.alloc, World.drew, -World.alloc_eq, -World.drew_eq], by simp [Lib.bytesWorld, World.freeze, World.alloc, World.drew, -World.alloc_eq, -World.drew_eq], by rw [Lib.bytesWorld_size]; omega, fun k hk => Lib.bytesWorld_at_old w e s k hk⟩
theorem bytesWorld_bytes (w : World) (e : TypeId) (l : List UInt8) : Bytes (Lib.bytesWorld w e (str l)) (some ⟨w.heap.size, 0, none⟩) l := fun _ => ⟨w.heap.size, 0, rfl, fun j v hv => by
  rw [List.getElem?_map] at hv
  have hj : j < l.length := by
    rcases Nat.lt_or_ge j l.length with h | h
    · exact h
    · rw [List.getElem?_eq_none h] at hv; cases hv
  rw [Nat.zero_add, Lib.bytesWorld_cell w e (str l) j (by simpa [str, ByteArray.size] using hj)]
  rw [List.getElem?_eq_getElem hj] at hv
  rw [← hv]
  simp [str, List.getD, List.getElem?_eq_getElem hj, u8v, iu8]⟩
theorem wpList_str_bytes {P : Program} {w : World} {Q : Exit → Act → World → Prop} {ops : Array Oper} {rest : List Oper} {o : Oper} {a : Act} (hgd : o.guard = none) (src dst e : TypeId) (x : Operand) (ho : o.op = .convert src dst x)
    (hs : P.underlying src = some .string) (hd : P.underlying dst = some (.slice e)) (he : P.underlying e = some (.int .u8)) (l : List UInt8) (hx : a.eval x = .string (str l))
    (h : ∀ w' c, Bytes w' (some ⟨w.heap.size, 0, none⟩) l → Below w.heap.size w w' → w'.heap.size = w.heap.size + 1 → wpList P ops Q rest (a.put o.dst (.slice (some ⟨w.heap.size, 0, none⟩) l.length c)) w') : wpList P ops Q (o :: rest) a w := by
  refine wpList_plain hgd fun K hK => ?_
  unfold Oper.wp execOp
  have hr := Lib.run_convert_string_bytes (P := P) w src dst e (str l) hs hd he
  simp only [ho, hx, Sem.run_bind, hr, Result.andThen_ok, Sem.run_pure]
  have hsz : (str l).size = l.length := by simp [str, ByteArray.size]
  rw [hsz]
  exact hK _ _ (h _ _ (bytesWorld_bytes w e l) (bytesWorld_below w e (str l)) (Lib.bytesWorld_size w e (str l)))
end Go

/- The tables' laws: a grid that is made, the chapter's pairs, runs that are the same. No condition. -/
namespace Go.Proofs.YtgkljncigbiffaaDoor
open Go.RowKit
set_option maxRecDepth 100000 in
set_option maxHeartbeats 2000000 in
theorem tmade_any (n : Nat) (h1 : 1 ≤ n) (h2 : n ≤ 512) (w : World) :
    Calls Tryd.prog 27 #[.int .i64 (n : Int)] w fun e w' => ∃ gp dp, e = .returned (.tuple #[.pointer (some ⟨dp, 0, none⟩), .pointer (some ⟨gp, 0, none⟩), .bool true]) ∧ GL w.heap.size w' gp dp ⟨n, List.replicate n 0, []⟩ (Dsk.new (104 + 4 * n)) ∧ Below w.heap.size w w' := by
  have hn := new_all (104 + 4 * n) (by omega) w
  have hw1 : wrap64 (4 * (n : Int)) = 4 * (n : Int) := w64_in (by omega)
  have hw2 : wrap64 (104 + 4 * (n : Int)) = 104 + 4 * (n : Int) := w64_in (by omega)
  rw [show ((104 + 4 * n : Nat) : Int) = 104 + 4 * (n : Int) by omega] at hn
  have H0 := Lib.hid (And.intro h1 h2)
  clear h1 h2
  go_enter Tryd.func27, Tryd.ntmps27
  go_wp2_with fail
  refine hn.mono ?_
  rintro e w2 ⟨p, rfl, hd, hge, hbx⟩
  have hdk : DkOk w2 p none (Dsk.new (104 + 4 * n)) none := ⟨hd, trivial, Dsk.Ok.new (by have := H0.out; omega)⟩
  have H2 := Lib.hid (And.intro hdk (And.intro hge hbx))
  clear hn hd hge hbx hdk hw1 hw2
  go_wp2_with fail
  refine (gnew_any H2.out.1 (by rfl) n H0.out.1 H0.out.2 (Nat.le_refl _)).mono ?_
  rintro e w3 ⟨q, hqp, hqf, rfl, hG, hge, hbx⟩
  have H3 := Lib.hid (And.intro hqp (And.intro hqf (And.intro hG (And.intro hge hbx))))
  clear hqp hqf hG hge hbx
  go_wp2
  go_ret3
  refine ⟨q.gg, p.gd, rfl, ⟨q, rfl, by rw [H3.out.1], H3.out.2.1, H3.out.2.2.1, fun x hx => ?_⟩, H2.out.2.2.trans (H3.out.2.2.2.2.mono H2.out.2.2.size)⟩
  have hs := H2.out.2.2.size
  have k := H3.out.2.2.2.1
  have k2 := H2.out.2.1
  rcases GPl.mem.1 hx with e | e | e | e | e
  · omega
  · omega
  · omega
  · rw [k.2.2.2] at e; cases e
  · rw [H3.out.1, H3.out.2.1] at e
    unfold Pl.all at e
    simp only [List.cons_append, List.nil_append, List.mem_cons, Option.toList_none, List.not_mem_nil, or_false] at e
    omega
/-- The chapter's pairs. -/
def abcL : List PairT := [([97], [49], false, ()), ([98], [], true, ()), ([99], [50], false, ())]
theorem PairsX.of3 {X : List Nat} {w : World} {b : Nat} {a0 a1 a2 : Addr} {c0 c1 c2 : Nat} {l : List PairT} (hl : l.length = 3) (hb : b ∉ X)
    (h0 : w.cell? ⟨b, 0, none⟩ = some (.slice (some a0) (l[0]'(by omega)).1.length c0) ∧ (l[0]'(by omega)).1.length ≤ c0 ∧ c0 ≤ 9223372036854775807 ∧ Bytes w (some a0) (l[0]'(by omega)).1 ∧ a0.block ∉ X)
    (h1 : w.cell? ⟨b, 3, none⟩ = some (.slice (some a1) (l[1]'(by omega)).1.length c1) ∧ (l[1]'(by omega)).1.length ≤ c1 ∧ c1 ≤ 9223372036854775807 ∧ Bytes w (some a1) (l[1]'(by omega)).1 ∧ a1.block ∉ X)
    (h2 : w.cell? ⟨b, 6, none⟩ = some (.slice (some a2) (l[2]'(by omega)).1.length c2) ∧ (l[2]'(by omega)).1.length ≤ c2 ∧ c2 ≤ 9223372036854775807 ∧ Bytes w (some a2) (l[2]'(by omega)).1 ∧ a2.block ∉ X) : PairsX X w (some ⟨b, 0, none⟩) l := fun i hi _ => by
  have h3 : i = 0 ∨ i = 1 ∨ i = 2 := by omega
  rcases h3 with rfl | rfl | rfl
  · exact ⟨b, 0, a0, c0, rfl, hb, h0.1, h0.2.1, h0.2.2.1, h0.2.2.2.1, h0.2.2.2.2⟩
  · exact ⟨b, 0, a1, c1, rfl, hb, h1.1, h1.2.1, h1.2.2.1, h1.2.2.2.1, h1.2.2.2.2⟩
  · exact ⟨b, 0, a2, c2, rfl, hb, h2.1, h2.2.1, h2.2.2.1, h2.2.2.2.1, h2.2.2.2.2⟩
/-- What abc answers. -/
def AbcTold (w : World) (e : Ending) (w' : World) : Prop := ∃ b : Nat, e = .returned (.slice (some ⟨b, 0, none⟩) 3 3) ∧ Pairs w' (some ⟨b, 0, none⟩) abcL ∧ (∀ X : List Nat, (∀ x ∈ X, x < w.heap.size) → PairsX X w' (some ⟨b, 0, none⟩) abcL) ∧ Below w.heap.size w w' ∧ ∃ a0 b0, w'.rangeAt b 0 [.slice (some ⟨a0, 0, none⟩) 1 1, .slice (some ⟨b0, 0, none⟩) 1 1, .bool false] ∧ PairAt w' ([97], [49], false, ()) (some ⟨a0, 0, none⟩) 1 (some ⟨b0, 0, none⟩) 1 ∧ w.heap.size ≤ a0 ∧ w.heap.size ≤ b0
set_option maxRecDepth 100000 in
set_option maxHeartbeats 2000000 in
theorem abc_any (w : World) : Calls Tryd.prog 28 #[] w (AbcTold w) := by
  have hz := zeroPairrun
  go_enter Tryd.func28, Tryd.ntmps28
  go_wp2_with (first
    | ((with_reducible show wpList _ _ _ ((⟨some 2, _, _, _, _, _⟩ : Oper) :: _) _ _); refine wpList_bytes_const (o := ⟨some 2, _, _, _, _, _⟩) (by rfl) _ _ _ (by rfl) Tryd.underlying22 Tryd.underlying5 [97] _ (by rfl) 1 (by rfl) ?_; intro w1 hb1 hk1 hsz; clear hsz)
    | ((with_reducible show wpList _ _ _ ((⟨some 4, _, _, _, _, _⟩ : Oper) :: _) _ _); refine wpList_bytes_const (o := ⟨some 4, _, _, _, _, _⟩) (by rfl) _ _ _ (by rfl) Tryd.underlying22 Tryd.underlying5 [49] _ (by rfl) 1 (by rfl) ?_; intro w2 hb2 hk2 hsz; clear hsz)
    | ((with_reducible show wpList _ _ _ ((⟨some 7, _, _, _, _, _⟩ : Oper) :: _) _ _); refine wpList_bytes_const (o := ⟨some 7, _, _, _, _, _⟩) (by rfl) _ _ _ (by rfl) Tryd.underlying22 Tryd.underlying5 [98] _ (by rfl) 1 (by rfl) ?_; intro w3 hb3 hk3 hsz; clear hsz)
    | ((with_reducible show wpList _ _ _ ((⟨some 10, _, _, _, _, _⟩ : Oper) :: _) _ _); refine wpList_bytes_const (o := ⟨some 10, _, _, _, _, _⟩) (by rfl) _ _ _ (by rfl) Tryd.underlying22 Tryd.underlying5 [99] _ (by rfl) 1 (by rfl) ?_; intro w4 hb4 hk4 hsz; clear hsz)
    | ((with_reducible show wpList _ _ _ ((⟨some 12, _, _, _, _, _⟩ : Oper) :: _) _ _); refine wpList_bytes_const (o := ⟨some 12, _, _, _, _, _⟩) (by rfl) _ _ _ (by rfl) Tryd.underlying22 Tryd.underlying5 [50] _ (by rfl) 1 (by rfl) ?_; intro w5 hb5 hk5 hsz; clear hsz)
    | fail)
  have hk2' := hk1.trans (hk2.mono hk1.size)
  have hk3' := hk2'.trans (hk3.mono hk2'.size)
  have hk4' := hk3'.trans (hk4.mono hk3'.size)
  have hk5' := hk4'.trans (hk5.mono hk4'.size)
  have hB := Blk.new w5 40 #[.slice (some ⟨w.heap.size, 0, none⟩) 1 1, .slice (some ⟨w1.heap.size, 0, none⟩) 1 1, .bool false, .slice (some ⟨w2.heap.size, 0, none⟩) 1 1, .slice none 0 0, .bool true, .slice (some ⟨w3.heap.size, 0, none⟩) 1 1, .slice (some ⟨w4.heap.size, 0, none⟩) 1 1, .bool false]
  have hx := (Below.refl w5.heap.size w5).alloc (Nat.le_refl _) (.cells #[.slice (some ⟨w.heap.size, 0, none⟩) 1 1, .slice (some ⟨w1.heap.size, 0, none⟩) 1 1, .bool false, .slice (some ⟨w2.heap.size, 0, none⟩) 1 1, .slice none 0 0, .bool true, .slice (some ⟨w3.heap.size, 0, none⟩) 1 1, .slice (some ⟨w4.heap.size, 0, none⟩) 1 1, .bool false] 40)
  have hs1 := hk1.size
  have hs2 := hk2'.size
  have hs3 := hk3'.size
  have hs4 := hk4'.size
  have hs5 := hk5'.size
  have g5 := Bytes.below hb5 hx
  have x4 := hk5.trans (hx.mono hk5.size)
  have g4 := Bytes.below hb4 x4
  have x3 := hk4.trans (x4.mono hk4.size)
  have g3 := Bytes.below hb3 x3
  have x2 := hk3.trans (x3.mono hk3.size)
  have g2 := Bytes.below hb2 x2
  have x1 := hk2.trans (x2.mono hk2.size)
  have g1 := Bytes.below hb1 x1
  have hkw := hk5'.trans (hx.mono hs5)
  have HF := Lib.hid (And.intro hB (And.intro g1 (And.intro g2 (And.intro g3 (And.intro g4 (And.intro g5 (And.intro hkw (And.intro hs1 (And.intro hs2 (And.intro hs3 (And.intro hs4 hs5)))))))))))
  clear hB hx hs1 hs2 hs3 hs4 hs5 g5 x4 g4 x3 g3 x2 g2 x1 g1 hkw hk1 hk2 hk3 hk4 hk5 hk2' hk3' hk4' hk5' hb1 hb2 hb3 hb4 hb5
  go_ret
  obtain ⟨hB, g1, g2, g3, g4, g5, hkw, hs1, hs2, hs3, hs4, hs5⟩ := HF.out
  refine ⟨w5.heap.size, rfl, fun _ => ⟨w5.heap.size, 0, rfl, by simp, fun i hi => ?_⟩, fun X hX => ?_, hkw, w.heap.size, w1.heap.size, range3 (hB.at_ 0 rfl) (hB.at_ 1 rfl) (hB.at_ 2 rfl), ⟨by decide, by decide, by decide, by decide, g1, g2⟩, Nat.le_refl _, hs1⟩
  · have h3 : i = 0 ∨ i = 1 ∨ i = 2 := by
      have : i < 3 := hi
      omega
    rcases h3 with rfl | rfl | rfl
    · exact ⟨_, 1, _, 1, hB.at_ 0 rfl, hB.at_ 1 rfl, hB.at_ 2 rfl, Nat.le_refl 1, by decide, Nat.le_refl 1, by decide, g1, g2⟩
    · exact ⟨_, 1, none, 0, hB.at_ 3 rfl, hB.at_ 4 rfl, hB.at_ 5 rfl, Nat.le_refl 1, by decide, Nat.le_refl 0, by decide, g3, Reads.nil _ _⟩
    · exact ⟨_, 1, _, 1, hB.at_ 6 rfl, hB.at_ 7 rfl, hB.at_ 8 rfl, Nat.le_refl 1, by decide, Nat.le_refl 1, by decide, g4, g5⟩
  · have off : ∀ k, w.heap.size ≤ k → k ∉ X := fun k hk hm => by have := hX k hm; omega
    exact PairsX.of3 rfl (off _ (by omega)) ⟨hB.at_ 0 rfl, by decide, by decide, g1, off _ (Nat.le_refl _)⟩ ⟨hB.at_ 3 rfl, by decide, by decide, g3, off _ (by show w.heap.size ≤ w2.heap.size; omega)⟩ ⟨hB.at_ 6 rfl, by decide, by decide, g4, off _ (by show w.heap.size ≤ w3.heap.size; omega)⟩
end Go.Proofs.YtgkljncigbiffaaDoor

/- The tables' laws: runs that are the same, and what Get answers beside what is wanted. Conditions: as each says. -/
namespace Go.Proofs.YtgkljncigbiffaaDoor
open Go.RowKit
set_option maxRecDepth 100000 in
set_option maxHeartbeats 2000000 in
theorem sameRun_eq (r : RefT) (n : Int) (F L F' L' : Option Addr) (cf cl cf' cl' : Nat) (fb lb : List UInt8) (w : World) (h1 : Bytes w F fb) (h2 : Bytes w L lb) (h3 : Bytes w F' fb) (h4 : Bytes w L' lb) :
    Calls Tryd.prog 48 #[.agg (runv r n F L fb.length cf lb.length cl), .agg (runv r n F' L' fb.length cf' lb.length cl')] w fun e w' => e = .returned (.bool true) ∧ Below w.heap.size w w' := by
  have hB := ((Below.refl w.heap.size w).alloc (Nat.le_refl _) (.cells (runv r n F L fb.length cf lb.length cl) 35)).alloc (by simp) (.cells (runv r n F' L' fb.length cf' lb.length cl') 35)
  have hg2 := (Blk.new w 35 (runv r n F L fb.length cf lb.length cl)).alloc (.cells (runv r n F' L' fb.length cf' lb.length cl') 35)
  have hg3 := Blk.new' (w.alloc (.cells (runv r n F L fb.length cf lb.length cl) 35)) 35 (runv r n F' L' fb.length cf' lb.length cl') (n := w.heap.size + 1) (by simp)
  have H0 := Lib.hid (And.intro hB (And.intro (Bytes.below h1 hB) (And.intro (Bytes.below h2 hB) (And.intro (Bytes.below h3 hB) (Bytes.below h4 hB)))))
  clear h1 h2 h3 h4 hB
  unfold runv at H0 hg2 hg3 ⊢
  have e0 := range2 (hg2.at_ 0 (v := .int .i64 r.1) rfl) (hg2.at_ 1 (v := .int .i64 r.2.1) rfl)
  have e1 := range2 (hg3.at_ 0 (v := .int .i64 r.1) rfl) (hg3.at_ 1 (v := .int .i64 r.2.1) rfl)
  have d0 := hg2.at_ 2 (v := .int .i64 n) rfl
  have d1 := hg3.at_ 2 (v := .int .i64 n) rfl
  have d2 := hg2.at_ 3 (v := .slice F fb.length cf) rfl
  have d3 := hg3.at_ 3 (v := .slice F' fb.length cf') rfl
  have d4 := hg2.at_ 4 (v := .slice L lb.length cl) rfl
  have d5 := hg3.at_ 4 (v := .slice L' lb.length cl') rfl
  clear hg2 hg3
  go_enter Tryd.func48, Tryd.ntmps48
  go_wp2_with (first
    | ((with_reducible show wpList _ _ _ ((⟨some 6, _, _, _, _, _⟩ : Oper) :: _) _ _); refine wpList_load_mid (o := ⟨some 6, _, _, _, _, _⟩) e0 (by rfl) _ _ (by rfl) (by rfl) _ Tryd.underlying33 (by rfl) size_ref (by rfl) ?_)
    | ((with_reducible show wpList _ _ _ ((⟨some 8, _, _, _, _, _⟩ : Oper) :: _) _ _); refine wpList_load_mid (o := ⟨some 8, _, _, _, _, _⟩) e1 (by rfl) _ _ (by rfl) (by rfl) _ Tryd.underlying33 (by rfl) size_ref (by rfl) ?_)
    | fail)
  refine (sameBytes_any F F' fb.length fb.length cf cf' fb fb rfl rfl _ H0.out.2.1 H0.out.2.2.2.1).mono ?_
  rintro e w2 ⟨rfl, hw⟩
  subst hw
  rw [decide_eq_true rfl]
  go_wp2_with fail
  refine (sameBytes_any L L' lb.length lb.length cl cl' lb lb rfl rfl _ H0.out.2.2.1 H0.out.2.2.2.2).mono ?_
  rintro e w2 ⟨rfl, hw⟩
  subst hw
  rw [decide_eq_true rfl]
  clear d0 d1 d2 d3 d4 d5 e0 e1
  go_wp2_with fail
  go_ret
  exact ⟨rfl, H0.out.1⟩
theorem al2 (w : World) (o o2 : Obj) : ((w.alloc o).alloc o2).heap.size = w.heap.size + 1 + 1 := by simp
set_option maxRecDepth 100000 in
set_option maxHeartbeats 1000000 in
theorem gets_any {w : World} {q : GPl} {g g2 : Grd} {d : Dsk} {f : Option Fus} (h : GridR w q g d f) (hlen : g.W.length ≤ 1099511627776) (r : RefT) (n : Int) (F L : Option Addr) (nf cf nl cl : Nat) (key : List UInt8) (_hk : key.length ≤ 5000) (p : PairT) (A B : Option Addr) (c e0 : Nat) (cd : Int)
    (hp : ∀ w', Near q.all w w' → PairAt w' p A c B e0) (hT : tget g d f r key = (cd, p, g2))
    (hmono : ∀ a b : Nat, a ≤ b → b < (topen g d f r).2.1.2.length → key < (topen g d f r).2.1.2.getD a [] → key < (topen g d f r).2.1.2.getD b []) :
    Calls Tryd.prog 29 #[.pointer (some ⟨q.gg, 0, none⟩), .agg (runv r n F L nf cf nl cl), .string (str key), .agg (pairc p A c B e0), .int .i64 cd] w fun e w' => e = .returned (.bool true) ∧ GPost w q g2 d f w' := by
  have hB := ((Below.refl w.heap.size w).alloc (Nat.le_refl _) (.cells (runv r n F L nf cf nl cl) 35)).alloc (by simp) (.cells (pairc p A c B e0) 40)
  have hg6 := (Blk.new w 35 (runv r n F L nf cf nl cl)).alloc (.cells (pairc p A c B e0) 40)
  have hg8 := Blk.new' (w.alloc (.cells (runv r n F L nf cf nl cl) 35)) 40 (pairc p A c B e0) (n := w.heap.size + 1) (by simp)
  have H0 := Lib.hid (And.intro h (And.intro hB (And.intro hg8 (And.intro hp (And.intro hT hmono)))))
  clear h hB hg8 hp hT hmono
  unfold runv pairc at H0 hg6
  unfold runv pairc
  go_enter Tryd.func29, Tryd.ntmps29
  go_wp2_with (first
    | ((with_reducible show wpList _ _ _ ((⟨some 15, _, _, _, _, _⟩ : Oper) :: _) _ _); refine wpList_load_blk (o := ⟨some 15, _, _, _, _, _⟩) (hg6) (by rfl) _ _ (by rfl) (by rfl) _ Tryd.underlying35 (by rfl) (sizeRun) (by rfl) ?_)
    | ((with_reducible show wpList _ _ _ ((⟨some 17, _, _, _, _, _⟩ : Oper) :: _) _ _); refine wpList_str_bytes (o := ⟨some 17, _, _, _, _, _⟩) (by rfl) _ _ _ _ (by rfl) Tryd.underlying9 Tryd.underlying22 Tryd.underlying5 key (by rfl) ?_; intro w1 ce hb1 hk1 hs1; clear hs1)
    | fail)
  rw [al2] at hb1
  have hbw := H0.out.2.1.trans (hk1.mono H0.out.2.1.size)
  have hg81 := H0.out.2.2.1.below hk1 H0.out.2.2.1.lt
  have hget := tget_any (H0.out.1.below hbw) hlen r n F L nf cf nl cl _ ce key hb1 H0.out.2.2.2.2.2
  rw [H0.out.2.2.2.2.1] at hget
  unfold runv at hget
  refine hget.mono ?_
  rintro e w2 ⟨kv, vv, rfl, hO, hP⟩
  obtain ⟨A2, c2, B2, e2, rfl, rfl, hA2⟩ := hO.at_
  have hg82 := hP.blk (H0.out.1.below hbw) hg81 (by decide)
  have hPw := GPost.trans1 hbw hP
  obtain ⟨q', e1, e3, e4, e5, hN, e6⟩ := hPw
  have hpw := H0.out.2.2.2.1 w2 hN
  have hb3 := (Below.refl w2.heap.size w2).alloc (Nat.le_refl _) (.cells #[.slice A2 p.1.length c2, .slice B2 p.2.1.length e2, .bool p.2.2.1] 40)
  have hg11 := Blk.new w2 40 #[.slice A2 p.1.length c2, .slice B2 p.2.1.length e2, .bool p.2.2.1]
  have hg83 := hg82.below hb3 hg82.lt
  have HP := Lib.hid (And.intro ((GPost.trans1 hbw hP).below hb3) (And.intro (hA2.below hb3) (hpw.below hb3)))
  unfold pairc at hg83
  clear hget hO hP hA2 hg82 hN hpw hb3 e5 e6 e1 e3 e4 hbw hg81 hg6
  go_wp2_with (first
    | ((with_reducible show wpList _ _ _ ((⟨some 21, _, _, _, _, _⟩ : Oper) :: _) _ _); refine wpList_load_blk (o := ⟨some 21, _, _, _, _, _⟩) (hg11) (by rfl) _ _ (by rfl) (by rfl) _ Tryd.underlying40 (by rfl) (sizePair) (by rfl) ?_)
    | ((with_reducible show wpList _ _ _ ((⟨some 22, _, _, _, _, _⟩ : Oper) :: _) _ _); refine wpList_load_blk (o := ⟨some 22, _, _, _, _, _⟩) (hg83) (by rfl) _ _ (by rfl) (by rfl) _ Tryd.underlying40 (by rfl) (sizePair) (by rfl) ?_)
    | fail)
  refine (samePair_any p p A2 B2 A B c2 e2 c e0 _ HP.out.2.1 HP.out.2.2).mono ?_
  rintro e w4 ⟨rfl, hb4⟩
  have HF := Lib.hid (HP.out.1.below hb4)
  rw [decide_eq_true rfl]
  clear hg11 hg83 hb4
  go_wp2_with fail
  go_ret
  exact ⟨rfl, HF.out⟩
end Go.Proofs.YtgkljncigbiffaaDoor
