/- A block is written: the grid's Write. Conditions: the grid is known; the lists can be read; the library's table is there. -/
import Derived.Test.YtgkljncigbiffaaDoorMTableTurned10
import Derived.RangeFuncNested
import Derived.RangeFuncBound
import Derived.RangeFuncCalls
import Derived.RangeFuncLeaves
import Derived.Shelf.Abstract
import Derived.Shelf.RegionOpen
import Derived.WalkKit
import Derived.OwnWalkIn
import Derived.TacticsInMore
import Derived.LoopNIn
import Derived.LoopIn
import Derived.Test.YtgkljncigbiffaaDoorProg
namespace Go.Proofs.YtgkljncigbiffaaDoor
open Go.RowKit
theorem zeroRefrun (w : World) : (zeroValue 33).run Tryd.prog w = .ok (.agg #[.int .i64 0, .int .i64 0]) w := by kernel_rfl
/-- What a write answers: the error's number, the ref, the grid, the disk, its fuse. -/
def gput (g : Grd) (d : Dsk) (f : Option Fus) (k : Int) (l : List RefT) (m : List UInt8) (s : Int) : (Int × RefT) × Grd × Dsk × Option Fus :=
  if d.isOut f = true then ((11, (0, 0, ())), g, d, f)
  else if GB.ok (k, (1, s, ()), l, m, ()) = false then ((2, (0, 0, ())), g, d, f)
  else if acqE g.L ≠ 0 then ((acqE g.L, (0, 0, ())), g, d, f)
  else if (d.write f (gplace (acqN g.L)) (GB.bytes (k, (acqN g.L, s, ()), l, m, ()))).1 ≠ 0 then (((d.write f (gplace (acqN g.L)) (GB.bytes (k, (acqN g.L, s, ()), l, m, ()))).1, (0, 0, ())), g, (d.write f (gplace (acqN g.L)) (GB.bytes (k, (acqN g.L, s, ()), l, m, ()))).2)
  else ((0, (acqN g.L, s, ())), { g with L := acqL g.L }, (d.write f (gplace (acqN g.L)) (GB.bytes (k, (acqN g.L, s, ()), l, m, ()))).2)
theorem GB.ok_at {k a s : Int} {l : List RefT} {m : List UInt8} (h : GB.ok (k, (1, s, ()), l, m, ()) = true) (h1 : 1 ≤ a) (h2 : a ≤ 512) : GB.ok (k, (a, s, ()), l, m, ()) = true := by
  unfold GB.ok refOk at *
  simp only [Bool.and_eq_true, decide_eq_true_eq] at *
  obtain ⟨⟨⟨⟨⟨a1, a2⟩, ⟨⟨⟨b1, b2⟩, b3⟩, b4⟩⟩, c1⟩, c2⟩, c3⟩ := h
  exact ⟨⟨⟨⟨⟨a1, a2⟩, ⟨⟨⟨h1, h2⟩, b3⟩, b4⟩⟩, c1⟩, c2⟩, c3⟩
theorem acq_range {L : List Nat} (hok : SetOk L) (h : ¬ acqE L ≠ 0) : 1 ≤ acqN L ∧ acqN L ≤ (L.length : Int) ∧ acqN L ≤ 512 := by
  have hl := hok.len
  unfold acqE acqN at *
  split at h
  · rename_i h1
    rw [if_pos h1]; omega
  · exact absurd (by decide) h
theorem Dsk.write_N (d : Dsk) (f : Option Fus) (a : Int) (b : List UInt8) : (d.write f a b).2.1.N = d.N := by
  unfold Dsk.write chg
  split
  · rfl
  split
  · rfl
  split
  · rfl
  split
  · rfl
  · split <;> rfl
theorem GridR.wrote {w w' : World} {q : GPl} {g : Grd} {d d2 : Dsk} {f f2 : Option Fus} (h : GridR w q g d f) (hk : DkOk w' q.p q.gf d2 f2) (k : Near (q.p.all q.gf) w w') (hN : d2.N = d.N) : GridR w' q g d2 f2 := by
  have hap := h.apart
  obtain ⟨wv, sp, h1, h2, h3⟩ := h.wn
  exact ⟨hk, h.st.near k hap.s, h.mp.near k hap.i, ⟨wv, sp, h1, h2.near k hap.g, OwnsC.nearO h3 k (fun x hx => hap.w x (h1 ▸ hx))⟩, ⟨h.ok.h1, h.ok.h512, h.ok.len, h.ok.set, by rw [hN]; exact h.ok.room, h.ok.nd⟩, h.ne⟩
/-- Another set is a grid's. -/
theorem GridR.setTo {w : World} {q : GPl} {g : Grd} {d : Dsk} {f : Option Fus} {gS : Nat} {L : List Nat} (h : GridR w q g d f) (hs : Blk w gS 203 (setCells L)) (hL : SetOk L) (hlen : L.length = g.n) :
    GridR (w.setCell ⟨q.gg, 2, none⟩ (.pointer (some ⟨gS, 0, none⟩))) { q with gs := gS } { g with L := L } d f ∧ Upd q.gg w (w.setCell ⟨q.gg, 2, none⟩ (.pointer (some ⟨gS, 0, none⟩))) := by
  have hu : Upd q.gg w (w.setCell ⟨q.gg, 2, none⟩ (.pointer (some ⟨gS, 0, none⟩))) := (Upd.refl _ _).set 2 _
  have hap := h.apart
  have k : Near [q.gg] w (w.setCell ⟨q.gg, 2, none⟩ (.pointer (some ⟨gS, 0, none⟩))) := Near.upd hu (List.mem_singleton_self _)
  obtain ⟨wv, sp, h1, h2, h3⟩ := h.wn
  exact ⟨⟨h.dk.nearX k (fun x hx hm => hap.g (List.mem_singleton.1 hm ▸ hx)), hs.near k (fun hm => hs.apart h2 (by decide) (List.mem_singleton.1 hm)), h.mp.near k (fun hm => hap.gi (List.mem_singleton.1 hm).symm),
    ⟨wv, sp, h1, h2.set_ 2 _, OwnsC.nearO h3 k (fun x hx hm => (hap.wo x (h1 ▸ hx)).1 (List.mem_singleton.1 hm))⟩, ⟨h.ok.h1, h.ok.h512, hlen, hL, h.ok.room, h.ok.nd⟩, h.ne⟩, hu⟩
/-- A block that came since is written last. -/
theorem GPost.last {w w1 w' : World} {q q' : GPl} {g0 g : Grd} {d0 d : Dsk} {f0 f : Option Fus} {x : Nat} (h0 : GridR w q g0 d0 f0) (e1 : q'.gg = q.gg) (e2 : q'.p = q.p) (e3 : q'.gf = q.gf) (h : GridR w1 q' g d f) (k : Near q.all w w1) (hs : ∀ y ∈ q'.all, y ∈ q.all ∨ x < y) (u : Upd x w1 w') (hx : w.heap.size ≤ x) : GPost w q g d f w' := by
  refine ⟨q', e1, e2, e3, h.near (Near.upd u (List.mem_singleton_self _)) (fun y hy hm => ?_), k.new u hx, fun y hy => (hs y hy).imp id fun hl => by omega⟩
  have hm := List.mem_singleton.1 hm
  subst hm
  rcases hs _ hy with h | h
  · have := h0.lt _ h; omega
  · omega
theorem GridR.offRef {w : World} {q : GPl} {g : Grd} {d : Dsk} {f : Option Fus} (h : GridR w q g d f) {x : Nat} (hx : w.heap.size ≤ x) : x ∉ q.all := fun hm => by have := h.lt x hm; omega
section
variable {w : World} {q : GPl} {g : Grd} {d : Dsk} {f : Option Fus}
set_option maxRecDepth 100000 in
set_option maxHeartbeats 8000000 in
theorem gwrite_any (h : GridR w q g d f) (k s : Int) (A B : Option Addr) (n c m e1 : Nat) (l : List RefT) (body : List UInt8) (hn : n = l.length) (hm : m = body.length) (hl : l.length ≤ 1000) (hbl : body.length ≤ 5000) (hr : Refs w A l) (hb : Bytes w B body) (hT : Tab w) :
    Calls Tryd.prog 51 #[.pointer (some ⟨q.gg, 0, none⟩), .int .i64 k, .slice A n c, .slice B m e1, .int .i64 s] w fun e w' => e = .returned (.tuple #[.agg #[.int .i64 (gput g d f k l body s).1.2.1, .int .i64 (gput g d f k l body s).1.2.2.1], .int .i64 (gput g d f k l body s).1.1]) ∧
      GPost w q (gput g d f k l body s).2.1 (gput g d f k l body s).2.2.1 (gput g d f k l body s).2.2.2 w' := by
  subst hn hm
  have hz := zeroGBrun
  have hzr := zeroRefrun
  have hB := (Below.refl w.heap.size w).alloc (Nat.le_refl _) (.cells #[.int .i64 0, .int .i64 0] 33)
  have hb0 := Blk.new w 33 #[.int .i64 0, .int .i64 0]
  have H0 := Lib.hid (And.intro h (And.intro hB (And.intro hb0 (And.intro (h.below hB) (And.intro hl (And.intro hbl (And.intro (hr.below hB) (And.intro (Bytes.below hb hB) (Tab.below hT hB)))))))))
  have HW := Lib.hid (And.intro hr (And.intro hb hT))
  clear h hB hb0 hl hbl hr hb hT
  go_enter Tryd.func51, Tryd.ntmps51
  go_wp2_with fail
  generalize w.alloc (.cells #[.int .i64 0, .int .i64 0] 33) = w1 at H0 ⊢
  refine (gready_any H0.out.2.2.2.1).mono ?_
  rintro e w2 ⟨rfl, hw⟩
  obtain rfl := hw.symm
  clear hw
  by_cases hq : d.isOut f = true
  · have HL : Hid (gput g d f k l body s = ((11, (0, 0, ())), g, d, f)) := Lib.hid (if_pos hq)
    rw [if_pos hq]
    have hbz := H0.out.2.2.1
    clear hq
    go_wp2_with (first
      | ((with_reducible show wpList _ _ _ ((⟨none, _, _, _, _, _⟩ : Oper) :: _) _ _); refine wpList_store_blk (o := ⟨none, _, _, _, _, _⟩) (hbz) (by rfl) _ _ _ (by rfl) (by rfl) (#[.int .i64 0, .int .i64 0]) (by rfl) (size_ref) (by rfl) (by rfl) (by simp [Value.oneCell']) ?_; intro w6 h6 hu6)
      | fail)
    refine bodyPost_ret (results_row_tmp (by rfl) _ _ w.heap.size _ _ _ (by rfl) h6 Tryd.underlying33 (by rfl) size_ref) rfl ?_
    rw [HL.out]
    exact ⟨rfl, GPost.same H0.out.1 (H0.out.2.1.upd hu6 (Nat.le_refl _))⟩
  rw [if_neg hq]
  have HQ := Lib.hid (show d.isOut f = false by simpa using hq)
  clear hq
  go_wp2_with (first
    | ((with_reducible show wpList _ _ _ ((⟨none, _, _, _, _, _⟩ : Oper) :: _) _ _); refine wpList_store_blk (o := ⟨none, _, _, _, _, _⟩) ((Blk.new w1 91 #[.int .i64 0, .int .i64 0, .int .i64 0, .slice none 0 0, .slice none 0 0])) (by rfl) _ _ _ (by rfl) (by rfl) (#[.int .i64 k, .int .i64 1, .int .i64 s, .slice A l.length c, .slice B body.length e1]) (by rfl) (sizeGB) (by rfl) (by rfl) (by simp [Value.oneCell']) ?_; intro w2 h2 hu2; have hbx := ((Below.refl w1.heap.size w1).alloc (Nat.le_refl _) (.cells #[.int .i64 0, .int .i64 0, .int .i64 0, .slice none 0 0, .slice none 0 0] 91)).upd hu2 (Nat.le_refl _); have H2 := Lib.hid (And.intro h2 (And.intro (H0.out.2.1.trans (hbx.mono H0.out.2.1.size)) (And.intro (H0.out.2.2.1.below hbx H0.out.2.2.1.lt) (And.intro (H0.out.2.2.2.1.below hbx) (And.intro (H0.out.2.2.2.2.2.2.1.below hbx) (And.intro (Bytes.below H0.out.2.2.2.2.2.2.2.1 hbx) (And.intro (Tab.below H0.out.2.2.2.2.2.2.2.2 hbx) H0.out.2.2.1.lt))))))); clear hu2 hbx)
    | ((with_reducible show wpList _ _ _ ((⟨some 32, _, _, _, _, _⟩ : Oper) :: _) _ _); refine wpList_load_blk (o := ⟨some 32, _, _, _, _, _⟩) (h2) (by rfl) _ _ (by rfl) (by rfl) _ Tryd.underlying91 (by rfl) (sizeGB) (by rfl) ?_)
    | fail)
  have hsz1 := H2.out.2.2.2.2.2.2.2
  generalize w1.heap.size = gB at H2 h2 hsz1 ⊢
  clear h2
  refine (check_any k 1 s A B c e1 l body H0.out.2.2.2.2.1 H0.out.2.2.2.2.2.1 w2 H2.out.2.2.2.2.1).mono ?_
  rintro e w3 ⟨rfl, hbx⟩
  have H3 := Lib.hid (And.intro (H2.out.1.below hbx H2.out.1.lt) (And.intro (H2.out.2.1.trans (hbx.mono H2.out.2.1.size)) (And.intro (H2.out.2.2.1.below hbx H2.out.2.2.1.lt) (And.intro (H2.out.2.2.2.1.below hbx) (And.intro (H2.out.2.2.2.2.1.below hbx) (And.intro (Bytes.below H2.out.2.2.2.2.2.1 hbx) (Tab.below H2.out.2.2.2.2.2.2.1 hbx)))))))
  clear hbx H2
  by_cases hok : GB.ok (k, (1, s, ()), l, body, ()) = true
  case neg =>
    have hok' : GB.ok (k, (1, s, ()), l, body, ()) = false := by simpa using hok
    have HL : Hid (gput g d f k l body s = ((2, (0, 0, ())), g, d, f)) := Lib.hid (by unfold gput; rw [if_neg (by rw [HQ.out]; simp), if_pos hok'])
    rw [GB.code_no hok']
    have hbz := H3.out.2.2.1
    clear hok hok'
    go_wp2_with (first
      | ((with_reducible show wpList _ _ _ ((⟨none, _, _, _, _, _⟩ : Oper) :: _) _ _); refine wpList_store_blk (o := ⟨none, _, _, _, _, _⟩) (hbz) (by rfl) _ _ _ (by rfl) (by rfl) (#[.int .i64 0, .int .i64 0]) (by rfl) (size_ref) (by rfl) (by rfl) (by simp [Value.oneCell']) ?_; intro w6 h6 hu6)
      | fail)
    refine bodyPost_ret (results_row_tmp (by rfl) _ _ w.heap.size _ _ _ (by rfl) h6 Tryd.underlying33 (by rfl) size_ref) rfl ?_
    rw [HL.out]
    exact ⟨rfl, GPost.same H0.out.1 (H3.out.2.1.upd hu6 (Nat.le_refl _))⟩
  rw [GB.code_ok hok]
  have HOK := Lib.hid hok
  clear hok
  obtain ⟨wv, hgb⟩ := H3.out.2.2.2.1.blk
  have d2 := hgb.at_ 2 (v := .pointer (some ⟨q.gs, 0, none⟩)) rfl
  clear hgb
  go_wp2_with fail
  have hok3 := H3.out.2.2.2.1.ok
  refine (clone_any g.L (by have := hok3.len; have := hok3.h1; omega) q.gs w3 H3.out.2.2.2.1.st).mono ?_
  rintro e w4 ⟨rfl, hcs, hbx⟩
  have H4 := Lib.hid (And.intro (H3.out.1.below hbx H3.out.1.lt) (And.intro (H3.out.2.1.trans (hbx.mono H3.out.2.1.size)) (And.intro (H3.out.2.2.1.below hbx H3.out.2.2.1.lt) (And.intro (H3.out.2.2.2.1.below hbx) (And.intro (H3.out.2.2.2.2.1.below hbx) (And.intro (Bytes.below H3.out.2.2.2.2.2.1 hbx) (And.intro (Tab.below H3.out.2.2.2.2.2.2 hbx) (And.intro H3.out.1.lt (And.intro H3.out.2.1.size H3.out.2.2.1.lt)))))))))
  clear hbx d2 hok3
  generalize w3.heap.size = gS at hcs H4 ⊢
  clear H3
  go_wp2_with fail
  have hok4 := H4.out.2.2.2.1.ok
  refine (acquire_any g.L hok4.set (by have := hok4.len; have := hok4.h1; omega) gS w4 hcs H4.out.2.2.2.2.2.2.1).mono ?_
  rintro e w5 ⟨rfl, hcs5, hu5⟩
  have hB5 := H4.out.2.1.upd hu5 H4.out.2.2.2.2.2.2.2.2.1
  have H5 := Lib.hid (And.intro (H4.out.1.upd hu5 (Nat.ne_of_lt H4.out.2.2.2.2.2.2.2.1)) (And.intro hB5 (And.intro (H4.out.2.2.1.upd hu5 (Nat.ne_of_lt H4.out.2.2.2.2.2.2.2.2.2)) (And.intro hcs5 (And.intro (H0.out.1.below hB5) (And.intro hcs5.lt H4.out.2.2.2.2.2.2.2.2.2))))))
  have HS := Lib.hid hok4.set
  have HN := Lib.hid hok4
  clear hB5 hcs5 hu5 hcs H4 hok4
  by_cases he : acqE g.L ≠ 0
  · have HL : Hid (gput g d f k l body s = ((acqE g.L, (0, 0, ())), g, d, f)) := Lib.hid (by unfold gput; rw [if_neg (by rw [HQ.out]; simp), if_neg (by rw [HOK.out]; simp), if_pos he])
    have he8 : acqE g.L = 8 := by unfold acqE at he ⊢; split at he <;> simp_all
    rw [he8] at HL ⊢
    have hbz := H5.out.2.2.1
    clear he he8
    go_wp2_with (first
      | ((with_reducible show wpList _ _ _ ((⟨none, _, _, _, _, _⟩ : Oper) :: _) _ _); refine wpList_store_blk (o := ⟨none, _, _, _, _, _⟩) (hbz) (by rfl) _ _ _ (by rfl) (by rfl) (#[.int .i64 0, .int .i64 0]) (by rfl) (size_ref) (by rfl) (by rfl) (by simp [Value.oneCell']) ?_; intro w6 h6 hu6)
      | fail)
    refine bodyPost_ret (results_row_tmp (by rfl) _ _ w.heap.size _ _ _ (by rfl) h6 Tryd.underlying33 (by rfl) size_ref) rfl ?_
    rw [HL.out]
    exact ⟨rfl, GPost.same H0.out.1 (H5.out.2.1.upd hu6 (Nat.le_refl _))⟩
  have he0 : acqE g.L = 0 := by simpa using he
  have hra := acq_range HS.out he
  have HL0 : Hid (gput g d f k l body s = if (d.write f (gplace (acqN g.L)) (GB.bytes (k, (acqN g.L, s, ()), l, body, ()))).1 ≠ 0 then (((d.write f (gplace (acqN g.L)) (GB.bytes (k, (acqN g.L, s, ()), l, body, ()))).1, (0, 0, ())), g, (d.write f (gplace (acqN g.L)) (GB.bytes (k, (acqN g.L, s, ()), l, body, ()))).2)
    else ((0, (acqN g.L, s, ())), { g with L := acqL g.L }, (d.write f (gplace (acqN g.L)) (GB.bytes (k, (acqN g.L, s, ()), l, body, ()))).2)) := Lib.hid (by unfold gput; rw [if_neg (by rw [HQ.out]; simp), if_neg (by rw [HOK.out]; simp), if_neg he])
  have HA := Lib.hid hra
  have HOA := Lib.hid (GB.ok_at HOK.out hra.1 hra.2.2)
  rw [he0]
  clear he he0 hra
  have dB := H5.out.1.at_ 1 (v := .int .i64 1) rfl
  have fB := H5.out.1.frozen 1
  have hB12 : Blk (w5.setCell ⟨gB, 1, none⟩ (.int .i64 (acqN g.L))) gB 91 #[.int .i64 k, .int .i64 (acqN g.L), .int .i64 s, .slice A l.length c, .slice B body.length e1] := H5.out.1.set_ 1 _
  have hu12 : Upd gB w5 (w5.setCell ⟨gB, 1, none⟩ (.int .i64 (acqN g.L))) := (Upd.refl _ _).set 1 _
  go_wp2_with (first
    | ((with_reducible show wpList _ _ _ ((⟨some 54, _, _, _, _, _⟩ : Oper) :: _) _ _); refine wpList_load_blk (o := ⟨some 54, _, _, _, _, _⟩) (hB12) (by rfl) _ _ (by rfl) (by rfl) _ Tryd.underlying91 (by rfl) (sizeGB) (by rfl) ?_)
    | fail)
  have hB6 := H5.out.2.1.upd hu12 (Nat.le_of_lt hsz1)
  have H6 := Lib.hid (And.intro hB12 (And.intro hB6 (And.intro (H5.out.2.2.1.upd hu12 (Nat.ne_of_lt hsz1)) (And.intro (H5.out.2.2.2.1.upd hu12 (H5.out.2.2.2.1.apart H5.out.1 (by decide))) (And.intro (H0.out.1.below hB6) (And.intro (Nat.lt_of_lt_of_le H5.out.2.2.2.2.2.1 (Nat.le_of_eq hu12.size.symm)) H5.out.2.2.2.2.2.2))))))
  clear hB12 hB6 dB fB hu12
  generalize w5.setCell ⟨gB, 1, none⟩ (.int .i64 (acqN g.L)) = w6 at H6 ⊢
  clear H5
  refine (bytes_ok k (acqN g.L) s A B c e1 l body HOA.out w6 (HW.out.1.below H6.out.2.1) (Bytes.below HW.out.2.1 H6.out.2.1)).mono ?_
  rintro e w7 ⟨gY, rfl, hgY, hY, hbx⟩
  have hB7 := H6.out.2.1.trans (hbx.mono H6.out.2.1.size)
  have H7 := Lib.hid (And.intro (H6.out.1.below hbx H6.out.1.lt) (And.intro hB7 (And.intro (H6.out.2.2.1.below hbx H6.out.2.2.1.lt) (And.intro (H6.out.2.2.2.1.below hbx H6.out.2.2.2.1.lt) (And.intro (H0.out.1.below hB7) (And.intro (Nat.lt_of_lt_of_le H6.out.2.2.2.2.2.1 hbx.size) (And.intro H6.out.2.2.2.2.2.2 (And.intro (Nat.le_trans H6.out.2.1.size hgY) hY))))))))
  clear hB7 hbx hgY hY H6
  go_wp2_with fail
  have hap := H7.out.2.2.2.2.1.apart
  have hN0 : Near (q.p.all q.gf) w7 w7 := Near.refl _ _
  have e0 : ∀ w', Near (q.p.all q.gf) w7 w' → w'.cell? ⟨q.gg, 0, none⟩ = some (.pointer (some ⟨q.p.gd, 0, none⟩)) := fun w' hw' => by
    obtain ⟨wv, sp, -, h2, -⟩ := H7.out.2.2.2.2.1.wn
    exact (h2.near hw' hap.g).at_ 0 (v := .pointer (some ⟨q.p.gd, 0, none⟩)) rfl
  have e0 := Lib.hid e0
  have hap := Lib.hid hap
  refine wp_region_tree (Near (q.p.all q.gf) w7) [] (PlanT.takes [0, 1, 2, 4, 6] (PlanT.takes [3] (.opt 5 (.opt 7 (PlanT.takes [8] .done) .no) .no))) (by kernel_rfl) (by kernel_rfl) (hN0.drew) ?_
  refine wpTree_pure _ _ _ (by rfl) (by rfl) ?_
  dsimp only [List.filterMap, List.getElem?_cons_zero, List.getElem?_cons_succ]
  repeat (go_big_quiet_step (fail))
  refine wpQuiet_nil ?_
  refine wpTree_takeL _ _ _ (by rfl) (by rfl) (hN0.drew) ?_
  dsimp only [List.filterMap, List.getElem?_cons_zero, List.getElem?_cons_succ]
  (refine wpQuiet_load_cell (fun w' hw' => e0.out w' hw') (by rfl) _ _ (by rfl) (by rfl) _ Tryd.underlying25 (by rfl) ?_; simp only [Act.put, List.setIfInBounds_toArray, List.set_cons_zero, List.set_cons_succ])
  refine wpQuiet_nil ?_
  refine wpTree_one _ rfl ?_
  go_wp2_with fail
  refine (gplace_any (acqN g.L) HA.out.1 (by have := HA.out.2; omega) _).mono ?_
  rintro e w8 ⟨rfl, hw8⟩
  have hk8 : Near [] w7 w8 := by rw [hw8]; exact (Near.refl _ _).drew
  have H8 := Lib.hid (And.intro (H7.out.2.2.2.2.1.dk.nearX hk8 (fun _ _ => List.not_mem_nil)) (hk8.wider (Y := q.p.all q.gf) (fun x hx => by simp at hx)))
  have hY8 := H7.out.2.2.2.2.2.2.2.2.near hk8 List.not_mem_nil
  clear hw8 hk8 hN0
  go_wp2_with fail
  refine TreeQ.in_ H8.out.2 ?_
  refine wpTree_one _ rfl ?_
  go_wp2_with fail
  have hlt := H0.out.1.dk.lt
  have hgY := H7.out.2.2.2.2.2.2.2.1
  have hlenY := GB.bytes_length (k, (acqN g.L, s, ()), l, body, ()) (GB.ok_spec HOA.out).2.2.1 (GB.ok_spec HOA.out).2.2.2.1
  refine (write_ok' (gplace (acqN g.L)) 1024 1024 (some ⟨gY, 0, none⟩) (GB.bytes (k, (acqN g.L, s, ()), l, body, ())) w8 hlenY.symm (Blk.bytes hY8) (fun ad e hx => by cases e; have h2 : gY < w.heap.size := hlt _ hx; omega) (by rw [hlenY]; exact Nat.le_refl _) (by rw [hlenY]; omega) H8.out.1).mono ?_
  rintro e w9 ⟨rfl, hdk9, hn9⟩
  have hk9 := H8.out.2.trans hn9
  have hN9 := Dsk.write_N d f (gplace (acqN g.L)) (GB.bytes (k, (acqN g.L, s, ()), l, body, ()))
  have HL1 := HL0.out
  generalize d.write f (gplace (acqN g.L)) (GB.bytes (k, (acqN g.L, s, ()), l, body, ())) = W at hdk9 hN9 HL1 ⊢
  obtain ⟨c0, d2, f2⟩ := W
  simp only at hdk9 hN9 HL1 ⊢
  have hof : ∀ x, w.heap.size ≤ x → x ∉ q.p.all q.gf := fun x hx hm => by have := hlt x hm; omega
  have H9 := Lib.hid (And.intro (H7.out.1.near hk9 (hof _ (Nat.le_of_lt hsz1))) (And.intro (H7.out.2.2.1.near hk9 (hof _ (Nat.le_refl _))) (And.intro (H7.out.2.2.2.1.near hk9 (hof _ (Nat.le_of_lt H7.out.2.2.2.2.2.2.1))) (And.intro (H7.out.2.2.2.2.1.wrote hdk9 hk9 hN9) (And.intro (((Near.below H7.out.2.1 : Near (q.p.all q.gf) w w7).trans hk9).wider (Y := q.all) (fun x hx => GPl.mem.2 (.inr (.inr (.inr (.inr hx)))))) H7.out.2.2.2.2.2.2.1)))))
  have HL1 := Lib.hid HL1
  have hC9 := Lib.hid hk9
  clear hdk9 hk9 hN9 hn9 hof hlenY hlt hgY hY8 HL0 H8 H7
  go_wp2_with fail
  refine TreeQ.in_ hC9.out ?_
  refine wpTree_pure _ _ _ (by rfl) (by rfl) ?_
  dsimp only [List.filterMap, List.getElem?_cons_zero, List.getElem?_cons_succ]
  repeat (go_big_quiet_step (fail))
  refine wpQuiet_nil ?_
  refine wpTree_done ?_
  clear hC9 e0
  by_cases he : c0 = 0
  case neg =>
    have HL2 := Lib.hid (HL1.out.trans (if_pos he))
    have kn := decide_eq_false he
    have hbz := H9.out.2.1
    go_wp2_with (first
      | ((with_reducible show wpList _ _ _ ((⟨none, _, _, _, _, _⟩ : Oper) :: _) _ _); refine wpList_store_blk (o := ⟨none, _, _, _, _, _⟩) (hbz) (by rfl) _ _ _ (by rfl) (by rfl) (#[.int .i64 0, .int .i64 0]) (by rfl) (size_ref) (by rfl) (by rfl) (by simp [Value.oneCell']) ?_; intro w10 h10 hu10)
      | fail)
    refine bodyPost_ret (results_row_tmp (by rfl) _ _ w.heap.size _ _ _ (by rfl) h10 Tryd.underlying33 (by rfl) size_ref) rfl ?_
    rw [HL2.out]
    exact ⟨rfl, GPost.last H0.out.1 rfl rfl rfl H9.out.2.2.2.1 H9.out.2.2.2.2.1 (fun y hy => .inl hy) hu10 (Nat.le_refl _)⟩
  subst he
  have HL2 := Lib.hid (HL1.out.trans (if_neg (by simp)))
  clear HL1
  obtain ⟨wv, sp, -, hgb, -⟩ := H9.out.2.2.2.1.wn
  have d2' := hgb.at_ 2 (v := .pointer (some ⟨q.gs, 0, none⟩)) rfl
  have f2' := hgb.frozen 2
  have hST := GridR.setTo H9.out.2.2.2.1 H9.out.2.2.1 HS.out.acq ((acqL_length g.L).trans HN.out.len)
  have hgg : q.gg < w.heap.size := H0.out.1.lt _ (GPl.mem.2 (.inl rfl))
  have H10 := Lib.hid (And.intro (H9.out.1.upd hST.2 (by omega)) (And.intro (H9.out.2.1.upd hST.2 (by omega)) (And.intro hST.1 (H9.out.2.2.2.2.1.trans (Near.upd hST.2 (GPl.mem.2 (.inl rfl)))))))
  have hB10 := H10.out.1
  have hbz := H10.out.2.1
  clear hgb hST
  go_wp2_with (first
    | ((with_reducible show wpList _ _ _ ((⟨some 75, _, _, _, _, _⟩ : Oper) :: _) _ _); refine wpList_load_mid (o := ⟨some 75, _, _, _, _, _⟩) (range2 (b := gB) (off := 1) (u := .int .i64 (acqN g.L)) (v := .int .i64 s) (hB10.at_ 1 (v := .int .i64 (acqN g.L)) rfl) (hB10.at_ 2 (v := .int .i64 s) rfl)) (by rfl) _ _ (by rfl) (by rfl) _ Tryd.underlying33 (by rfl) size_ref (by rfl) ?_)
    | ((with_reducible show wpList _ _ _ ((⟨none, _, _, _, _, _⟩ : Oper) :: _) _ _); refine wpList_store_blk (o := ⟨none, _, _, _, _, _⟩) (hbz) (by rfl) _ _ _ (by rfl) (by rfl) (#[.int .i64 (acqN g.L), .int .i64 s]) (by rfl) (size_ref) (by rfl) (by rfl) (by simp [Value.oneCell']) ?_; intro w10 h10 hu10)
    | fail)
  refine bodyPost_ret (results_row_tmp (by rfl) _ _ w.heap.size _ _ _ (by rfl) h10 Tryd.underlying33 (by rfl) size_ref) rfl ?_
  rw [HL2.out]
  refine ⟨rfl, GPost.last (q' := { q with gs := gS }) H0.out.1 rfl rfl rfl H10.out.2.2.1 H10.out.2.2.2 (fun y hy => ?_) hu10 (Nat.le_refl _)⟩
  rcases GPl.mem.1 hy with e | e | e | e | e
  · exact .inl (GPl.mem.2 (.inl e))
  · exact .inr (by rw [e]; exact H9.out.2.2.2.2.2)
  · exact .inl (GPl.mem.2 (.inr (.inr (.inl e))))
  · exact .inl (GPl.mem.2 (.inr (.inr (.inr (.inl e)))))
  · exact .inl (GPl.mem.2 (.inr (.inr (.inr (.inr e)))))
end
end Go.Proofs.YtgkljncigbiffaaDoor

/- The program's set of blocks: the iterator over its blocks. Conditions: the set's block is known; the loop's body keeps it, and the iterator's own box. -/
namespace Go.Proofs.YtgkljncigbiffaaDoor
open Go.RowKit Go.Shelf
attribute [local go_sem] Oper.semAt_some
/-- A block's number (from 1 on), and how it is. -/
abbrev It (n : Nat) := { p : Nat × Nat // 1 ≤ p.1 ∧ p.1 ≤ n ∧ p.2 ≤ 2 }
def itm (L : List Nat) (hok : SetOk L) (h0 : 0 < L.length) (k : Nat) : It L.length :=
  if h : k < L.length then ⟨(k + 1, L.getD k 0), by simp, by show k + 1 ≤ L.length; omega, hok.le k⟩ else ⟨(1, 0), by simp, by show 1 ≤ L.length; omega, by simp⟩
theorem itm_val (L : List Nat) (hok : SetOk L) (h0 : 0 < L.length) {k : Nat} (h : k < L.length) : (itm L hok h0 k).1 = (k + 1, L.getD k 0) := by unfold itm; rw [dif_pos h]
def upto {α : Type} (f : Nat → α) (k : Nat) : List α := (List.range k).map f
theorem upto_succ {α : Type} (f : Nat → α) (k : Nat) : upto f (k + 1) = upto f k ++ [f k] := by simp [upto, List.range_succ]
theorem upto_length {α : Type} (f : Nat → α) (k : Nat) : (upto f k).length = k := by simp [upto]
/-- What a round keeps: the set's block and the iterator's box. -/
def Kp (g bx : Nat) (W W' : World) : Prop := W.heap.size ≤ W'.heap.size ∧ W'.heap[g]? = W.heap[g]? ∧ W'.heap[bx]? = W.heap[bx]?
theorem Kp.trans {g bx : Nat} {A B C : World} (h : Kp g bx A B) (k : Kp g bx B C) : Kp g bx A C := ⟨Nat.le_trans h.1 k.1, k.2.1.trans h.2.1, k.2.2.trans h.2.2⟩
def encs {n : Nat} (x : It n) : Array Value := #[.int .i64 (x.1.1 : Int), .int .i64 (x.1.2 : Int)]
theorem all_any (g : Nat) (w : World) : Calls Tryd.prog 130 #[.pointer (some ⟨g, 0, none⟩)] w fun e w' => e = .returned (.func (.func 150) #[] #[.pointer (some ⟨w.heap.size, 0, none⟩)]) ∧ w' = w.alloc (.cells #[.pointer (some ⟨g, 0, none⟩)] 26) := by
  go_enter Tryd.func130, Tryd.ntmps130
  go_wp2
  go_ret
  exact ⟨rfl, rfl⟩
theorem drewN_grown (w : World) (n : Nat) (row : Option Nat) : w.grownBy (w.drewN n) row := ⟨rfl, rfl, rfl, Nat.le_refl _, fun _ _ _ => rfl⟩
set_option maxRecDepth 100000 in
set_option maxHeartbeats 2000000 in
theorem all1_in (n : Nat) (hn : 1 ≤ n) (L : List Nat) (hok : SetOk L) (h0 : 0 < L.length) (g bx l : Nat) (J Jx : List (It L.length) → World → Prop)
    (hJ : ∀ s W m, J s W → J s (W.drewN m))
    (hY : ∀ pre x W, J pre W → pre.length < L.length → YieldAt Fence.wide (n - 1) Tryd.prog l (encs x) W fun e W' =>
      (e = .returned (.bool true) ∧ J (pre ++ [x]) W' ∧ Kp g bx W W') ∨ (e = .returned (.bool false) ∧ Jx (pre ++ [x]) W'))
    (W : World) (hg : Blk W g 203 (setCells L)) (hb : Blk W bx 26 #[.pointer (some ⟨g, 0, none⟩)]) (hJ0 : J [] W) :
    CallsIn Fence.wide n Tryd.prog 150 #[.func (.yield l) #[] #[], .pointer (some ⟨bx, 0, none⟩)] W fun e W' => (∃ v, e = .returned v) ∧
      ((∃ ys, ys = upto (itm L hok h0) L.length ∧ J ys W') ∨ (∃ pre, (∃ k, k ≤ L.length ∧ pre = upto (itm L hok h0) k) ∧ Jx pre W')) := by
  have hl := hok.len
  refine callsIn_of_wp Tryd.func150 rfl trivial ?_ rfl
  simp only [Tryd.ntmps150, List.size_toArray, List.length_cons, List.length_nil, Nat.reduceAdd, Nat.reduceSub, Array.replicate_succ, Array.replicate_zero, List.push_toArray, List.append_toArray, List.nil_append, List.cons_append]
  gi_wp2
  gi_loopw [3] (fun i wr => ∃ k : Nat, k ≤ L.length ∧ i = .int .i64 ((k : Int) + 1) ∧ J (upto (itm L hok h0) k) wr ∧ Blk wr g 203 (setCells L) ∧ Blk wr bx 26 #[.pointer (some ⟨g, 0, none⟩)])
    (fun i _ => L.length + 1 - (intOf i).toNat)
  case atStart => exact ⟨0, Nat.zero_le _, rfl, hJ0, hg, hb⟩
  case round =>
    clear hg hb
    obtain ⟨k, hk, rfl, hJs, hg, hb⟩ := hrel
    have c0 : wr.cell? ⟨bx, 0, none⟩ = some (.pointer (some ⟨g, 0, none⟩)) := hb.at_ 0 rfl
    have c1 : wr.cell? ⟨g, 0, none⟩ = some (.int .i64 (L.length : Nat)) := hg.at_ 0 (by rw [setCells, arr_at _ (by omega), setv_0])
    by_cases hlt : k < L.length
    · have his := callsIn_wide (n := n - 1).2 (is_any L hok h0 g ((k : Int) + 1) (by omega) (by omega) wr hg)
      have hia : isAt L ((k : Int) + 1) = (L.getD k 0 : Nat) := by
        unfold isAt; rw [if_pos (by omega), show ((k : Int) + 1 - 1).toNat = k by omega]
      have hY1 := fun m => hY _ (itm L hok h0 k) (wr.drewN m) (hJ _ _ m hJs) (by rw [upto_length]; exact hlt)
      rw [hia] at his
      have ek : ((k + 1 : Nat) : Int) = (k : Int) + 1 := by omega
      simp only [encs, itm_val L hok h0 hlt, ek] at hY1
      have hle := hok.le k
      generalize L.getD k 0 = x at his hY1 hle
      have hG := Lib.hid hg
      have hB := Lib.hid hb
      clear hg hb hia ek
      gi_wp2_with fail
      refine ⟨trivial, ?_⟩
      refine his.mono ?_
      rintro e w' ⟨rfl, m, rfl⟩
      obtain ⟨fn, tmps, assign, body, hy, hR⟩ := hY1 m
      clear hY1 hY his
      gi_wp2
      refine hR.mono ?_
      rintro e W3 (⟨rfl, hJ3, hk3⟩ | ⟨rfl, hJx3⟩)
      · have hg3 : Blk W3 g 203 (setCells L) := hk3.2.1.trans hG.out
        have hb3 : Blk W3 bx 26 #[.pointer (some ⟨g, 0, none⟩)] := hk3.2.2.trans hB.out
        have hG3 := Lib.hid hg3
        have hB3 := Lib.hid hb3
        clear hg3 hb3 hk3 hG hB c0 c1
        gi_wp2
        go_roundw
        case rel => exact ⟨k + 1, by omega, by go_num, by rw [upto_succ]; exact hJ3, hG3.out, hB3.out⟩
        case measure => simp [intOf]; omega
      · gi_wp2
        refine bodyPost_ret (results_none rfl _ _ _) rfl ?_
        exact ⟨⟨_, rfl⟩, .inr ⟨_, ⟨k + 1, by omega, (upto_succ _ _).symm⟩, hJx3⟩⟩
    · obtain rfl : k = L.length := by omega
      gi_wp2
      go_end0
      exact ⟨⟨_, rfl⟩, .inl ⟨_, rfl, hJs⟩⟩
theorem all1_stops (n : Nat) (hn : 1 ≤ n) (L : List Nat) (hok : SetOk L) (h0 : 0 < L.length) (g bx : Nat) (w : World) (hg : Blk w g 203 (setCells L)) (hb : Blk w bx 26 #[.pointer (some ⟨g, 0, none⟩)]) :
    SeqStopsK Fence.wide n Tryd.prog 150 #[.pointer (some ⟨bx, 0, none⟩)] (encs (n := L.length)) (Kp g bx) (fun ys => ys = upto (itm L hok h0) L.length) (fun pre => ∃ k, k ≤ L.length ∧ pre = upto (itm L hok h0) k) L.length w := fun l J Jx W hW hJ _ hY hJ0 =>
  all1_in n hn L hok h0 g bx l J Jx (fun s W m hs => hJ s W _ none hs (drewN_grown W m none) (fun r e => by cases e)) hY W (hg.below hW hg.lt) (hb.below hW hb.lt) hJ0
end Go.Proofs.YtgkljncigbiffaaDoor

/- The bytes of a set of blocks, plainly. Conditions: at most 512 blocks, each 0, 1 or 2. -/
namespace Go.Proofs.YtgkljncigbiffaaDoor
open Go.RowKit
/-- Four blocks in a byte. -/
def q4 (f : Nat → Nat) (j : Nat) : Nat := f (4 * j) + 4 * f (4 * j + 1) + 16 * f (4 * j + 2) + 64 * f (4 * j + 3)
def encH (n : Nat) : List UInt8 := [UInt8.ofNat (n % 256), UInt8.ofNat (n / 256)]
def encF (n : Nat) (f : Nat → Nat) : List UInt8 := encH n ++ (List.range ((n + 3) / 4)).map fun j => UInt8.ofNat (q4 f j)
def enc (L : List Nat) : List UInt8 := encF L.length fun i => L.getD i 0
end Go.Proofs.YtgkljncigbiffaaDoor

/- The program's set of blocks: its bytes. Conditions: the set's block is known. -/
namespace Go.Proofs.YtgkljncigbiffaaDoor
open Go.RowKit Go.Shelf
attribute [local go_sem] Oper.semAt_some
theorem blk_own {W W' : World} {b B : Nat} {t : TypeId} {cs : Array Value} {row : Option Nat} (h : Blk W b t cs) (hg : W.grownBy W' row) (hr : ∀ r, row = some r → B ≤ r ∧ ∃ o : Obj, W.heap[r]? = some o ∧ o.isCells = false) : Blk W' b t cs :=
  (hg.block b h.lt (fun e => by
    obtain ⟨_, o, ho, hc⟩ := hr b e.symm
    unfold Blk at h
    rw [h] at ho; cases ho; cases hc)).trans h
end Go.Proofs.YtgkljncigbiffaaDoor

/- The program's set of blocks: its counts. Conditions: the set's block is known. -/
namespace Go.Proofs.YtgkljncigbiffaaDoor
open Go.RowKit Go.Shelf
attribute [local go_sem] Oper.semAt_some
def cnts (l : List Nat) (v : Nat) : Nat := (l.filter fun x => decide (x = v)).length
theorem cnts_snoc (l : List Nat) (x v : Nat) : cnts (l ++ [x]) v = cnts l v + if x = v then 1 else 0 := by
  unfold cnts
  rw [List.filter_append, List.length_append, List.filter_cons]
  by_cases h : x = v
  · simp [h]
  · simp [h]
theorem cnts_le (l : List Nat) (v : Nat) : cnts l v ≤ l.length := List.length_filter_le _ _
def c3 (l : List Nat) : Array Value := #[.int .i64 (cnts l 0 : Nat), .int .i64 (cnts l 1 : Nat), .int .i64 (cnts l 2 : Nat)]
theorem c3_at (l : List Nat) (v : Nat) (h : v ≤ 2) : (c3 l)[v]? = some (.int .i64 (cnts l v : Nat)) := by
  have : v = 0 ∨ v = 1 ∨ v = 2 := by omega
  rcases this with rfl | rfl | rfl <;> rfl
theorem c3_snoc (l : List Nat) (v : Nat) (h : v ≤ 2) : (c3 l).setIfInBounds v (.int .i64 ((cnts l v : Nat) + 1 : Int)) = c3 (l ++ [v]) := by
  have : v = 0 ∨ v = 1 ∨ v = 2 := by omega
  unfold c3
  rcases this with rfl | rfl | rfl <;> simp [cnts_snoc]
set_option maxRecDepth 100000 in
set_option maxHeartbeats 2000000 in
theorem counts_any (L : List Nat) (hok : SetOk L) (h0 : 0 < L.length) (g : Nat) (w : World) (h : Blk w g 203 (setCells L)) :
    Calls Tryd.prog 94 #[.pointer (some ⟨g, 0, none⟩)] w fun e w' => e = .returned (.tuple #[.int .i64 (cnts L 0 : Nat), .int .i64 (cnts L 1 : Nat), .int .i64 (cnts L 2 : Nat)]) ∧ Below w.heap.size w w' := by
  have hl := hok.len
  have hn := none_any L g w h
  rw [decide_eq_false (by omega)] at hn
  have hg := h.lt
  refine callsIn_wide (n := 3).1 ?_
  refine callsIn_of_wp_marks Tryd.func94 rfl trivial ?_ rfl
  simp only [Tryd.ntmps94, List.size_toArray, List.length_cons, List.length_nil, Nat.reduceAdd, Nat.reduceSub, Array.replicate_succ, Array.replicate_zero, List.push_toArray, List.append_toArray, List.nil_append, List.cons_append]
  refine wpIn_wide.2 ?_
  go_wp2_with (first
    | (go_at_call 129; refine hn.mono ?_; rintro e w' ⟨rfl, rfl⟩)
    | fail)
  refine (all_any g _).mono ?_
  rintro e w' ⟨rfl, rfl⟩
  go_wp2_with fail
  have hx5 : Blk ((w.alloc (.cells #[.int .i64 0, .int .i64 0, .int .i64 0] 197)).alloc (.cells #[.pointer (some ⟨g, 0, none⟩)] 26)) w.heap.size 197 (c3 []) := (Blk.new w _ _).alloc _
  have hb5 : Blk ((w.alloc (.cells #[.int .i64 0, .int .i64 0, .int .i64 0] 197)).alloc (.cells #[.pointer (some ⟨g, 0, none⟩)] 26)) (w.heap.size + 1) 26 #[.pointer (some ⟨g, 0, none⟩)] := Blk.new' _ _ _ (by simp)
  have hg5 := (h.alloc (.cells #[.int .i64 0, .int .i64 0, .int .i64 0] 197)).alloc (.cells #[.pointer (some ⟨g, 0, none⟩)] 26)
  have hB5 := ((Below.refl w.heap.size w).alloc (Nat.le_refl _) (.cells #[.int .i64 0, .int .i64 0, .int .i64 0] 197)).alloc (by simp) (.cells #[.pointer (some ⟨g, 0, none⟩)] 26)
  have hs5 : ((w.alloc (.cells #[.int .i64 0, .int .i64 0, .int .i64 0] 197)).alloc (.cells #[.pointer (some ⟨g, 0, none⟩)] 26)).heap.size = w.heap.size + 2 := by simp
  generalize (w.alloc _).alloc _ = w5 at hx5 hb5 hg5 hB5 hs5 ⊢
  clear h hn
  have hbl := hb5.lt
  refine wpIn_wide (n := 3).1 ?_
  refine wpIn_rangeFunc_ownF rfl (by omega) (gf := 150) (lb := #[.pointer (some ⟨w.heap.size + 1, 0, none⟩)]) rfl trivial (enters_of Tryd.func150 (by kernel_rfl) rfl)
    (all1_stops 2 (by omega) L hok h0 g (w.heap.size + 1) w5 hg5 hb5) (fun h k => h.trans k) (fun W l o o' hl hW ho _ => ⟨by simp, World.putObj_heap_other (by omega), World.putObj_heap_other (by omega)⟩) (Below.refl _ _) (fun _ => rfl)
    (fun pre W => (Blk W w.heap.size 197 (c3 (pre.map (·.1.2)))) ∧ Below w.heap.size w W)
    (fun _ _ _ => False)
    (OwnFrom.and (fun s A B row hs hg hr => blk_own hs hg hr) (ownFrom_below (Nat.le_refl _) (by omega)))
    (fun _ _ _ _ _ hs _ _ => hs)
    ⟨hx5, hB5⟩
    (fun x => { tmps := #[.pointer (some ⟨g, 0, none⟩), undef, .int .i64 0, .int .i64 0, .int .i64 0, .pointer (some ⟨w.heap.size, 0, none⟩), undef, .int .i64 (x.1.2 : Int), .pointer (some ⟨g, 0, none⟩), .bool false, .pointer (some ⟨g, 0, none⟩), .func (.func 150) #[] #[.pointer (some ⟨w.heap.size + 1, 0, none⟩)], .int .i64 (x.1.1 : Int), .int .i64 (x.1.2 : Int), undef, undef, undef, undef, undef, undef, undef, undef, undef, undef, undef], defers := [] }) ?assign ?body ?done ?stop
  case assign =>
    intro l x W K hK
    unfold encs
    gi_wp2
    exact hK
  case body =>
    rintro l pre ⟨⟨b, v⟩, hb1, hb2, hv⟩ W ⟨hX, hB⟩ hlen
    simp only at hb1 hb2 hv
    have hle := cnts_le (pre.map (·.1.2)) v
    rw [List.length_map] at hle
    have dX : W.cell? ⟨w.heap.size, v, none⟩ = some (.int .i64 (cnts (pre.map (·.1.2)) v : Nat)) := hX.at_ v (c3_at _ v hv)
    have fX := hX.frozen v
    have hX2 := (hX.set_ v (.int .i64 ((cnts (pre.map (·.1.2)) v : Nat) + 1 : Int))).sub (c3_snoc _ v hv)
    generalize cnts (pre.map (·.1.2)) v = c at dX hle hX2
    have HX2 := Lib.hid hX2
    clear hX hX2 hs5 hx5 hb5 hg5
    gi_wp2
    refine ⟨KeepsOthers.setCell _ _ _, ⟨by simp [World.setCell], Below.heap_setCell W ⟨w.heap.size, v, none⟩ _ g (by show g ≠ w.heap.size; omega), Below.heap_setCell W ⟨w.heap.size, v, none⟩ _ (w.heap.size + 1) (by show w.heap.size + 1 ≠ w.heap.size; omega)⟩, ?_, hB.set_ (c := w.heap.size) (i := v) (Nat.le_refl _) _⟩
    rw [List.map_append]
    exact HX2.out
  case done =>
    rintro D ys W hD rfl ⟨hX, hB⟩ hK
    have hys : (upto (itm L hok h0) L.length).map (·.1.2) = L := by
      unfold upto
      rw [List.map_map]
      apply List.ext_getElem
      · simp
      · intro i h1 h2
        simp only [List.getElem_map, List.getElem_range, Function.comp]
        rw [itm_val L hok h0 h2]
        simp [h2]
    rw [hys] at hX
    have d0 : W.cell? ⟨w.heap.size, 0, none⟩ = some (.int .i64 (cnts L 0 : Nat)) := hX.at_ 0 rfl
    have d1 : W.cell? ⟨w.heap.size, 1, none⟩ = some (.int .i64 (cnts L 1 : Nat)) := hX.at_ 1 rfl
    have d2 : W.cell? ⟨w.heap.size, 2, none⟩ = some (.int .i64 (cnts L 2 : Nat)) := hX.at_ 2 rfl
    clear hX hys hs5 hx5 hb5 hg5
    go_wp2
    refine wp_region_planT (fun w' => w' = World.drew W) [] [(true, 0), (true, 2), (true, 4), (true, 1), (true, 3), (true, 5), (true, 6), (true, 7), (true, 8)] (by kernel_rfl) (by kernel_rfl) rfl ?_
    refine wpPlan_takeL [0, 2, 4, 1, 3, 5, 6, 7, 8] [] _ (by rfl) (by rfl) (rfl) ?_
    dsimp only [List.filterMap, List.getElem?_cons_zero, List.getElem?_cons_succ]
    repeat (go_big_quiet_step (fail))
    refine wpQuiet_nil ?_
    refine wpPlan_tidy ?_
    have hK2 : W.drew.heap[D]? = some (.deferred (some [])) := hK
    go_wp2
    refine ⟨by simp, .inl ⟨_, _, rfl, run_takeDeferred hK2, ?_⟩⟩
    refine ⟨_, results_tmp3 rfl _ _ _, rfl, hB.drew.trans (belowK_b (w := w) (Nat.le_refl _) W.drew D _ _ (by omega) hK2 rfl rfl)⟩
  case stop =>
    rintro D c pre W _ _ h _
    exact h.elim
end Go.Proofs.YtgkljncigbiffaaDoor

/- A grid is made. Conditions: the disk is known, or none. -/
namespace Go.Proofs.YtgkljncigbiffaaDoor
open Go.RowKit
theorem w64_in {n : Int} (h : -9223372036854775808 ≤ n ∧ n ≤ 9223372036854775807) : wrap64 n = n := by unfold wrap64; omega
section
variable {w : World} {p : Pl} {gf : Option Nat} {d : Dsk} {f : Option Fus}
set_option maxRecDepth 100000 in
set_option maxHeartbeats 4000000 in
theorem gnew_any (h : DkOk w p gf d f) (ho : d.isOut f = false) (n : Nat) (h1 : 1 ≤ n) (h2 : n ≤ 512) (hr : 104 + 4 * n ≤ d.N) :
    Calls Tryd.prog 82 #[.pointer (some ⟨p.gd, 0, none⟩), .int .i64 (n : Int)] w fun e w' => ∃ q : GPl, q.p = p ∧ q.gf = gf ∧ e = .returned (.tuple #[.pointer (some ⟨q.gg, 0, none⟩), .int .i64 0]) ∧
      GridR w' q ⟨n, List.replicate n 0, []⟩ d f ∧ (w.heap.size ≤ q.gg ∧ w.heap.size ≤ q.gs ∧ w.heap.size ≤ q.gi ∧ q.gw = none) ∧ Below w.heap.size w w' := by
  have hs := sectors_all h.dr
  have hu := up_all h.dr h.fr
  rw [ho] at hu
  have hN1 := h.ok.n1
  have kz : ((d.N : Int) == 0) = false := beq_eq_false_iff_ne.2 (by omega)
  have kl : decide ((d.N : Int) < 104 + 4 * (n : Int)) = false := decide_eq_false (by omega)
  have H0 := Lib.hid (And.intro h (And.intro h1 (And.intro h2 (And.intro hr hN1))))
  have hsw := fun w' (hb : Below w.heap.size w w') => sectors_all (h.dr.near (X := []) (Near.below hb) ⟨by simp, by simp, by simp⟩)
  have hn := setNew_any n h1 h2 w
  clear h h1 h2 hr hN1
  go_enter Tryd.func82, Tryd.ntmps82
  go_wp2_with fail
  refine hs.mono ?_
  rintro e w1 ⟨rfl, hw⟩
  obtain rfl := hw.symm
  clear hs hw
  go_wp2_with fail
  refine hu.mono ?_
  rintro e w1 ⟨rfl, hw⟩
  obtain rfl := hw.symm
  clear hu hw
  go_wp2_with fail
  refine hn.mono ?_
  rintro e w2 ⟨rfl, hset, hbx⟩
  have hs2 := hsw w2 hbx
  have H2 := Lib.hid (And.intro hset hbx)
  clear hn hsw hset hbx
  go_wp2_with fail
  refine hs2.mono ?_
  rintro e w3 ⟨rfl, hw⟩
  obtain rfl := hw.symm
  clear hs2 hw kz
  have hw1 : wrap64 (4 * (n : Int)) = 4 * (n : Int) := w64_in (by have := H0.out.2.2.1; omega)
  have hw2 : wrap64 (104 + 4 * (n : Int)) = 104 + 4 * (n : Int) := w64_in (by have := H0.out.2.2.1; omega)
  go_wp2_with (first
    | ((with_reducible show wpList _ _ _ ((⟨some 34, _, _, _, _, _⟩ : Oper) :: _) _ _); refine wpList_make_map (o := ⟨some 34, _, _, _, _, _⟩) _ (by rfl) _ (by rfl) ?_; intro w4 hm4 hb4 hs4)
    | fail)
  have hgg := Blk.new' w4 30 #[.pointer (some ⟨p.gd, 0, none⟩), .int .i64 (n : Int), .pointer (some ⟨w.heap.size, 0, none⟩), .map (some w2.heap.size), .slice none 0 0] (n := w2.heap.size + 1) hs4.symm
  have hbx := (Below.refl w4.heap.size w4).alloc (Nat.le_refl _) (.cells #[.pointer (some ⟨p.gd, 0, none⟩), .int .i64 (n : Int), .pointer (some ⟨w.heap.size, 0, none⟩), .map (some w2.heap.size), .slice none 0 0] 30)
  have hB4 := H2.out.2.trans (hb4.mono H2.out.2.size)
  have hB5 := hB4.trans (hbx.mono hB4.size)
  have hst := (H2.out.1.below hb4 H2.out.1.lt).below hbx (Nat.lt_of_lt_of_le H2.out.1.lt hb4.size)
  have hm5 : MapK _ w2.heap.size (fun _ : RefT => True) encRef (wantM []) := (⟨#[], 0, hm4.below hbx hm4.lt, rfl, by simp, by simp, by simp⟩)
  go_ret2
  refine ⟨⟨w2.heap.size + 1, w.heap.size, w2.heap.size, none, p, gf⟩, rfl, rfl, rfl, ⟨H0.out.1.near (Near.below hB5), hst, hm5, ⟨.slice none 0 0, [], rfl, hgg, .inl ⟨rfl, rfl, rfl, rfl⟩⟩, ⟨H0.out.2.1, H0.out.2.2.1, by simp, setOk_new n H0.out.2.2.1, H0.out.2.2.2.1, List.nodup_nil⟩, fun e => ?_⟩, ⟨by have := H2.out.2.size; show w.heap.size ≤ w2.heap.size + 1; omega, Nat.le_refl _, H2.out.2.size, rfl⟩, hB5⟩
  have h1 := H0.out.1.lt p.gm (by simp [Pl.all])
  have h2 := H2.out.2.size
  have e : w2.heap.size = p.gm := e
  omega
end
end Go.Proofs.YtgkljncigbiffaaDoor

/- Pairs in memory: whether they are many, whether they are sorted. Conditions: they can be read. -/
namespace Go.Proofs.YtgkljncigbiffaaDoor
open Go.RowKit
def plong (p : PairT) : Bool := decide (200 < p.1.length) || decide (200 < p.2.1.length)
def plarge (l : List PairT) (m : Nat) : Bool := decide (m < l.length) || l.any plong
def LpRel (w : World) (l : List PairT) (v : Value) (wr : World) : Prop := ∃ k : Nat, k ≤ l.length ∧ v = .int .i64 (k : Int) ∧ (l.take k).any plong = false ∧ wr = w
set_option maxRecDepth 100000 in
set_option maxHeartbeats 4000000 in
theorem largePairs_any (A : Option Addr) (c : Nat) (l : List PairT) (m : Nat) (hm : m ≤ 1000) (hl : l.length ≤ 9223372036854775807) (w : World) (h : Pairs w A l) :
    Calls Tryd.prog 33 #[.slice A l.length c, .int .i64 (m : Int)] w fun e w' => e = .returned (.bool (plarge l m)) ∧ w' = w := by
  have HP : Hid (plarge l m = (decide (m < l.length) || l.any plong)) := Lib.hid rfl
  generalize plarge l m = R at HP ⊢
  generalize hn : l.length = n at HP hl ⊢
  have HN := Lib.hid (And.intro hn h)
  clear hn h
  go_enter Tryd.func33, Tryd.ntmps33
  by_cases hbig : m < n
  · have q0 : decide ((n : Int) > (m : Int)) = true := decide_eq_true (by omega)
    have q1 : decide (m < n) = true := decide_eq_true hbig
    have HF := Lib.hid (HP.out.trans (by rw [decide_eq_true hbig, Bool.true_or]))
    clear hbig hm hl HP
    go_wp2
    go_ret
    exact ⟨by rw [HF.out]; rfl, rfl⟩
  have q0 : decide ((n : Int) > (m : Int)) = false := decide_eq_false (by omega)
  have q1 : decide (m < n) = false := decide_eq_false hbig
  replace HP := Lib.hid (HP.out.trans (by rw [decide_eq_false hbig, Bool.false_or]))
  have hn9 : n ≤ 1000 := by omega
  clear hbig hm hl
  go_wp2_with fail
  go_loopw [5] (fun v wr => LpRel w l v wr) (fun v _ => n - (intOf v).toNat)
  case atStart => exact ⟨0, Nat.zero_le _, rfl, rfl, rfl⟩
  case round =>
    clear q0 q1
    obtain ⟨i, hi, rfl, htk, rfl⟩ := hrel
    rw [HN.out.1] at hi
    have HTK := Lib.hid htk
    clear htk
    by_cases hlt : i < n
    · have hil : i < l.length := by rw [HN.out.1]; exact hlt
      obtain ⟨b, off, rfl, -, hc⟩ := HN.out.2 (by omega)
      obtain ⟨A1, c1, A2, c2, d1, d2, -, hp⟩ := hc i hil
      have hs := Lib.hid (List.take_succ_eq_append_getElem hil)
      have hmem := Lib.hid (List.getElem_mem hil)
      have HB := Lib.hid (And.intro (Nat.le_trans hp.kc hp.km) (Nat.le_trans hp.vc hp.vm))
      clear hp
      generalize l[i] = p at d1 d2 hs hmem HB
      have hsx : Hid ((l.take (i + 1)).any plong = plong p) := Lib.hid (by rw [hs.out, List.any_append, HTK.out]; simp)
      have hno : Hid (plong p = true → R = true) := Lib.hid (fun e => by rw [HP.out]; exact List.any_eq_true.2 ⟨p, hmem.out, e⟩)
      unfold plong at hsx hno
      generalize p.1.length = x1 at d1 hsx hno HB
      generalize p.2.1.length = x2 at d2 hsx hno HB
      have hx1 := HB.out.1
      have hx2 := HB.out.2
      clear hc hs hmem HB
      by_cases g1 : 200 < x1
      · have p1 : decide ((x1 : Int) > 200) = true := decide_eq_true (by omega)
        have HF := Lib.hid (hno.out (by simp [g1]))
        clear g1 hno hsx hx1 hx2
        go_wp2
        go_ret
        exact ⟨by rw [HF.out]; rfl, rfl⟩
      have p1 : decide ((x1 : Int) > 200) = false := decide_eq_false (by omega)
      by_cases g2 : 200 < x2
      · have p2 : decide ((x2 : Int) > 200) = true := decide_eq_true (by omega)
        have HF := Lib.hid (hno.out (by rw [decide_eq_true g2, Bool.or_true]))
        clear g1 g2 hno hsx hx1 hx2
        go_wp2
        go_ret
        exact ⟨by rw [HF.out]; rfl, rfl⟩
      have p2 : decide ((x2 : Int) > 200) = false := decide_eq_false (by omega)
      have HX := Lib.hid (hsx.out.trans (by simp [g1, g2] : _ = false))
      clear g1 g2 hno hsx hx1 hx2
      go_wp2
      go_roundw
      case rel => exact ⟨i + 1, by omega, by go_num, HX.out, rfl⟩
      case measure => simp [intOf]; omega
    · obtain rfl : i = n := by omega
      have HF : Hid (R = false) := Lib.hid (by
        have := HTK.out
        rw [← HN.out.1, List.take_length] at this
        rw [HP.out, this])
      clear hi hlt
      go_wp2
      go_ret
      exact ⟨by rw [HF.out]; rfl, rfl⟩
/-- Ahead of each pair: those ahead of it are sorted. -/
def SoRel (w : World) (l : List PairT) (v : Value) (wr : World) : Prop := ∃ i : Nat, 1 ≤ i ∧ i ≤ l.length + 1 ∧ v = .int .i64 (i : Int) ∧ Below w.heap.size w wr ∧ ∀ (j : Nat) (h : j + 1 < l.length), j + 1 < i → (l[j]'(by omega)).1 < l[j + 1].1
theorem SoRel.drewN {w wr : World} {l : List PairT} {v : Value} (h : SoRel w l v wr) (n : Nat) : SoRel w l v (wr.drewN n) := by
  obtain ⟨i, h0, h1, h2, h3, h4⟩ := h
  exact ⟨i, h0, h1, h2, below_drewN h3 n, h4⟩
set_option maxRecDepth 100000 in
set_option maxHeartbeats 2000000 in
theorem sorted_any (A : Option Addr) (c : Nat) (l : List PairT) (hl : l.length ≤ 65536) (w : World) (h : Pairs w A l) :
    Calls Tryd.prog 46 #[.slice A l.length c] w fun e w' => e = .returned (.bool (psorted l)) ∧ Below w.heap.size w w' := by
  have HH := Lib.hid h
  clear h
  obtain ⟨q, hq⟩ : ∃ q, q = psorted l := ⟨_, rfl⟩
  rw [← hq]
  have HQ := Lib.hid hq
  clear hq
  go_enter Tryd.func46, Tryd.ntmps46
  go_wp2_with fail
  go_loopw [3] (fun v wr => SoRel w l v wr) (fun v _ => l.length + 1 - (intOf v).toNat)
  case atStart => exact ⟨1, Nat.le_refl _, by omega, rfl, Below.refl _ _, fun j _ h => absurd h (by omega)⟩
  case round =>
    obtain ⟨i, hi0, hi, rfl, hB, ht⟩ := hrel
    by_cases hlt : i < l.length
    case neg =>
      have hd : decide (i < l.length) = false := decide_eq_false hlt
      have he : q = true := by
        rw [HQ.out, psorted_iff]
        exact fun j hj => ht j hj (by omega)
      subst he
      have HB := Lib.hid hB
      clear ht hi hB hlt hi0
      go_wp2
      go_ret
      exact ⟨rfl, HB.out⟩
    have hd : decide (i < l.length) = true := decide_eq_true hlt
    have HL := Lib.hid (And.intro hlt (And.intro hi0 (show i - 1 < l.length by omega)))
    obtain ⟨b, off, hAe, -, hcb⟩ := (HH.out.below hB) (by omega)
    obtain ⟨A1, c1, A2, c2, d1, -, -, hp1⟩ := hcb (i - 1) HL.out.2.2
    obtain ⟨B1, e1, B2, e2, d4, -, -, hp2⟩ := hcb i hlt
    have kw : wrap64 ((i : Int) - 1) = ((i - 1 : Nat) : Int) := by rw [w64_in (by omega)]; omega
    obtain ⟨x, hx⟩ : ∃ x, x = (l[i - 1]'HL.out.2.2).1 := ⟨_, rfl⟩
    obtain ⟨y, hy⟩ : ∃ y, y = (l[i]'HL.out.1).1 := ⟨_, rfl⟩
    have hk1 := hp1.k
    have hk2 := hp2.k
    rw [← hx] at d1 hk1
    rw [← hy] at d4 hk2
    have HX := Lib.hid (And.intro hx (And.intro hy (And.intro ht (And.intro hB (And.intro hk1 hk2)))))
    have hk1' : i - 1 < l.length := HL.out.2.2
    subst hAe
    clear hcb hx hy ht hB hp1 hp2 hk1 hk2
    go_wp2_with fail
    refine wp_region_planT (fun w' => w'.cell? ⟨b, off + (i - 1) * 3, none⟩ = some (.slice A1 x.length c1) ∧ w'.cell? ⟨b, off + i * 3, none⟩ = some (.slice B1 y.length e1)) [] [(true, 0), (true, 1), (true, 2), (true, 3), (true, 4), (true, 6), (true, 7), (true, 8), (true, 9), (true, 5), (true, 10), (false, 11), (true, 12)] (by kernel_rfl) (by kernel_rfl) (⟨d1, d4⟩) ?_
    refine wpPlan_pure [0, 1, 2, 3, 4, 6, 7, 8, 9] [(true, 5), (true, 10), (false, 11), (true, 12)] _ (by rfl) (by rfl) ?_
    dsimp only [List.filterMap, List.getElem?_cons_zero, List.getElem?_cons_succ]
    repeat (go_big_quiet_step (fail))
    refine wpQuiet_nil ?_
    refine wpPlan_takeL [5, 10] [(false, 11), (true, 12)] _ (by rfl) (by rfl) (⟨d1, d4⟩) ?_
    dsimp only [List.filterMap, List.getElem?_cons_zero, List.getElem?_cons_succ]
    (refine wpQuiet_load_cell (fun w' hw' => hw'.1) (by rfl) _ _ (by rfl) (by rfl) _ Tryd.underlying22 (by rfl) ?_; simp only [Act.put, List.setIfInBounds_toArray, List.set_cons_zero, List.set_cons_succ])
    (refine wpQuiet_load_cell (fun w' hw' => hw'.2) (by rfl) _ _ (by rfl) (by rfl) _ Tryd.underlying22 (by rfl) ?_; simp only [Act.put, List.setIfInBounds_toArray, List.set_cons_zero, List.set_cons_succ])
    refine wpQuiet_nil ?_
    refine wpPlan_forceL _ rfl ?_
    go_wp2_with fail
    have hBd : Below wr.heap.size wr wr.drew := (Below.refl _ _).drew
    refine (compare_any A1 B1 x.length y.length c1 e1 x y rfl rfl wr.drew (Bytes.below HX.out.2.2.2.2.1 hBd) (Bytes.below HX.out.2.2.2.2.2 hBd)).mono ?_
    rintro z w2 ⟨rfl, hw⟩
    subst hw
    have HB2 := Lib.hid (HX.out.2.2.2.1.drew)
    have hc2 := And.intro d1 d4
    clear hBd d1 d4
    go_wp2_with fail
    refine PlanQ.in_ hc2 ?_
    refine wpPlan_pure [12] [] _ (by rfl) (by rfl) ?_
    dsimp only [List.filterMap, List.getElem?_cons_zero, List.getElem?_cons_succ]
    repeat (go_big_quiet_step (fail))
    refine wpQuiet_nil ?_
    refine wpPlan_tidy ?_
    clear hc2
    rw [cmp_ge0 x y]
    by_cases hxy : x < y
    · rw [decide_eq_true hxy]
      have hi65 : i < 65536 := by omega
      have HF := Lib.hid (show SoRel w l (.int .i64 ((i + 1 : Nat) : Int)) wr.drew from ⟨i + 1, by omega, by omega, rfl, HB2.out, fun j hj hji => by
        by_cases e : j + 1 = i
        · subst e
          have h1 := HX.out.1
          have h2 := HX.out.2.1
          simp only [Nat.add_sub_cancel] at h1
          rw [← h1, ← h2]; exact hxy
        · exact HX.out.2.2.1 j hj (by omega)⟩)
      have HL2 := Lib.hid hlt
      clear hi hxy hi0 hlt hk1'
      go_wp2
      go_roundw
      case rel => exact HF.out
      case measure => have := HL2.out; exact meas_up (i := i) (m := l.length + 1) rfl rfl (by omega)
    · rw [decide_eq_false hxy]
      have he : q = false := by
        rw [HQ.out]
        cases hs : psorted l
        · rfl
        · refine absurd ((psorted_iff l).1 hs (i - 1) (by omega)) (fun h => hxy ?_)
          rw [HX.out.1, HX.out.2.1]
          simpa only [show i - 1 + 1 = i by omega] using h
      subst he
      clear hi hxy hi0 hlt hk1'
      go_wp2
      go_ret
      exact ⟨rfl, HB2.out⟩
end Go.Proofs.YtgkljncigbiffaaDoor

/- A walk is stopped in an arm, and goes on in the open. Plain facts. No condition. -/
namespace Go.Proofs.YtgkljncigbiffaaDoor
structure Stopped (p : Prop) : Prop where
  go : p
theorem stopped {p : Prop} (h : Stopped p) : p := h.go
end Go.Proofs.YtgkljncigbiffaaDoor

/- A pair's bytes, by the program. Conditions: the pair may be and can be read. -/
namespace Go.Proofs.YtgkljncigbiffaaDoor
open Go.RowKit
theorem own_lit (w : World) (base : Nat) (hb : base ≤ w.heap.size) (x : UInt8) : OwnB 5 (w.alloc (.cells #[u8v x] 5)) base (.slice (some ⟨w.heap.size, 0, none⟩) 1 1) [x] [] := by
  have := OwnsC.lit (e := 5) (size := 1) (base := base) w #[u8v x] 1 hb (by simp [maxLen]) (by simp)
  exact this
theorem own_lit2 (w : World) (base n : Nat) (hn : n = w.heap.size) (hb : base ≤ n) (x : UInt8) : OwnB 5 (w.alloc (.cells #[u8v x] 5)) base (.slice (some ⟨n, 0, none⟩) 1 1) [x] [] := by
  subst hn; exact own_lit w base hb x
theorem lit_bytes (w : World) (x : UInt8) : Bytes (w.alloc (.cells #[u8v x] 5)) (some ⟨w.heap.size, 0, none⟩) [x] := bytes_lit w 5 [x]
theorem u8_nat {n : Nat} (h : n < 256) : Value.int .u8 (n : Int) = u8v (UInt8.ofNat n) := (u8_of h).symm
theorem own_litN (w : World) (base m n : Nat) (hm : m = w.heap.size) (hb : base ≤ m) (hn : n < 256) : OwnB 5 (w.alloc (.cells #[.int .u8 (n : Int)] 5)) base (.slice (some ⟨m, 0, none⟩) 1 1) [UInt8.ofNat n] [] := by
  rw [u8_nat hn]; exact own_lit2 w base m hm hb _
theorem lit_bytesN (w : World) (m n : Nat) (hm : m = w.heap.size) (hn : n < 256) : Bytes (w.alloc (.cells #[.int .u8 (n : Int)] 5)) (some ⟨m, 0, none⟩) [UInt8.ofNat n] := by
  subst hm; rw [u8_nat hn]; exact lit_bytes w _
set_option maxRecDepth 100000 in
set_option maxHeartbeats 2000000 in
theorem bytesOf_any (p : PairT) (A B : Option Addr) (c e : Nat) (w : World) (hok : pok p = true) (h : PairAt w p A c B e) :
    Calls Tryd.prog 97 #[.agg (pairc p A c B e)] w fun x w' => ∃ v sp, x = .returned v ∧ OwnB 5 w' w.heap.size v (pbytes p) sp ∧ Below w.heap.size w w' := by
  obtain ⟨k1, k2, k3, k4⟩ := pok_spec hok
  have hB0 := (Below.refl w.heap.size w).alloc (Nat.le_refl _) (.cells (pairc p A c B e) 40)
  have hg1 := Blk.new w 40 (pairc p A c B e)
  have hh := h.below hB0
  unfold pairc at hg1 hB0 hh ⊢
  have d1 := hg1.at_ 0 (v := .slice A p.1.length c) rfl
  have d2 := hg1.at_ 1 (v := .slice B p.2.1.length e) rfl
  have d3 := hg1.at_ 2 (v := .bool p.2.2.1) rfl
  have H0 := Lib.hid (And.intro hB0 (And.intro hh (And.intro hg1 (And.intro k2 (And.intro k3 (And.intro k4 h))))))
  have hk : p.1.length < 256 := by omega
  have hv : p.2.1.length < 256 := by omega
  clear hB0 hg1 hh hok k1 k2 k3 k4 h
  go_enter Tryd.func97, Tryd.ntmps97
  have hB1 := ((Below.refl w.heap.size w).alloc (Nat.le_refl _) (.cells #[.slice A p.1.length c, .slice B p.2.1.length e, .bool p.2.2.1] 40)).alloc (by simp) (.cells #[.int .u8 (p.1.length : Int)] 5)
  have hk2 := Bytes.below H0.out.2.1.k ((Below.refl _ _).alloc (Nat.le_refl _) (.cells #[.int .u8 (p.1.length : Int)] 5))
  have hg2 := H0.out.2.2.1.alloc (.cells #[.int .u8 (p.1.length : Int)] 5)
  have H1 := Lib.hid (And.intro hB1 (And.intro hk2 hg2))
  clear hB1 hk2 hg2
  go_wp2_with (first
    | ((with_reducible show wpList _ _ _ ((⟨some 11, _, _, _, _, _⟩ : Oper) :: _) _ _); refine wpList_append_bytes (o := ⟨some 11, _, _, _, _, _⟩) (by rfl) _ _ _ (by rfl) (w.heap.size) _ Tryd.underlying22 u8info (.slice (some ⟨w.heap.size + 1, 0, none⟩) 1 1) ([UInt8.ofNat p.1.length]) ([]) (by rfl) (own_litN _ _ _ _ (by simp) (Nat.le_succ _) hk) (A) (c) (p.1) (by first | rfl | simp) (H1.out.2.1) (by first | omega | (simp; omega)) (by (simp; omega)) ?_; intro v1 w1 sp1 ho1 hg1 _ _; refine stopped ?_)
    | fail)
  refine Stopped.mk ?_
  have hB1 := H1.out.1.grown hg1 (by simp; omega) (fun k hk => by simp [Value.ownBlock] at hk; omega)
  have hn1 : Near [w.heap.size + 1] _ w1 := Near.grown hg1 (fun x hx => by simpa [Value.ownBlock] using hx.symm)
  have hg3 := H1.out.2.2.near hn1 (by simp)
  have hv3 : Bytes w1 B p.2.1 := Bytes.below H0.out.2.2.2.2.2.2.v hB1
  have H2 := Lib.hid (And.intro hB1 (And.intro hg3 (And.intro hv3 ho1)))
  have d4 := hg3.at_ 2 (v := .bool p.2.2.1) rfl
  have d5 := hg3.at_ 1 (v := .slice B p.2.1.length e) rfl
  have hsz1 : w.heap.size + 1 ≤ w1.heap.size := Nat.le_trans (by simp) hn1.size
  obtain ⟨A1, c1, rfl, -, -, -⟩ := OwnB.open_ ho1
  clear hB1 hn1 hg3 hv3 ho1 hg1 H1 d1 d2 d3
  cases hgone : p.2.2.1
  case true =>
    have he := H0.out.2.2.2.2.2.1 hgone
    rw [hgone] at d4
    have HG := Lib.hid (And.intro hgone he)
    have ho2 := H2.out.2.2.2.alloc (.cells #[.int .u8 255] 5)
    have hb2 : Bytes (w1.alloc (.cells #[.int .u8 255] 5)) (some ⟨w1.heap.size, 0, none⟩) [255] := lit_bytes w1 255
    have H3 := Lib.hid (And.intro ho2 (And.intro hb2 (H2.out.1.alloc (by omega) (.cells #[.int .u8 255] 5))))
    clear hgone he ho2 hb2
    go_wp2_with (first
      | ((with_reducible show wpList _ _ _ ((⟨some 16, _, _, _, _, _⟩ : Oper) :: _) _ _); refine wpList_append_bytes (o := ⟨some 16, _, _, _, _, _⟩) (by rfl) _ _ _ (by rfl) (w.heap.size) _ Tryd.underlying22 u8info (_) ([UInt8.ofNat p.1.length] ++ p.1) (sp1) (by rfl) (H3.out.1) (some ⟨w1.heap.size, 0, none⟩) (1) ([255]) (by first | rfl | simp) (H3.out.2.1) (by first | omega | (simp; omega)) (by (simp; omega)) ?_; intro v2 w2 sp2 ho2 hg2 _ _; refine stopped ?_)
      | fail)
    refine Stopped.mk ?_
    have hB4 := H3.out.2.2.grown hg2 (by simp; omega) (fun k hk => (OwnsC.lt H3.out.1 k hk).1)
    have H4 := Lib.hid (And.intro ho2 hB4)
    clear ho2 hB4 hg2
    go_wp2_with fail
    go_ret
    refine ⟨v2, sp2, rfl, ?_, H4.out.2⟩
    have e : pbytes p = [UInt8.ofNat p.1.length] ++ p.1 ++ [255] := by unfold pbytes; rw [HG.out.1, if_pos rfl]; rfl
    rw [e]; exact H4.out.1
  case false =>
    rw [hgone] at d4
    have HG := Lib.hid hgone
    clear hgone
    go_wp2_with fail
    refine wp_region_tree (fun w' => w'.cell? ⟨w.heap.size, 1, none⟩ = some (.slice B p.2.1.length e)) [] (PlanT.takes [0, 1, 7] (PlanT.takes [2, 8] (PlanT.takes [3, 4] (.opt 5 (.opt 6 (.opt 9 (PlanT.takes [10] .done) .no) .no) .no)))) (by kernel_rfl) (by kernel_rfl) (d5) ?_
    refine wpTree_pure _ _ _ (by rfl) (by rfl) ?_
    dsimp only [List.filterMap, List.getElem?_cons_zero, List.getElem?_cons_succ]
    repeat (go_big_quiet_step (fail))
    refine wpQuiet_nil ?_
    refine wpTree_takeL _ _ _ (by rfl) (by rfl) (d5) ?_
    dsimp only [List.filterMap, List.getElem?_cons_zero, List.getElem?_cons_succ]
    (refine wpQuiet_load_cell (fun w' hw' => hw') (by rfl) _ _ (by rfl) (by rfl) _ Tryd.underlying22 (by rfl) ?_; simp only [Act.put, List.setIfInBounds_toArray, List.set_cons_zero, List.set_cons_succ])
    (refine wpQuiet_load_cell (fun w' hw' => hw') (by rfl) _ _ (by rfl) (by rfl) _ Tryd.underlying22 (by rfl) ?_; simp only [Act.put, List.setIfInBounds_toArray, List.set_cons_zero, List.set_cons_succ])
    refine wpQuiet_nil ?_
    refine wpTree_pure _ _ _ (by rfl) (by rfl) ?_
    dsimp only [List.filterMap, List.getElem?_cons_zero, List.getElem?_cons_succ]
    repeat (go_big_quiet_step (fail))
    refine wpQuiet_nil ?_
    refine wpTree_one _ rfl ?_
    go_wp2_with fail
    have hbw : Below w1.heap.size w1 (w1.alloc (.cells #[.int .u8 (p.2.1.length : Int)] 5)).drew := ((Below.refl w1.heap.size w1).alloc (Nat.le_refl _) _).drew
    have ho2 := OwnsC.ownBelow H2.out.2.2.2 hbw
    have hb2 : Bytes (w1.alloc (.cells #[.int .u8 (p.2.1.length : Int)] 5)).drew (some ⟨w1.heap.size, 0, none⟩) [UInt8.ofNat p.2.1.length] := lit_bytesN w1 _ _ rfl hv
    have hB2 : Below w.heap.size w (w1.alloc (.cells #[.int .u8 (p.2.1.length : Int)] 5)).drew := H2.out.1.trans (hbw.mono H2.out.1.size)
    have hv2 := Bytes.below H0.out.2.2.2.2.2.2.v hB2
    have hg2 := H2.out.2.1.below hbw H2.out.2.1.lt
    have d6 := hg2.at_ 1 (v := .slice B p.2.1.length e) rfl
    have hs2 : w.heap.size ≤ (w1.alloc (.cells #[.int .u8 (p.2.1.length : Int)] 5)).drew.heap.size := hB2.size
    have H3 := Lib.hid (And.intro ho2 (And.intro hb2 (And.intro hB2 (And.intro hv2 (And.intro hg2 hs2)))))
    clear hbw ho2 hb2 hB2 hv2 hg2 d5 d4 hs2
    generalize (w1.alloc (.cells #[.int .u8 (p.2.1.length : Int)] 5)).drew = w2 at H3 d6 ⊢
    refine TreeQ.in_ d6 ?_
    refine wpTree_one _ rfl ?_
    go_wp2_with (first
      | ((with_reducible show wpList _ _ _ ((⟨some 23, _, _, _, _, _⟩ : Oper) :: _) _ _); refine wpList_append_bytes (o := ⟨some 23, _, _, _, _, _⟩) (by rfl) _ _ _ (by rfl) (w.heap.size) _ Tryd.underlying22 u8info (_) ([UInt8.ofNat p.1.length] ++ p.1) (sp1) (by rfl) (H3.out.1) (some ⟨w1.heap.size, 0, none⟩) (1) ([UInt8.ofNat p.2.1.length]) (by first | rfl | simp) (H3.out.2.1) (by first | omega | (simp; omega)) (H3.out.2.2.2.2.2) ?_; intro v2 w3 sp2 ho3 hg3 _ _; refine stopped ?_)
      | fail)
    refine Stopped.mk ?_
    have hB3 := H3.out.2.2.1.grown hg3 H3.out.2.2.2.2.2 (fun k hk => (OwnsC.lt H3.out.1 k hk).1)
    have hv3 := Bytes.below H0.out.2.2.2.2.2.2.v hB3
    have hb3 := H3.out.2.2.2.2.1.near (Near.grown hg3 (fun x hx => Option.mem_toList.2 hx)) (fun hm => by
      obtain ⟨cs, hb⟩ := ownBlk H3.out.1 (Option.mem_toList.1 hm)
      exact H3.out.2.2.2.2.1.apart hb (by decide) rfl)
    have d7 := hb3.at_ 1 (v := .slice B p.2.1.length e) rfl
    obtain ⟨A3, c3, rfl, -, -, -⟩ := OwnB.open_ ho3
    have H4 := Lib.hid (And.intro ho3 (And.intro hB3 (And.intro hv3 hb3)))
    clear ho3 hB3 hv3 hg3 hb3 d6 H3
    go_wp2_with fail
    refine TreeQ.in_ d7 ?_
    refine wpTree_one _ rfl ?_
    go_wp2_with (first
      | ((with_reducible show wpList _ _ _ ((⟨some 26, _, _, _, _, _⟩ : Oper) :: _) _ _); refine wpList_append_bytes (o := ⟨some 26, _, _, _, _, _⟩) (by rfl) _ _ _ (by rfl) (w.heap.size) _ Tryd.underlying22 u8info (_) ([UInt8.ofNat p.1.length] ++ p.1 ++ [UInt8.ofNat p.2.1.length]) (sp2) (by rfl) (H4.out.1) (B) (e) (p.2.1) (by first | rfl | simp) (H4.out.2.2.1) (by first | omega | (simp; omega)) (H4.out.2.1.size) ?_; intro v4 w4 sp4 ho4 hg4 _ _; refine stopped ?_)
      | fail)
    refine Stopped.mk ?_
    have hB4 := H4.out.2.1.grown hg4 H4.out.2.1.size (fun k hk => (OwnsC.lt H4.out.1 k hk).1)
    have d8 := (H4.out.2.2.2.near (Near.grown hg4 (fun x hx => Option.mem_toList.2 hx)) (fun hm => by
      obtain ⟨cs, hb⟩ := ownBlk H4.out.1 (Option.mem_toList.1 hm)
      exact H4.out.2.2.2.apart hb (by decide) rfl)).at_ 1 (v := .slice B p.2.1.length e) rfl
    have H5 := Lib.hid (And.intro ho4 hB4)
    clear ho4 hB4 hg4 H4 d7
    go_wp2_with fail
    refine TreeQ.in_ d8 ?_
    refine wpTree_pure _ _ _ (by rfl) (by rfl) ?_
    dsimp only [List.filterMap, List.getElem?_cons_zero, List.getElem?_cons_succ]
    repeat (go_big_quiet_step (fail))
    refine wpQuiet_nil ?_
    refine wpTree_done ?_
    go_wp2_with fail
    go_ret
    refine ⟨v4, sp4, rfl, ?_, H5.out.2⟩
    have e : pbytes p = [UInt8.ofNat p.1.length] ++ p.1 ++ [UInt8.ofNat p.2.1.length] ++ p.2.1 := by unfold pbytes; rw [HG.out, if_neg (by simp)]; simp
    rw [e]; exact H5.out.1
end Go.Proofs.YtgkljncigbiffaaDoor
