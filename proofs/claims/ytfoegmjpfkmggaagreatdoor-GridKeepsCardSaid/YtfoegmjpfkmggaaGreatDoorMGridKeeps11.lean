/- A block is written: the grid's Write. Conditions: the grid is known; the lists can be read; the library's table is there. -/
import Derived.Test.YtfoegmjpfkmggaaGreatDoorMGridKeeps10
import Derived.RangeFuncNested
import Derived.RangeFuncBound
import Derived.RangeFuncCalls
import Derived.RangeFuncLeaves
import Derived.Shelf.Abstract
import Derived.Shelf.RegionOpen
import Derived.WalkKit
import Derived.OwnWalkIn
import Derived.TacticsInMore
import Derived.LoopNIn
import Derived.LoopIn
namespace Go.Proofs.YtfoegmjpfkmggaaGreatDoor
open Go.RowKit
theorem zeroRefrun (w : World) : (zeroValue 113).run Tryz.prog w = .ok (.agg #[.int .i64 0, .int .i64 0]) w := by kernel_rfl
/-- What a write answers: the error's number, the ref, the grid, the disk, its fuse. -/
def gput (g : Grd) (d : Dsk) (f : Option Fus) (k : Int) (l : List RefT) (m : List UInt8) (s : Int) : (Int × RefT) × Grd × Dsk × Option Fus :=
  if d.isOut f = true then ((11, (0, 0, ())), g, d, f)
  else if GB.ok (k, (1, s, ()), l, m, ()) = false then ((2, (0, 0, ())), g, d, f)
  else if acqE g.L ≠ 0 then ((acqE g.L, (0, 0, ())), g, d, f)
  else if (d.write f (gplace (acqN g.L)) (GB.bytes (k, (acqN g.L, s, ()), l, m, ()))).1 ≠ 0 then (((d.write f (gplace (acqN g.L)) (GB.bytes (k, (acqN g.L, s, ()), l, m, ()))).1, (0, 0, ())), g, (d.write f (gplace (acqN g.L)) (GB.bytes (k, (acqN g.L, s, ()), l, m, ()))).2)
  else ((0, (acqN g.L, s, ())), { g with L := acqL g.L }, (d.write f (gplace (acqN g.L)) (GB.bytes (k, (acqN g.L, s, ()), l, m, ()))).2)
theorem GB.ok_at {k a s : Int} {l : List RefT} {m : List UInt8} (h : GB.ok (k, (1, s, ()), l, m, ()) = true) (h1 : 1 ≤ a) (h2 : a ≤ 512) : GB.ok (k, (a, s, ()), l, m, ()) = true := by
  unfold GB.ok refOk at *
  simp only [Bool.and_eq_true, decide_eq_true_eq] at *
  obtain ⟨⟨⟨⟨⟨a1, a2⟩, ⟨⟨⟨b1, b2⟩, b3⟩, b4⟩⟩, c1⟩, c2⟩, c3⟩ := h
  exact ⟨⟨⟨⟨⟨a1, a2⟩, ⟨⟨⟨h1, h2⟩, b3⟩, b4⟩⟩, c1⟩, c2⟩, c3⟩
theorem acq_range {L : List Nat} (hok : SetOk L) (h : ¬ acqE L ≠ 0) : 1 ≤ acqN L ∧ acqN L ≤ (L.length : Int) ∧ acqN L ≤ 512 := by
  have hl := hok.len
  unfold acqE acqN at *
  split at h
  · rename_i h1
    rw [if_pos h1]; omega
  · exact absurd (by decide) h
theorem Dsk.write_N (d : Dsk) (f : Option Fus) (a : Int) (b : List UInt8) : (d.write f a b).2.1.N = d.N := by
  unfold Dsk.write chg
  split
  · rfl
  split
  · rfl
  split
  · rfl
  split
  · rfl
  · split <;> rfl
theorem GridR.wrote {w w' : World} {q : GPl} {g : Grd} {d d2 : Dsk} {f f2 : Option Fus} (h : GridR w q g d f) (hk : DkOk w' q.p q.gf d2 f2) (k : Near (q.p.all q.gf) w w') (hN : d2.N = d.N) : GridR w' q g d2 f2 := by
  have hap := h.apart
  obtain ⟨wv, sp, h1, h2, h3⟩ := h.wn
  exact ⟨hk, h.st.near k hap.s, h.mp.near k hap.i, ⟨wv, sp, h1, h2.near k hap.g, OwnsC.nearO h3 k (fun x hx => hap.w x (h1 ▸ hx))⟩, ⟨h.ok.h1, h.ok.h512, h.ok.len, h.ok.set, by rw [hN]; exact h.ok.room, h.ok.nd⟩, h.ne⟩
/-- Another set is a grid's. -/
theorem GridR.setTo {w : World} {q : GPl} {g : Grd} {d : Dsk} {f : Option Fus} {gS : Nat} {L : List Nat} (h : GridR w q g d f) (hs : Blk w gS 220 (setCells L)) (hL : SetOk L) (hlen : L.length = g.n) :
    GridR (w.setCell ⟨q.gg, 2, none⟩ (.pointer (some ⟨gS, 0, none⟩))) { q with gs := gS } { g with L := L } d f ∧ Upd q.gg w (w.setCell ⟨q.gg, 2, none⟩ (.pointer (some ⟨gS, 0, none⟩))) := by
  have hu : Upd q.gg w (w.setCell ⟨q.gg, 2, none⟩ (.pointer (some ⟨gS, 0, none⟩))) := (Upd.refl _ _).set 2 _
  have hap := h.apart
  have k : Near [q.gg] w (w.setCell ⟨q.gg, 2, none⟩ (.pointer (some ⟨gS, 0, none⟩))) := Near.upd hu (List.mem_singleton_self _)
  obtain ⟨wv, sp, h1, h2, h3⟩ := h.wn
  exact ⟨⟨h.dk.nearX k (fun x hx hm => hap.g (List.mem_singleton.1 hm ▸ hx)), hs.near k (fun hm => hs.apart h2 (by decide) (List.mem_singleton.1 hm)), h.mp.near k (fun hm => hap.gi (List.mem_singleton.1 hm).symm),
    ⟨wv, sp, h1, h2.set_ 2 _, OwnsC.nearO h3 k (fun x hx hm => (hap.wo x (h1 ▸ hx)).1 (List.mem_singleton.1 hm))⟩, ⟨h.ok.h1, h.ok.h512, hlen, hL, h.ok.room, h.ok.nd⟩, h.ne⟩, hu⟩
/-- A block that came since is written last. -/
theorem GPost.last {w w1 w' : World} {q q' : GPl} {g0 g : Grd} {d0 d : Dsk} {f0 f : Option Fus} {x : Nat} (h0 : GridR w q g0 d0 f0) (e1 : q'.gg = q.gg) (e2 : q'.p = q.p) (e3 : q'.gf = q.gf) (h : GridR w1 q' g d f) (k : Near q.all w w1) (hs : ∀ y ∈ q'.all, y ∈ q.all ∨ x < y) (u : Upd x w1 w') (hx : w.heap.size ≤ x) : GPost w q g d f w' := by
  refine ⟨q', e1, e2, e3, h.near (Near.upd u (List.mem_singleton_self _)) (fun y hy hm => ?_), k.new u hx, fun y hy => (hs y hy).imp id fun hl => by omega⟩
  have hm := List.mem_singleton.1 hm
  subst hm
  rcases hs _ hy with h | h
  · have := h0.lt _ h; omega
  · omega
section
variable {w : World} {q : GPl} {g : Grd} {d : Dsk} {f : Option Fus}
set_option maxRecDepth 100000 in
set_option maxHeartbeats 8000000 in
theorem gwrite_any (h : GridR w q g d f) (k s : Int) (A B : Option Addr) (n c m e1 : Nat) (l : List RefT) (body : List UInt8) (hn : n = l.length) (hm : m = body.length) (hl : l.length ≤ 1000) (hbl : body.length ≤ 5000) (hr : Refs w A l) (hb : Bytes w B body) (hT : Tab w) :
    Calls Tryz.prog 109 #[.pointer (some ⟨q.gg, 0, none⟩), .int .i64 k, .slice A n c, .slice B m e1, .int .i64 s] w fun e w' => e = .returned (.tuple #[.agg #[.int .i64 (gput g d f k l body s).1.2.1, .int .i64 (gput g d f k l body s).1.2.2.1], .int .i64 (gput g d f k l body s).1.1]) ∧
      GPost w q (gput g d f k l body s).2.1 (gput g d f k l body s).2.2.1 (gput g d f k l body s).2.2.2 w' := by
  subst hn hm
  have hz := zeroGBrun
  have hzr := zeroRefrun
  have hB := (Below.refl w.heap.size w).alloc (Nat.le_refl _) (.cells #[.int .i64 0, .int .i64 0] 113)
  have hb0 := Blk.new w 113 #[.int .i64 0, .int .i64 0]
  have H0 := Lib.hid (And.intro h (And.intro hB (And.intro hb0 (And.intro (h.below hB) (And.intro hl (And.intro hbl (And.intro (hr.below hB) (And.intro (Bytes.below hb hB) (Tab.below hT hB)))))))))
  have HW := Lib.hid (And.intro hr (And.intro hb hT))
  clear h hB hb0 hl hbl hr hb hT
  go_enter Tryz.func109, Tryz.ntmps109
  go_wp2_with fail
  generalize w.alloc (.cells #[.int .i64 0, .int .i64 0] 113) = w1 at H0 ⊢
  refine (gready_any H0.out.2.2.2.1).mono ?_
  rintro e w2 ⟨rfl, hw⟩
  obtain rfl := hw.symm
  clear hw
  by_cases hq : d.isOut f = true
  · have HL : Hid (gput g d f k l body s = ((11, (0, 0, ())), g, d, f)) := Lib.hid (if_pos hq)
    rw [if_pos hq]
    have hbz := H0.out.2.2.1
    clear hq
    go_wp2_with (first
      | ((with_reducible show wpList _ _ _ ((⟨none, _, _, _, _, _⟩ : Oper) :: _) _ _); refine wpList_store_blk (o := ⟨none, _, _, _, _, _⟩) (hbz) (by rfl) _ _ _ (by rfl) (by rfl) (#[.int .i64 0, .int .i64 0]) (by rfl) (size_ref) (by rfl) (by rfl) (by simp [Value.oneCell']) ?_; intro w6 h6 hu6)
      | fail)
    refine bodyPost_ret (results_row_tmp (by rfl) _ _ w.heap.size _ _ _ (by rfl) h6 Tryz.underlying113 (by rfl) size_ref) rfl ?_
    rw [HL.out]
    exact ⟨rfl, GPost.same H0.out.1 (H0.out.2.1.upd hu6 (Nat.le_refl _))⟩
  rw [if_neg hq]
  have HQ := Lib.hid (show d.isOut f = false by simpa using hq)
  clear hq
  go_wp2_with (first
    | ((with_reducible show wpList _ _ _ ((⟨none, _, _, _, _, _⟩ : Oper) :: _) _ _); refine wpList_store_blk (o := ⟨none, _, _, _, _, _⟩) ((Blk.new w1 116 #[.int .i64 0, .int .i64 0, .int .i64 0, .slice none 0 0, .slice none 0 0])) (by rfl) _ _ _ (by rfl) (by rfl) (#[.int .i64 k, .int .i64 1, .int .i64 s, .slice A l.length c, .slice B body.length e1]) (by rfl) (sizeGB) (by rfl) (by rfl) (by simp [Value.oneCell']) ?_; intro w2 h2 hu2; have hbx := ((Below.refl w1.heap.size w1).alloc (Nat.le_refl _) (.cells #[.int .i64 0, .int .i64 0, .int .i64 0, .slice none 0 0, .slice none 0 0] 116)).upd hu2 (Nat.le_refl _); have H2 := Lib.hid (And.intro h2 (And.intro (H0.out.2.1.trans (hbx.mono H0.out.2.1.size)) (And.intro (H0.out.2.2.1.below hbx H0.out.2.2.1.lt) (And.intro (H0.out.2.2.2.1.below hbx) (And.intro (H0.out.2.2.2.2.2.2.1.below hbx) (And.intro (Bytes.below H0.out.2.2.2.2.2.2.2.1 hbx) (And.intro (Tab.below H0.out.2.2.2.2.2.2.2.2 hbx) H0.out.2.2.1.lt))))))); clear hu2 hbx)
    | ((with_reducible show wpList _ _ _ ((⟨some 32, _, _, _, _, _⟩ : Oper) :: _) _ _); refine wpList_load_blk (o := ⟨some 32, _, _, _, _, _⟩) (h2) (by rfl) _ _ (by rfl) (by rfl) _ Tryz.underlying116 (by rfl) (sizeGB) (by rfl) ?_)
    | fail)
  have hsz1 := H2.out.2.2.2.2.2.2.2
  generalize w1.heap.size = gB at H2 h2 hsz1 ⊢
  clear h2
  refine (check_any k 1 s A B c e1 l body H0.out.2.2.2.2.1 H0.out.2.2.2.2.2.1 w2 H2.out.2.2.2.2.1).mono ?_
  rintro e w3 ⟨rfl, hbx⟩
  have H3 := Lib.hid (And.intro (H2.out.1.below hbx H2.out.1.lt) (And.intro (H2.out.2.1.trans (hbx.mono H2.out.2.1.size)) (And.intro (H2.out.2.2.1.below hbx H2.out.2.2.1.lt) (And.intro (H2.out.2.2.2.1.below hbx) (And.intro (H2.out.2.2.2.2.1.below hbx) (And.intro (Bytes.below H2.out.2.2.2.2.2.1 hbx) (Tab.below H2.out.2.2.2.2.2.2.1 hbx)))))))
  clear hbx H2
  by_cases hok : GB.ok (k, (1, s, ()), l, body, ()) = true
  case neg =>
    have hok' : GB.ok (k, (1, s, ()), l, body, ()) = false := by simpa using hok
    have HL : Hid (gput g d f k l body s = ((2, (0, 0, ())), g, d, f)) := Lib.hid (by unfold gput; rw [if_neg (by rw [HQ.out]; simp), if_pos hok'])
    rw [GB.code_no hok']
    have hbz := H3.out.2.2.1
    clear hok hok'
    go_wp2_with (first
      | ((with_reducible show wpList _ _ _ ((⟨none, _, _, _, _, _⟩ : Oper) :: _) _ _); refine wpList_store_blk (o := ⟨none, _, _, _, _, _⟩) (hbz) (by rfl) _ _ _ (by rfl) (by rfl) (#[.int .i64 0, .int .i64 0]) (by rfl) (size_ref) (by rfl) (by rfl) (by simp [Value.oneCell']) ?_; intro w6 h6 hu6)
      | fail)
    refine bodyPost_ret (results_row_tmp (by rfl) _ _ w.heap.size _ _ _ (by rfl) h6 Tryz.underlying113 (by rfl) size_ref) rfl ?_
    rw [HL.out]
    exact ⟨rfl, GPost.same H0.out.1 (H3.out.2.1.upd hu6 (Nat.le_refl _))⟩
  rw [GB.code_ok hok]
  have HOK := Lib.hid hok
  clear hok
  obtain ⟨wv, hgb⟩ := H3.out.2.2.2.1.blk
  have d2 := hgb.at_ 2 (v := .pointer (some ⟨q.gs, 0, none⟩)) rfl
  clear hgb
  go_wp2_with fail
  have hok3 := H3.out.2.2.2.1.ok
  refine (clone_any g.L (by have := hok3.len; have := hok3.h1; omega) q.gs w3 H3.out.2.2.2.1.st).mono ?_
  rintro e w4 ⟨rfl, hcs, hbx⟩
  have H4 := Lib.hid (And.intro (H3.out.1.below hbx H3.out.1.lt) (And.intro (H3.out.2.1.trans (hbx.mono H3.out.2.1.size)) (And.intro (H3.out.2.2.1.below hbx H3.out.2.2.1.lt) (And.intro (H3.out.2.2.2.1.below hbx) (And.intro (H3.out.2.2.2.2.1.below hbx) (And.intro (Bytes.below H3.out.2.2.2.2.2.1 hbx) (And.intro (Tab.below H3.out.2.2.2.2.2.2 hbx) (And.intro H3.out.1.lt (And.intro H3.out.2.1.size H3.out.2.2.1.lt)))))))))
  clear hbx d2 hok3
  generalize w3.heap.size = gS at hcs H4 ⊢
  clear H3
  go_wp2_with fail
  have hok4 := H4.out.2.2.2.1.ok
  refine (acquire_any g.L hok4.set (by have := hok4.len; have := hok4.h1; omega) gS w4 hcs H4.out.2.2.2.2.2.2.1).mono ?_
  rintro e w5 ⟨rfl, hcs5, hu5⟩
  have hB5 := H4.out.2.1.upd hu5 H4.out.2.2.2.2.2.2.2.2.1
  have H5 := Lib.hid (And.intro (H4.out.1.upd hu5 (Nat.ne_of_lt H4.out.2.2.2.2.2.2.2.1)) (And.intro hB5 (And.intro (H4.out.2.2.1.upd hu5 (Nat.ne_of_lt H4.out.2.2.2.2.2.2.2.2.2)) (And.intro hcs5 (And.intro (H0.out.1.below hB5) (And.intro hcs5.lt H4.out.2.2.2.2.2.2.2.2.2))))))
  have HS := Lib.hid hok4.set
  have HN := Lib.hid hok4
  clear hB5 hcs5 hu5 hcs H4 hok4
  by_cases he : acqE g.L ≠ 0
  · have HL : Hid (gput g d f k l body s = ((acqE g.L, (0, 0, ())), g, d, f)) := Lib.hid (by unfold gput; rw [if_neg (by rw [HQ.out]; simp), if_neg (by rw [HOK.out]; simp), if_pos he])
    have he8 : acqE g.L = 8 := by unfold acqE at he ⊢; split at he <;> simp_all
    rw [he8] at HL ⊢
    have hbz := H5.out.2.2.1
    clear he he8
    go_wp2_with (first
      | ((with_reducible show wpList _ _ _ ((⟨none, _, _, _, _, _⟩ : Oper) :: _) _ _); refine wpList_store_blk (o := ⟨none, _, _, _, _, _⟩) (hbz) (by rfl) _ _ _ (by rfl) (by rfl) (#[.int .i64 0, .int .i64 0]) (by rfl) (size_ref) (by rfl) (by rfl) (by simp [Value.oneCell']) ?_; intro w6 h6 hu6)
      | fail)
    refine bodyPost_ret (results_row_tmp (by rfl) _ _ w.heap.size _ _ _ (by rfl) h6 Tryz.underlying113 (by rfl) size_ref) rfl ?_
    rw [HL.out]
    exact ⟨rfl, GPost.same H0.out.1 (H5.out.2.1.upd hu6 (Nat.le_refl _))⟩
  have he0 : acqE g.L = 0 := by simpa using he
  have hra := acq_range HS.out he
  have HL0 : Hid (gput g d f k l body s = if (d.write f (gplace (acqN g.L)) (GB.bytes (k, (acqN g.L, s, ()), l, body, ()))).1 ≠ 0 then (((d.write f (gplace (acqN g.L)) (GB.bytes (k, (acqN g.L, s, ()), l, body, ()))).1, (0, 0, ())), g, (d.write f (gplace (acqN g.L)) (GB.bytes (k, (acqN g.L, s, ()), l, body, ()))).2)
    else ((0, (acqN g.L, s, ())), { g with L := acqL g.L }, (d.write f (gplace (acqN g.L)) (GB.bytes (k, (acqN g.L, s, ()), l, body, ()))).2)) := Lib.hid (by unfold gput; rw [if_neg (by rw [HQ.out]; simp), if_neg (by rw [HOK.out]; simp), if_neg he])
  have HA := Lib.hid hra
  have HOA := Lib.hid (GB.ok_at HOK.out hra.1 hra.2.2)
  rw [he0]
  clear he he0 hra
  have dB := H5.out.1.at_ 1 (v := .int .i64 1) rfl
  have fB := H5.out.1.frozen 1
  have hB12 : Blk (w5.setCell ⟨gB, 1, none⟩ (.int .i64 (acqN g.L))) gB 116 #[.int .i64 k, .int .i64 (acqN g.L), .int .i64 s, .slice A l.length c, .slice B body.length e1] := H5.out.1.set_ 1 _
  have hu12 : Upd gB w5 (w5.setCell ⟨gB, 1, none⟩ (.int .i64 (acqN g.L))) := (Upd.refl _ _).set 1 _
  go_wp2_with (first
    | ((with_reducible show wpList _ _ _ ((⟨some 54, _, _, _, _, _⟩ : Oper) :: _) _ _); refine wpList_load_blk (o := ⟨some 54, _, _, _, _, _⟩) (hB12) (by rfl) _ _ (by rfl) (by rfl) _ Tryz.underlying116 (by rfl) (sizeGB) (by rfl) ?_)
    | fail)
  have hB6 := H5.out.2.1.upd hu12 (Nat.le_of_lt hsz1)
  have H6 := Lib.hid (And.intro hB12 (And.intro hB6 (And.intro (H5.out.2.2.1.upd hu12 (Nat.ne_of_lt hsz1)) (And.intro (H5.out.2.2.2.1.upd hu12 (H5.out.2.2.2.1.apart H5.out.1 (by decide))) (And.intro (H0.out.1.below hB6) (And.intro (Nat.lt_of_lt_of_le H5.out.2.2.2.2.2.1 (Nat.le_of_eq hu12.size.symm)) H5.out.2.2.2.2.2.2))))))
  clear hB12 hB6 dB fB hu12
  generalize w5.setCell ⟨gB, 1, none⟩ (.int .i64 (acqN g.L)) = w6 at H6 ⊢
  clear H5
  refine (bytes_ok k (acqN g.L) s A B c e1 l body HOA.out w6 (HW.out.1.below H6.out.2.1) (Bytes.below HW.out.2.1 H6.out.2.1)).mono ?_
  rintro e w7 ⟨gY, rfl, hgY, hY, hbx⟩
  have hB7 := H6.out.2.1.trans (hbx.mono H6.out.2.1.size)
  have H7 := Lib.hid (And.intro (H6.out.1.below hbx H6.out.1.lt) (And.intro hB7 (And.intro (H6.out.2.2.1.below hbx H6.out.2.2.1.lt) (And.intro (H6.out.2.2.2.1.below hbx H6.out.2.2.2.1.lt) (And.intro (H0.out.1.below hB7) (And.intro (Nat.lt_of_lt_of_le H6.out.2.2.2.2.2.1 hbx.size) (And.intro H6.out.2.2.2.2.2.2 (And.intro (Nat.le_trans H6.out.2.1.size hgY) hY))))))))
  clear hB7 hbx hgY hY H6
  go_wp2_with fail
  have hap := H7.out.2.2.2.2.1.apart
  have hN0 : Near (q.p.all q.gf) w7 w7 := Near.refl _ _
  have e0 : ∀ w', Near (q.p.all q.gf) w7 w' → w'.cell? ⟨q.gg, 0, none⟩ = some (.pointer (some ⟨q.p.gd, 0, none⟩)) := fun w' hw' => by
    obtain ⟨wv, sp, -, h2, -⟩ := H7.out.2.2.2.2.1.wn
    exact (h2.near hw' hap.g).at_ 0 (v := .pointer (some ⟨q.p.gd, 0, none⟩)) rfl
  have e0 := Lib.hid e0
  have hap := Lib.hid hap
  refine wp_region_tree (Near (q.p.all q.gf) w7) [] (PlanT.takes [0, 1, 2, 4, 6] (PlanT.takes [3] (.opt 5 (.opt 7 (PlanT.takes [8] .done) .no) .no))) (by kernel_rfl) (by kernel_rfl) (hN0.drew) ?_
  refine wpTree_pure _ _ _ (by rfl) (by rfl) ?_
  dsimp only [List.filterMap, List.getElem?_cons_zero, List.getElem?_cons_succ]
  repeat (go_big_quiet_step (fail))
  refine wpQuiet_nil ?_
  refine wpTree_takeL _ _ _ (by rfl) (by rfl) (hN0.drew) ?_
  dsimp only [List.filterMap, List.getElem?_cons_zero, List.getElem?_cons_succ]
  (refine wpQuiet_load_cell (fun w' hw' => e0.out w' hw') (by rfl) _ _ (by rfl) (by rfl) _ Tryz.underlying25 (by rfl) ?_; simp only [Act.put, List.setIfInBounds_toArray, List.set_cons_zero, List.set_cons_succ])
  refine wpQuiet_nil ?_
  refine wpTree_one _ rfl ?_
  go_wp2_with fail
  refine (gplace_any (acqN g.L) HA.out.1 (by have := HA.out.2; omega) _).mono ?_
  rintro e w8 ⟨rfl, hw8⟩
  have hk8 : Near [] w7 w8 := by rw [hw8]; exact (Near.refl _ _).drew
  have H8 := Lib.hid (And.intro (H7.out.2.2.2.2.1.dk.nearX hk8 (fun _ _ => List.not_mem_nil)) (hk8.wider (Y := q.p.all q.gf) (fun x hx => by simp at hx)))
  have hY8 := H7.out.2.2.2.2.2.2.2.2.near hk8 List.not_mem_nil
  clear hw8 hk8 hN0
  go_wp2_with fail
  refine TreeQ.in_ H8.out.2 ?_
  refine wpTree_one _ rfl ?_
  go_wp2_with fail
  have hlt := H0.out.1.dk.lt
  have hgY := H7.out.2.2.2.2.2.2.2.1
  have hlenY := GB.bytes_length (k, (acqN g.L, s, ()), l, body, ()) (GB.ok_spec HOA.out).2.2.1 (GB.ok_spec HOA.out).2.2.2.1
  refine (write_ok' (gplace (acqN g.L)) 1024 1024 (some ⟨gY, 0, none⟩) (GB.bytes (k, (acqN g.L, s, ()), l, body, ())) w8 hlenY.symm (Blk.bytes hY8) (fun ad e hx => by cases e; have h2 : gY < w.heap.size := hlt _ hx; omega) (by rw [hlenY]; exact Nat.le_refl _) (by rw [hlenY]; omega) H8.out.1).mono ?_
  rintro e w9 ⟨rfl, hdk9, hn9⟩
  have hk9 := H8.out.2.trans hn9
  have hN9 := Dsk.write_N d f (gplace (acqN g.L)) (GB.bytes (k, (acqN g.L, s, ()), l, body, ()))
  have HL1 := HL0.out
  generalize d.write f (gplace (acqN g.L)) (GB.bytes (k, (acqN g.L, s, ()), l, body, ())) = W at hdk9 hN9 HL1 ⊢
  obtain ⟨c0, d2, f2⟩ := W
  simp only at hdk9 hN9 HL1 ⊢
  have hof : ∀ x, w.heap.size ≤ x → x ∉ q.p.all q.gf := fun x hx hm => by have := hlt x hm; omega
  have H9 := Lib.hid (And.intro (H7.out.1.near hk9 (hof _ (Nat.le_of_lt hsz1))) (And.intro (H7.out.2.2.1.near hk9 (hof _ (Nat.le_refl _))) (And.intro (H7.out.2.2.2.1.near hk9 (hof _ (Nat.le_of_lt H7.out.2.2.2.2.2.2.1))) (And.intro (H7.out.2.2.2.2.1.wrote hdk9 hk9 hN9) (And.intro (((Near.below H7.out.2.1 : Near (q.p.all q.gf) w w7).trans hk9).wider (Y := q.all) (fun x hx => GPl.mem.2 (.inr (.inr (.inr (.inr hx)))))) H7.out.2.2.2.2.2.2.1)))))
  have HL1 := Lib.hid HL1
  have hC9 := Lib.hid hk9
  clear hdk9 hk9 hN9 hn9 hof hlenY hlt hgY hY8 HL0 H8 H7
  go_wp2_with fail
  refine TreeQ.in_ hC9.out ?_
  refine wpTree_pure _ _ _ (by rfl) (by rfl) ?_
  dsimp only [List.filterMap, List.getElem?_cons_zero, List.getElem?_cons_succ]
  repeat (go_big_quiet_step (fail))
  refine wpQuiet_nil ?_
  refine wpTree_done ?_
  clear hC9 e0
  by_cases he : c0 = 0
  case neg =>
    have HL2 := Lib.hid (HL1.out.trans (if_pos he))
    have kn := decide_eq_false he
    have hbz := H9.out.2.1
    go_wp2_with (first
      | ((with_reducible show wpList _ _ _ ((⟨none, _, _, _, _, _⟩ : Oper) :: _) _ _); refine wpList_store_blk (o := ⟨none, _, _, _, _, _⟩) (hbz) (by rfl) _ _ _ (by rfl) (by rfl) (#[.int .i64 0, .int .i64 0]) (by rfl) (size_ref) (by rfl) (by rfl) (by simp [Value.oneCell']) ?_; intro w10 h10 hu10)
      | fail)
    refine bodyPost_ret (results_row_tmp (by rfl) _ _ w.heap.size _ _ _ (by rfl) h10 Tryz.underlying113 (by rfl) size_ref) rfl ?_
    rw [HL2.out]
    exact ⟨rfl, GPost.last H0.out.1 rfl rfl rfl H9.out.2.2.2.1 H9.out.2.2.2.2.1 (fun y hy => .inl hy) hu10 (Nat.le_refl _)⟩
  subst he
  have HL2 := Lib.hid (HL1.out.trans (if_neg (by simp)))
  clear HL1
  obtain ⟨wv, sp, -, hgb, -⟩ := H9.out.2.2.2.1.wn
  have d2' := hgb.at_ 2 (v := .pointer (some ⟨q.gs, 0, none⟩)) rfl
  have f2' := hgb.frozen 2
  have hST := GridR.setTo H9.out.2.2.2.1 H9.out.2.2.1 HS.out.acq ((acqL_length g.L).trans HN.out.len)
  have hgg : q.gg < w.heap.size := H0.out.1.lt _ (GPl.mem.2 (.inl rfl))
  have H10 := Lib.hid (And.intro (H9.out.1.upd hST.2 (by omega)) (And.intro (H9.out.2.1.upd hST.2 (by omega)) (And.intro hST.1 (H9.out.2.2.2.2.1.trans (Near.upd hST.2 (GPl.mem.2 (.inl rfl)))))))
  have hB10 := H10.out.1
  have hbz := H10.out.2.1
  clear hgb hST
  go_wp2_with (first
    | ((with_reducible show wpList _ _ _ ((⟨some 75, _, _, _, _, _⟩ : Oper) :: _) _ _); refine wpList_load_mid (o := ⟨some 75, _, _, _, _, _⟩) (range2 (b := gB) (off := 1) (u := .int .i64 (acqN g.L)) (v := .int .i64 s) (hB10.at_ 1 (v := .int .i64 (acqN g.L)) rfl) (hB10.at_ 2 (v := .int .i64 s) rfl)) (by rfl) _ _ (by rfl) (by rfl) _ Tryz.underlying113 (by rfl) size_ref (by rfl) ?_)
    | ((with_reducible show wpList _ _ _ ((⟨none, _, _, _, _, _⟩ : Oper) :: _) _ _); refine wpList_store_blk (o := ⟨none, _, _, _, _, _⟩) (hbz) (by rfl) _ _ _ (by rfl) (by rfl) (#[.int .i64 (acqN g.L), .int .i64 s]) (by rfl) (size_ref) (by rfl) (by rfl) (by simp [Value.oneCell']) ?_; intro w10 h10 hu10)
    | fail)
  refine bodyPost_ret (results_row_tmp (by rfl) _ _ w.heap.size _ _ _ (by rfl) h10 Tryz.underlying113 (by rfl) size_ref) rfl ?_
  rw [HL2.out]
  refine ⟨rfl, GPost.last (q' := { q with gs := gS }) H0.out.1 rfl rfl rfl H10.out.2.2.1 H10.out.2.2.2 (fun y hy => ?_) hu10 (Nat.le_refl _)⟩
  rcases GPl.mem.1 hy with e | e | e | e | e
  · exact .inl (GPl.mem.2 (.inl e))
  · exact .inr (by rw [e]; exact H9.out.2.2.2.2.2)
  · exact .inl (GPl.mem.2 (.inr (.inr (.inl e))))
  · exact .inl (GPl.mem.2 (.inr (.inr (.inr (.inl e)))))
  · exact .inl (GPl.mem.2 (.inr (.inr (.inr (.inr e)))))
end
end Go.Proofs.YtfoegmjpfkmggaaGreatDoor

/- The program's set of blocks: what was let go is settled. Conditions: the set's block is known. -/
namespace Go.Proofs.YtfoegmjpfkmggaaGreatDoor
open Go.RowKit
/-- How many of the first m blocks are let go. -/
def cnt (L : List Nat) (m : Nat) : Nat := ((List.range m).filter fun i => decide (1 < L.getD i 0)).length
theorem cnt_le (L : List Nat) (m : Nat) : cnt L m ≤ m := by unfold cnt; exact Nat.le_trans (List.length_filter_le _ _) (by simp)
theorem cnt_word (L : List Nat) (k : Nat) : cnt L (64 * (k + 1)) = cnt L (64 * k) + pop 64 (gw L k) := by
  unfold cnt gw
  rw [wf_pop, show 64 * (k + 1) = 64 * k + 64 by omega, List.range_add, List.filter_append, List.length_append, List.filter_map, List.length_map]
  rfl
theorem cnt_succ (L : List Nat) (m : Nat) : cnt L (m + 1) = cnt L m + if 1 < L.getD m 0 then 1 else 0 := by
  unfold cnt
  rw [List.range_succ, List.filter_append, List.length_append, List.filter_cons]
  by_cases h : 1 < L.getD m 0
  · rw [if_pos (by simpa using h), if_pos h]; rfl
  · rw [if_neg (by simpa using h), if_neg h]; rfl
theorem getD_out {L : List Nat} {m : Nat} (h : L.length ≤ m) : L.getD m 0 = 0 := by rw [List.getD_eq_getElem?_getD, List.getElem?_eq_none h]; rfl
theorem cnt_len (L : List Nat) : ∀ d, cnt L (L.length + d) = cnt L L.length
  | 0 => rfl
  | d + 1 => by rw [← Nat.add_assoc, cnt_succ, cnt_len L d, getD_out (by omega)]; rfl
theorem cnt_all {L : List Nat} (h : L.length ≤ 512) : cnt L 512 = cnt L L.length := by
  have := cnt_len L (512 - L.length)
  rwa [show L.length + (512 - L.length) = 512 by omega] at this
def setl (L : List Nat) : List Nat := L.map fun x => if x = 2 then 0 else x
theorem setl_getD (L : List Nat) (i : Nat) : (setl L).getD i 0 = if L.getD i 0 = 2 then 0 else L.getD i 0 := by
  unfold setl
  simp only [List.getD_eq_getElem?_getD, List.getElem?_map]
  cases L[i]? <;> simp
theorem setl_length (L : List Nat) : (setl L).length = L.length := by simp [setl]
theorem SetOk.setl {L : List Nat} (h : SetOk L) : SetOk (setl L) :=
  ⟨by rw [setl_length]; exact h.len, fun i => by rw [setl_getD]; split; · omega
                                                 exact h.le i⟩
theorem tw_setl {L : List Nat} (h : SetOk L) (k : Nat) : tw (setl L) k = tw L k &&& (18446744073709551615 - gw L k) := by
  unfold tw gw
  rw [wf_without]
  refine wf_congr fun i _ => ?_
  rw [setl_getD]
  have := h.le (64 * k + i)
  generalize L.getD (64 * k + i) 0 = x at this ⊢
  have hx : x = 0 ∨ x = 1 ∨ x = 2 := by omega
  rcases hx with rfl | rfl | rfl <;> rfl
theorem gw_setl {L : List Nat} (h : SetOk L) (k : Nat) : gw (setl L) k = 0 := wf_none fun i _ => by
  rw [setl_getD]
  have := h.le (64 * k + i)
  generalize L.getD (64 * k + i) 0 = x at this ⊢
  have hx : x = 0 ∨ x = 1 ∨ x = 2 := by omega
  rcases hx with rfl | rfl | rfl <;> rfl
/-- The cells when the first k words are settled. -/
def setvS (L : List Nat) (k i : Nat) : Value := if i = 0 then .int .i64 (L.length : Nat) else if i < 9 then .int .u64 ((if i - 1 < k then tw (setl L) (i - 1) else tw L (i - 1) : Nat) : Int) else .int .u64 ((if i - 9 < k then 0 else gw L (i - 9) : Nat) : Int)
theorem setvS_0 (L : List Nat) : arr 17 (setvS L 0) = setCells L := arr_congr fun i _ => by unfold setvS setv; simp
theorem setvS_8 {L : List Nat} (h : SetOk L) : arr 17 (setvS L 8) = setCells (setl L) := arr_congr fun i hi => by
  unfold setvS setv
  rw [setl_length, gw_setl h]
  by_cases c0 : i = 0
  · rw [if_pos c0, if_pos c0]
  · rw [if_neg c0, if_neg c0]
    by_cases c1 : i < 9
    · rw [if_pos c1, if_pos c1, if_pos (by omega)]
    · rw [if_neg c1, if_neg c1, if_pos (by omega)]
theorem setvS_step (L : List Nat) (k : Nat) (hk : k < 8) (a b : Value) (ha : a = .int .u64 (tw (setl L) k : Nat)) (hb : b = .int .u64 0) :
    ((arr 17 (setvS L k)).setIfInBounds (1 + k) a).setIfInBounds (9 + k) b = arr 17 (setvS L (k + 1)) := by
  subst ha hb
  simp only [arr_set]
  refine arr_congr fun i hi => ?_
  unfold setvS
  by_cases e2 : i = 9 + k
  · subst e2
    rw [if_pos rfl, if_neg (by omega), if_neg (by omega), if_pos (by omega)]; rfl
  · rw [if_neg e2]
    by_cases e1 : i = 1 + k
    · subst e1
      rw [if_pos rfl, if_neg (by omega), if_pos (by omega), if_pos (by omega), Nat.add_sub_cancel_left]
    · rw [if_neg e1]
      by_cases c0 : i = 0
      · rw [if_pos c0, if_pos c0]
      · rw [if_neg c0, if_neg c0]
        by_cases c1 : i < 9
        · rw [if_pos c1, if_pos c1]
          by_cases c2 : i - 1 < k
          · rw [if_pos c2, if_pos (by omega)]
          · rw [if_neg c2, if_neg (by omega)]
        · rw [if_neg c1, if_neg c1]
          by_cases c2 : i - 9 < k
          · rw [if_pos c2, if_pos (by omega)]
          · rw [if_neg c2, if_neg (by omega)]
/-- Ahead of each word. -/
def SetlRel (L : List Nat) (g : Nat) (w : World) (n v : Value) (wr : World) : Prop :=
  ∃ k : Nat, k ≤ 8 ∧ v = .int .i64 (k : Int) ∧ n = .int .i64 (cnt L (64 * k) : Nat) ∧ Blk wr g 220 (arr 17 (setvS L k)) ∧ Upd g w wr
theorem u64_without (x y : Nat) (hx : x < 18446744073709551616) (hy : y < 18446744073709551616) : bits .andNot .u64 (x : Int) (y : Int) = ((x &&& (18446744073709551615 - y) : Nat) : Int) :=
  u64_andNot_nat x y hx hy
set_option maxHeartbeats 1000000 in
set_option maxRecDepth 100000 in
theorem settle_any (L : List Nat) (hok : SetOk L) (h0 : 0 < L.length) (g : Nat) (w : World) (h : Blk w g 220 (setCells L)) :
    Calls Tryz.prog 110 #[.pointer (some ⟨g, 0, none⟩)] w fun e w' => e = .returned (.int .i64 (cnt L L.length : Nat)) ∧ Blk w' g 220 (setCells (setl L)) ∧ Upd g w w' := by
  have hn := none_any L g w h
  rw [decide_eq_false (by omega)] at hn
  have hr := range8g h
  have HX := Lib.hid (idx8 (gw L))
  go_enter Tryz.func110, Tryz.ntmps110
  go_wp2_with (first
    | (go_at_call 149; refine hn.mono ?_; rintro e w' ⟨rfl, rfl⟩)
    | (show wpList _ _ _ ((⟨some 11, _, _, _, _, _⟩ : Oper) :: _) _ _; refine wpList_load_mid (o := ⟨some 11, _, _, _, _, _⟩) hr (by rfl) _ _ (by rfl) (by rfl) _ Tryz.underlying218 (by rfl) setSize8 (by rfl) ?_)
    | fail)
  go_loopw [3, 12] (fun n v wr => SetlRel L g w n v wr) (fun _ v _ => 8 - (intOf v).toNat)
  case atStart => exact ⟨0, by omega, rfl, rfl, h.sub (setvS_0 L).symm, Upd.refl _ _⟩
  case round =>
    clear h hr hn
    obtain ⟨k, hk, rfl, rfl, hw, hu⟩ := hrel
    by_cases hk8 : k < 8
    · have hidx := HX.out k hk8 wr
      have hx := gw_lt L k
      have ht := tw_lt L k
      have hone := ones_any (gw L k) hx wr
      have X1 := u64_without (tw L k) (gw L k) ht hx
      rw [← tw_setl hok] at X1
      have d1 : wr.cell? ⟨g, 1 + k, none⟩ = some (.int .u64 (tw L k : Nat)) := hw.at_ (1 + k) (by rw [arr_at _ (by omega)]; unfold setvS; rw [if_neg (by omega), if_pos (by omega), if_neg (by omega), Nat.add_sub_cancel_left])
      have f1 := hw.frozen (1 + k)
      have hp := pop_le 64 (gw L k)
      have hcl := cnt_le L (64 * k)
      obtain ⟨p, hpe⟩ : ∃ p, p = pop 64 (gw L k) := ⟨_, rfl⟩
      obtain ⟨x, hxe⟩ : ∃ x, x = gw L k := ⟨_, rfl⟩
      obtain ⟨t', hte⟩ : ∃ t', t' = tw (setl L) k := ⟨_, rfl⟩
      obtain ⟨t, htte⟩ : ∃ t, t = tw L k := ⟨_, rfl⟩
      obtain ⟨c, hce⟩ : ∃ c, c = cnt L (64 * k) := ⟨_, rfl⟩
      rw [← hpe] at hone hp
      rw [← hxe] at hidx hone X1
      rw [← hte, ← htte] at X1
      rw [← htte] at d1
      rw [← hce] at hcl ⊢
      have HE := Lib.hid (And.intro hpe (And.intro hte hce))
      have HW := Lib.hid hw
      have HU := Lib.hid hu
      clear hpe hte hce hxe htte hx ht hw hu
      go_wp2_with fail
      refine hone.mono ?_
      rintro e w' ⟨rfl, rfl⟩
      go_wp2
      go_region
      have h1 := (HW.out.set_ (1 + k) (.int .u64 (t' : Int))).drew
      have hU1 := Lib.hid (HU.out.trans (Upd.drew ((Upd.refl g wr).set (1 + k) (.int .u64 (t' : Int)))))
      generalize (World.setCell wr _ _).drew = w1 at h1 hU1 ⊢
      clear d1 f1 HW HU hone
      have d2 : ∃ u, w1.cell? ⟨g, 9 + k, none⟩ = some u := ⟨_, h1.at_ (9 + k) (Array.getElem?_eq_getElem (by simp [arr_size]; omega))⟩
      have f2 := h1.frozen (9 + k)
      have H1 := Lib.hid h1
      obtain ⟨u, d2⟩ := d2
      clear h1
      go_wp2
      go_roundw
      case rel =>
        refine ⟨k + 1, by omega, by go_num, ?_, (H1.out.set_ (9 + k) (.int .u64 0)).sub (setvS_step L k hk8 _ _ (by rw [HE.out.2.1]) rfl), hU1.out.trans ((Upd.refl g w1).set (9 + k) (.int .u64 0))⟩
        rw [cnt_word, ← HE.out.1, ← HE.out.2.2]; go_num
      case measure => simp [intOf]; omega
    · obtain rfl : k = 8 := by omega
      have hc := cnt_all hok.len
      have hcl := cnt_le L 512
      generalize cnt L (64 * 8) = c at hc hcl ⊢
      have HC := Lib.hid hc
      have HW := Lib.hid hw
      clear hc hw
      go_wp2
      go_ret
      exact ⟨ret_int (by rw [HC.out]), HW.out.sub (setvS_8 hok), hu⟩
end Go.Proofs.YtfoegmjpfkmggaaGreatDoor

/- The program's set of blocks: the iterator over its blocks. Conditions: the set's block is known; the loop's body keeps it, and the iterator's own box. -/
namespace Go.Proofs.YtfoegmjpfkmggaaGreatDoor
open Go.RowKit Go.Shelf
attribute [local go_sem] Oper.semAt_some
/-- A block's number (from 1 on), and how it is. -/
abbrev It (n : Nat) := { p : Nat × Nat // 1 ≤ p.1 ∧ p.1 ≤ n ∧ p.2 ≤ 2 }
def itm (L : List Nat) (hok : SetOk L) (h0 : 0 < L.length) (k : Nat) : It L.length :=
  if h : k < L.length then ⟨(k + 1, L.getD k 0), by simp, by show k + 1 ≤ L.length; omega, hok.le k⟩ else ⟨(1, 0), by simp, by show 1 ≤ L.length; omega, by simp⟩
theorem itm_val (L : List Nat) (hok : SetOk L) (h0 : 0 < L.length) {k : Nat} (h : k < L.length) : (itm L hok h0 k).1 = (k + 1, L.getD k 0) := by unfold itm; rw [dif_pos h]
def upto {α : Type} (f : Nat → α) (k : Nat) : List α := (List.range k).map f
theorem upto_succ {α : Type} (f : Nat → α) (k : Nat) : upto f (k + 1) = upto f k ++ [f k] := by simp [upto, List.range_succ]
theorem upto_length {α : Type} (f : Nat → α) (k : Nat) : (upto f k).length = k := by simp [upto]
/-- What a round keeps: the set's block and the iterator's box. -/
def Kp (g bx : Nat) (W W' : World) : Prop := W.heap.size ≤ W'.heap.size ∧ W'.heap[g]? = W.heap[g]? ∧ W'.heap[bx]? = W.heap[bx]?
theorem Kp.trans {g bx : Nat} {A B C : World} (h : Kp g bx A B) (k : Kp g bx B C) : Kp g bx A C := ⟨Nat.le_trans h.1 k.1, k.2.1.trans h.2.1, k.2.2.trans h.2.2⟩
def encs {n : Nat} (x : It n) : Array Value := #[.int .i64 (x.1.1 : Int), .int .i64 (x.1.2 : Int)]
theorem all_any (g : Nat) (w : World) : Calls Tryz.prog 151 #[.pointer (some ⟨g, 0, none⟩)] w fun e w' => e = .returned (.func (.func 174) #[] #[.pointer (some ⟨w.heap.size, 0, none⟩)]) ∧ w' = w.alloc (.cells #[.pointer (some ⟨g, 0, none⟩)] 163) := by
  go_enter Tryz.func151, Tryz.ntmps151
  go_wp2
  go_ret
  exact ⟨rfl, rfl⟩
theorem drewN_grown (w : World) (n : Nat) (row : Option Nat) : w.grownBy (w.drewN n) row := ⟨rfl, rfl, rfl, Nat.le_refl _, fun _ _ _ => rfl⟩
set_option maxRecDepth 100000 in
set_option maxHeartbeats 2000000 in
theorem all1_in (n : Nat) (hn : 1 ≤ n) (L : List Nat) (hok : SetOk L) (h0 : 0 < L.length) (g bx l : Nat) (J Jx : List (It L.length) → World → Prop)
    (hJ : ∀ s W m, J s W → J s (W.drewN m))
    (hY : ∀ pre x W, J pre W → pre.length < L.length → YieldAt Fence.wide (n - 1) Tryz.prog l (encs x) W fun e W' =>
      (e = .returned (.bool true) ∧ J (pre ++ [x]) W' ∧ Kp g bx W W') ∨ (e = .returned (.bool false) ∧ Jx (pre ++ [x]) W'))
    (W : World) (hg : Blk W g 220 (setCells L)) (hb : Blk W bx 163 #[.pointer (some ⟨g, 0, none⟩)]) (hJ0 : J [] W) :
    CallsIn Fence.wide n Tryz.prog 174 #[.func (.yield l) #[] #[], .pointer (some ⟨bx, 0, none⟩)] W fun e W' => (∃ v, e = .returned v) ∧
      ((∃ ys, ys = upto (itm L hok h0) L.length ∧ J ys W') ∨ (∃ pre, (∃ k, k ≤ L.length ∧ pre = upto (itm L hok h0) k) ∧ Jx pre W')) := by
  have hl := hok.len
  refine callsIn_of_wp Tryz.func174 rfl trivial ?_ rfl
  simp only [Tryz.ntmps174, List.size_toArray, List.length_cons, List.length_nil, Nat.reduceAdd, Nat.reduceSub, Array.replicate_succ, Array.replicate_zero, List.push_toArray, List.append_toArray, List.nil_append, List.cons_append]
  gi_wp2
  gi_loopw [3] (fun i wr => ∃ k : Nat, k ≤ L.length ∧ i = .int .i64 ((k : Int) + 1) ∧ J (upto (itm L hok h0) k) wr ∧ Blk wr g 220 (setCells L) ∧ Blk wr bx 163 #[.pointer (some ⟨g, 0, none⟩)])
    (fun i _ => L.length + 1 - (intOf i).toNat)
  case atStart => exact ⟨0, Nat.zero_le _, rfl, hJ0, hg, hb⟩
  case round =>
    clear hg hb
    obtain ⟨k, hk, rfl, hJs, hg, hb⟩ := hrel
    have c0 : wr.cell? ⟨bx, 0, none⟩ = some (.pointer (some ⟨g, 0, none⟩)) := hb.at_ 0 rfl
    have c1 : wr.cell? ⟨g, 0, none⟩ = some (.int .i64 (L.length : Nat)) := hg.at_ 0 (by rw [setCells, arr_at _ (by omega), setv_0])
    by_cases hlt : k < L.length
    · have his := callsIn_wide (n := n - 1).2 (is_any L hok h0 g ((k : Int) + 1) (by omega) (by omega) wr hg)
      have hia : isAt L ((k : Int) + 1) = (L.getD k 0 : Nat) := by
        unfold isAt; rw [if_pos (by omega), show ((k : Int) + 1 - 1).toNat = k by omega]
      have hY1 := fun m => hY _ (itm L hok h0 k) (wr.drewN m) (hJ _ _ m hJs) (by rw [upto_length]; exact hlt)
      rw [hia] at his
      have ek : ((k + 1 : Nat) : Int) = (k : Int) + 1 := by omega
      simp only [encs, itm_val L hok h0 hlt, ek] at hY1
      have hle := hok.le k
      generalize L.getD k 0 = x at his hY1 hle
      have hG := Lib.hid hg
      have hB := Lib.hid hb
      clear hg hb hia ek
      gi_wp2_with fail
      refine ⟨trivial, ?_⟩
      refine his.mono ?_
      rintro e w' ⟨rfl, m, rfl⟩
      obtain ⟨fn, tmps, assign, body, hy, hR⟩ := hY1 m
      clear hY1 hY his
      gi_wp2
      refine hR.mono ?_
      rintro e W3 (⟨rfl, hJ3, hk3⟩ | ⟨rfl, hJx3⟩)
      · have hg3 : Blk W3 g 220 (setCells L) := hk3.2.1.trans hG.out
        have hb3 : Blk W3 bx 163 #[.pointer (some ⟨g, 0, none⟩)] := hk3.2.2.trans hB.out
        have hG3 := Lib.hid hg3
        have hB3 := Lib.hid hb3
        clear hg3 hb3 hk3 hG hB c0 c1
        gi_wp2
        go_roundw
        case rel => exact ⟨k + 1, by omega, by go_num, by rw [upto_succ]; exact hJ3, hG3.out, hB3.out⟩
        case measure => simp [intOf]; omega
      · gi_wp2
        refine bodyPost_ret (results_none rfl _ _ _) rfl ?_
        exact ⟨⟨_, rfl⟩, .inr ⟨_, ⟨k + 1, by omega, (upto_succ _ _).symm⟩, hJx3⟩⟩
    · obtain rfl : k = L.length := by omega
      gi_wp2
      go_end0
      exact ⟨⟨_, rfl⟩, .inl ⟨_, rfl, hJs⟩⟩
theorem all1_stops (n : Nat) (hn : 1 ≤ n) (L : List Nat) (hok : SetOk L) (h0 : 0 < L.length) (g bx : Nat) (w : World) (hg : Blk w g 220 (setCells L)) (hb : Blk w bx 163 #[.pointer (some ⟨g, 0, none⟩)]) :
    SeqStopsK Fence.wide n Tryz.prog 174 #[.pointer (some ⟨bx, 0, none⟩)] (encs (n := L.length)) (Kp g bx) (fun ys => ys = upto (itm L hok h0) L.length) (fun pre => ∃ k, k ≤ L.length ∧ pre = upto (itm L hok h0) k) L.length w := fun l J Jx W hW hJ _ hY hJ0 =>
  all1_in n hn L hok h0 g bx l J Jx (fun s W m hs => hJ s W _ none hs (drewN_grown W m none) (fun r e => by cases e)) hY W (hg.below hW hg.lt) (hb.below hW hb.lt) hJ0
end Go.Proofs.YtfoegmjpfkmggaaGreatDoor

/- The bytes of a set of blocks, plainly. Conditions: at most 512 blocks, each 0, 1 or 2. -/
namespace Go.Proofs.YtfoegmjpfkmggaaGreatDoor
open Go.RowKit
/-- Four blocks in a byte. -/
def q4 (f : Nat → Nat) (j : Nat) : Nat := f (4 * j) + 4 * f (4 * j + 1) + 16 * f (4 * j + 2) + 64 * f (4 * j + 3)
def encH (n : Nat) : List UInt8 := [UInt8.ofNat (n % 256), UInt8.ofNat (n / 256)]
def encF (n : Nat) (f : Nat → Nat) : List UInt8 := encH n ++ (List.range ((n + 3) / 4)).map fun j => UInt8.ofNat (q4 f j)
def enc (L : List Nat) : List UInt8 := encF L.length fun i => L.getD i 0
theorem encF_length (n : Nat) (f : Nat → Nat) : (encF n f).length = 2 + (n + 3) / 4 := by simp [encF, encH]; omega
theorem enc_length (L : List Nat) : (enc L).length = 2 + (L.length + 3) / 4 := encF_length _ _
theorem encF_congr {n : Nat} {f g : Nat → Nat} (h : ∀ i, f i = g i) : encF n f = encF n g := by
  have : f = g := funext h
  rw [this]
theorem encF_at (n : Nat) (f : Nat → Nat) (j : Nat) (h : j < (n + 3) / 4) : (encF n f)[2 + j]? = some (UInt8.ofNat (q4 f j)) := by
  unfold encF
  rw [List.getElem?_append_right (by simp [encH])]
  simp [encH, h]
/-- f below k, nought from there on. -/
def cutAt (f : Nat → Nat) (k i : Nat) : Nat := if i < k then f i else 0
theorem cutAt_le {f : Nat → Nat} (h : ∀ i, f i ≤ 2) (k i : Nat) : cutAt f k i ≤ 2 := by
  unfold cutAt
  split
  · exact h i
  · exact Nat.zero_le _
theorem q4_lt {f : Nat → Nat} (h : ∀ i, f i ≤ 2) (j : Nat) : q4 f j ≤ 170 := by
  unfold q4; have := h (4 * j); have := h (4 * j + 1); have := h (4 * j + 2); have := h (4 * j + 3); omega
theorem q4_step (f : Nat → Nat) (k j : Nat) : q4 (cutAt f (k + 1)) j = if j = k / 4 then q4 (cutAt f k) j + f k * 4 ^ (k % 4) else q4 (cutAt f k) j := by
  have e : ∀ i, cutAt f (k + 1) i = if i = k then f k else cutAt f k i := fun i => by
    unfold cutAt
    by_cases h : i = k
    · subst h; simp
    · rw [if_neg h]
      by_cases h2 : i < k
      · rw [if_pos h2, if_pos (by omega)]
      · rw [if_neg h2, if_neg (by omega)]
  have z : cutAt f k k = 0 := by unfold cutAt; rw [if_neg (by omega)]
  have h4 : k % 4 = 0 ∨ k % 4 = 1 ∨ k % 4 = 2 ∨ k % 4 = 3 := by omega
  split
  · rename_i hj
    unfold q4
    rw [e, e, e, e]
    rcases h4 with h | h | h | h
    · have : k = 4 * j := by omega
      subst this
      rw [if_pos rfl, if_neg (by omega), if_neg (by omega), if_neg (by omega), z, h]; omega
    · have : k = 4 * j + 1 := by omega
      subst this
      rw [if_neg (by omega), if_pos rfl, if_neg (by omega), if_neg (by omega), z, h]; omega
    · have : k = 4 * j + 2 := by omega
      subst this
      rw [if_neg (by omega), if_neg (by omega), if_pos rfl, if_neg (by omega), z, h]; omega
    · have : k = 4 * j + 3 := by omega
      subst this
      rw [if_neg (by omega), if_neg (by omega), if_neg (by omega), if_pos rfl, z, h]; omega
  · rename_i hj
    unfold q4
    rw [e, e, e, e, if_neg (by omega), if_neg (by omega), if_neg (by omega), if_neg (by omega)]
theorem q4_low (f : Nat → Nat) (hf : ∀ i, f i ≤ 2) (k : Nat) : q4 (cutAt f k) (k / 4) < 4 ^ (k % 4) := by
  have z : ∀ i, k ≤ i → cutAt f k i = 0 := fun i h => by unfold cutAt; rw [if_neg (by omega)]
  have c := cutAt_le hf k
  have h4 : k % 4 = 0 ∨ k % 4 = 1 ∨ k % 4 = 2 ∨ k % 4 = 3 := by omega
  unfold q4
  have c0 := c (4 * (k / 4)); have c1 := c (4 * (k / 4) + 1); have c2 := c (4 * (k / 4) + 2)
  rcases h4 with h | h | h | h
  · rw [z _ (by omega), z _ (by omega), z _ (by omega), z _ (by omega), h]; omega
  · rw [z (4 * (k / 4) + 1) (by omega), z (4 * (k / 4) + 2) (by omega), z (4 * (k / 4) + 3) (by omega), h]; omega
  · rw [z (4 * (k / 4) + 2) (by omega), z (4 * (k / 4) + 3) (by omega), h]; omega
  · rw [z (4 * (k / 4) + 3) (by omega), h]; omega
/-- One block more, as the program writes it. -/
def stepB (bs : List UInt8) (p : Nat × Nat) : List UInt8 := bs.set (2 + (p.1 - 1) / 4) (bs.getD (2 + (p.1 - 1) / 4) 0 ||| UInt8.ofNat (p.2 * 4 ^ ((p.1 - 1) % 4)))
theorem stepB_length (bs : List UInt8) (p : Nat × Nat) : (stepB bs p).length = bs.length := by simp [stepB]
theorem or_add (x y : Nat) (i : Nat) (hy : y < 2 ^ i) (hx : x % 2 ^ i = 0) (h : x + y < 256) : UInt8.ofNat y ||| UInt8.ofNat x = UInt8.ofNat (x + y) := by
  have e := nat_join i x y hx hy
  apply UInt8.toNat_inj.1
  rw [UInt8.toNat_or, UInt8.toNat_ofNat_of_lt' (by show y < 256; omega), UInt8.toNat_ofNat_of_lt' (by show x < 256; omega), UInt8.toNat_ofNat_of_lt' (by show x + y < 256; omega), Nat.or_comm, e]
theorem encF_set (n : Nat) (f g : Nat → Nat) (j : Nat) (h : j < (n + 3) / 4) (hg : ∀ i, i ≠ j → q4 g i = q4 f i) : (encF n f).set (2 + j) (UInt8.ofNat (q4 g j)) = encF n g := by
  apply List.ext_getElem?
  intro i
  rw [List.getElem?_set]
  by_cases hi : i < 2
  · rw [if_neg (by omega)]
    unfold encF
    rw [List.getElem?_append_left (by simp [encH]; omega), List.getElem?_append_left (by simp [encH]; omega)]
  · obtain ⟨t, rfl⟩ : ∃ t, i = 2 + t := ⟨i - 2, by omega⟩
    by_cases hb : t < (n + 3) / 4
    · rw [encF_at n g t hb, encF_at n f t hb]
      by_cases e : t = j
      · subst e; rw [if_pos rfl, if_pos (by rw [encF_length]; omega)]
      · rw [if_neg (by omega), hg t e]
    · rw [if_neg (by omega), List.getElem?_eq_none (by rw [encF_length]; omega), List.getElem?_eq_none (by rw [encF_length]; omega)]
theorem stepB_enc (n : Nat) (f : Nat → Nat) (hf : ∀ i, f i ≤ 2) (k : Nat) (hk : k < n) : stepB (encF n (cutAt f k)) (k + 1, f k) = encF n (cutAt f (k + 1)) := by
  have hj : k / 4 < (n + 3) / 4 := by omega
  unfold stepB
  simp only [Nat.add_sub_cancel]
  rw [List.getD_eq_getElem?_getD, encF_at n _ _ hj, Option.getD_some]
  have hs := q4_step f k
  have hlow := q4_low f hf k
  have h170 := q4_lt (cutAt_le hf (k + 1)) (k / 4)
  have e1 := hs (k / 4)
  rw [if_pos rfl] at e1
  have h4 : (4 : Nat) ^ (k % 4) = 2 ^ (2 * (k % 4)) := by rw [Nat.pow_mul]
  rw [or_add (f k * 4 ^ (k % 4)) _ (2 * (k % 4)) (by rw [← h4]; exact hlow) (by rw [h4]; exact Nat.mul_mod_left _ _) (by omega), Nat.add_comm (f k * 4 ^ (k % 4)), ← e1]
  exact encF_set n _ _ _ hj (fun i hi => by rw [hs i, if_neg hi])
/-- All blocks, one by one, as the program writes them. -/
theorem stepB_all (L : List Nat) (hf : ∀ i, L.getD i 0 ≤ 2) : ∀ k, k ≤ L.length → ((List.range k).map fun i => (i + 1, L.getD i 0)).foldl stepB (encF L.length fun _ => 0) = encF L.length (cutAt (fun i => L.getD i 0) k)
  | 0, _ => encF_congr fun i => by unfold cutAt; simp
  | k + 1, h => by
    rw [List.range_succ, List.map_append, List.foldl_append, stepB_all L hf k (by omega)]
    exact stepB_enc L.length (fun i => L.getD i 0) hf k (by omega)
theorem stepB_enc_all (L : List Nat) (hf : ∀ i, L.getD i 0 ≤ 2) : ((List.range L.length).map fun i => (i + 1, L.getD i 0)).foldl stepB (encF L.length fun _ => 0) = enc L := by
  rw [stepB_all L hf L.length (Nat.le_refl _)]
  refine encF_congr fun i => ?_
  unfold cutAt
  split
  · rfl
  · rw [List.getD_eq_getElem?_getD, List.getElem?_eq_none (by omega)]; rfl
theorem encF_zero (n : Nat) : (encF n fun _ => 0) = encH n ++ List.replicate ((n + 3) / 4) 0 := by
  unfold encF
  congr 1
  apply List.ext_getElem
  · simp
  · intro i h1 h2; simp [q4]
end Go.Proofs.YtfoegmjpfkmggaaGreatDoor

/- The program's set of blocks: its bytes. Conditions: the set's block is known. -/
namespace Go.Proofs.YtfoegmjpfkmggaaGreatDoor
open Go.RowKit Go.Shelf
attribute [local go_sem] Oper.semAt_some
theorem foldB_length : ∀ (l : List (Nat × Nat)) (bs : List UInt8), (l.foldl stepB bs).length = bs.length
  | [], _ => rfl
  | x :: l, bs => by rw [List.foldl_cons, foldB_length l, stepB_length]
theorem blk_own {W W' : World} {b B : Nat} {t : TypeId} {cs : Array Value} {row : Option Nat} (h : Blk W b t cs) (hg : W.grownBy W' row) (hr : ∀ r, row = some r → B ≤ r ∧ ∃ o : Obj, W.heap[r]? = some o ∧ o.isCells = false) : Blk W' b t cs :=
  (hg.block b h.lt (fun e => by
    obtain ⟨_, o, ho, hc⟩ := hr b e.symm
    unfold Blk at h
    rw [h] at ho; cases ho; cases hc)).trans h
set_option maxRecDepth 100000 in
set_option maxHeartbeats 2000000 in
theorem bytes_any (L : List Nat) (hok : SetOk L) (h0 : 0 < L.length) (g : Nat) (w : World) (h : Blk w g 220 (setCells L)) :
    Calls Tryz.prog 112 #[.pointer (some ⟨g, 0, none⟩)] w fun e w' => e = .returned (.slice (some ⟨w.heap.size, 0, none⟩) (2 + (L.length + 3) / 4) (2 + (L.length + 3) / 4)) ∧ Blk w' w.heap.size 5 ((enc L).map u8v).toArray ∧ Below w.heap.size w w' := by
  have hl := hok.len
  have hn := none_any L g w h
  rw [decide_eq_false (by omega)] at hn
  have hg := h.lt
  have d0 : w.cell? ⟨g, 0, none⟩ = some (.int .i64 (L.length : Nat)) := h.at_ 0 (by rw [setCells, arr_at _ (by omega), setv_0])
  refine callsIn_wide (n := 3).1 ?_
  refine callsIn_of_wp_marks Tryz.func112 rfl trivial ?_ rfl
  simp only [Tryz.ntmps112, List.size_toArray, List.length_cons, List.length_nil, Nat.reduceAdd, Nat.reduceSub, Array.replicate_succ, Array.replicate_zero, List.push_toArray, List.append_toArray, List.nil_append, List.cons_append]
  obtain ⟨m, hm⟩ : ∃ m : Nat, m = 2 + (L.length + 3) / 4 := ⟨_, rfl⟩
  rw [← hm]
  have hm2 : 2 ≤ m := by omega
  have hm3 : m ≤ 131 := by omega
  have em : 2 + ((L.length : Int) + 3) / 4 = m := by omega
  have HM := Lib.hid hm
  clear hm
  refine wpIn_wide.2 ?_
  go_wp2_with (first
    | (go_at_call 149; refine hn.mono ?_; rintro e w' ⟨rfl, rfl⟩)
    | (show wpList _ _ _ ((⟨some 15, _, _, _, _, _⟩ : Oper) :: _) _ _; refine wpList_make_bytes (o := ⟨some 15, _, _, _, _, _⟩) _ (by rfl) _ _ _ (by rfl) _ Tryz.underlying39 u8info .i64 .i64 _ _ m m (by rfl) (by rfl) (by omega) (by omega) (Nat.le_refl _) (by omega) ?_; intro w1 h1 hb1 hs1)
    | fail)
  have hsz1 : w.heap.size < w1.heap.size := by omega
  have hx2 : Blk (w1.alloc (.cells #[.slice (some ⟨w.heap.size, 0, none⟩) m m] 39)) (w.heap.size + 1) 39 #[.slice (some ⟨w.heap.size, 0, none⟩) m m] := Blk.new' _ _ _ (by omega)
  have ho2 : Blk (w1.alloc (.cells #[.slice (some ⟨w.heap.size, 0, none⟩) m m] 39)) w.heap.size 5 ((List.replicate m 0).map u8v).toArray := h1.alloc _
  have hb2 : Below w.heap.size w (w1.alloc (.cells #[.slice (some ⟨w.heap.size, 0, none⟩) m m] 39)) := hb1.alloc hb1.size _
  have hs2 : (w1.alloc (.cells #[.slice (some ⟨w.heap.size, 0, none⟩) m m] 39)).heap.size = w.heap.size + 2 := by simp; omega
  generalize w1.alloc _ = w2 at hx2 ho2 hb2 hs2 ⊢
  have hg2 : Blk w2 g 220 (setCells L) := h.below hb2 hg
  have b0 : w2.cell? ⟨g, 0, none⟩ = some (.int .i64 (L.length : Nat)) := hg2.at_ 0 (by rw [setCells, arr_at _ (by omega), setv_0])
  have b1 : w2.cell? ⟨w.heap.size + 1, 0, none⟩ = some (.slice (some ⟨w.heap.size, 0, none⟩) m m) := hx2.at_ 0 rfl
  have b2 : w2.cell? ⟨w.heap.size, 0, none⟩ = some (.int .u8 0) := ho2.at_ 0 (by rw [List.getElem?_toArray, List.getElem?_map, List.getElem?_replicate, if_pos (by omega)]; rfl)
  have b3 : w2.cell? ⟨w.heap.size, 1, none⟩ = some (.int .u8 0) := ho2.at_ 1 (by rw [List.getElem?_toArray, List.getElem?_map, List.getElem?_replicate, if_pos (by omega)]; rfl)
  have f2 := ho2.frozen 0
  have f3 := ho2.frozen 1
  have e1 : (L.length : Int) % 256 = iu8 (UInt8.ofNat (L.length % 256)) := by rw [iu8_ofNat_mod]
  have e2 : (L.length : Int) / 256 = iu8 (UInt8.ofNat (L.length / 256)) := by rw [iu8_ofNat _ (by omega)]; omega
  have hlm : 1 < (m : Int) := by omega
  have hlm0 : 0 < (m : Int) := by omega
  clear h1 hb1 hs1 hsz1 d0 hn h
  have HS2 := Lib.hid hs2
  clear hs2
  refine wp_region_planT (fun w' => w'.cell? ⟨g, 0, none⟩ = some (.int .i64 (L.length : Nat)) ∧ w'.cell? ⟨w.heap.size + 1, 0, none⟩ = some (.slice (some ⟨w.heap.size, 0, none⟩) m m)) [16] [(true, 2), (true, 3), (true, 4), (true, 7), (true, 8), (true, 9), (true, 0), (true, 1), (true, 5), (true, 10), (true, 11), (true, 6), (true, 12), (true, 13), (false, 14), (true, 15), (false, 16)] (by kernel_rfl) (by kernel_rfl) ⟨b0, b1⟩ ?_
  refine wpPlan_pure [2, 3, 4, 7, 8, 9] [(true, 0), (true, 1), (true, 5), (true, 10), (true, 11), (true, 6), (true, 12), (true, 13), (false, 14), (true, 15), (false, 16)] _ (by rfl) (by rfl) ?_
  dsimp only [List.filterMap, List.getElem?_cons_zero, List.getElem?_cons_succ]
  repeat (go_big_quiet_step (fail))
  refine wpQuiet_nil ?_
  refine wpPlan_takeL [0, 1, 5, 10] [(true, 11), (true, 6), (true, 12), (true, 13), (false, 14), (true, 15), (false, 16)] _ (by rfl) (by rfl) ⟨b0, b1⟩ ?_
  dsimp only [List.filterMap, List.getElem?_cons_zero, List.getElem?_cons_succ]
  (refine wpQuiet_load_cell (fun w' hw' => hw'.2) (by rfl) _ _ (by rfl) (by rfl) _ Tryz.underlying39 (by rfl) ?_; simp only [Act.put, List.setIfInBounds_toArray, List.set_cons_zero, List.set_cons_succ])
  (refine wpQuiet_load_cell (fun w' hw' => hw'.2) (by rfl) _ _ (by rfl) (by rfl) _ Tryz.underlying39 (by rfl) ?_; simp only [Act.put, List.setIfInBounds_toArray, List.set_cons_zero, List.set_cons_succ])
  (refine wpQuiet_load_cell (fun w' hw' => hw'.1) (by rfl) _ _ (by rfl) (by rfl) _ Tryz.underlying3 (by rfl) ?_; simp only [Act.put, List.setIfInBounds_toArray, List.set_cons_zero, List.set_cons_succ])
  (refine wpQuiet_load_cell (fun w' hw' => hw'.1) (by rfl) _ _ (by rfl) (by rfl) _ Tryz.underlying3 (by rfl) ?_; simp only [Act.put, List.setIfInBounds_toArray, List.set_cons_zero, List.set_cons_succ])
  refine wpQuiet_nil ?_
  refine wpPlan_pure [11, 6, 12] [(true, 13), (false, 14), (true, 15), (false, 16)] _ (by rfl) (by rfl) ?_
  dsimp only [List.filterMap, List.getElem?_cons_zero, List.getElem?_cons_succ]
  repeat (go_big_quiet_step (fail))
  refine wpQuiet_nil ?_
  refine wpPlan_pure [13] [(false, 14), (true, 15), (false, 16)] _ (by rfl) (by rfl) ?_
  dsimp only [List.filterMap, List.getElem?_cons_zero, List.getElem?_cons_succ]
  repeat (go_big_quiet_step (fail))
  refine wpQuiet_nil ?_
  refine wpPlan_forceL _ rfl ?_
  go_wp2
  have hne1 : w.heap.size + 1 ≠ w.heap.size := by omega
  have hne2 : g ≠ w.heap.size := by omega
  have ho3 := (ho2.set_ 0 (.int .u8 (iu8 (UInt8.ofNat (L.length % 256))))).drew
  have hx3 := (hx2.off (c := w.heap.size) (i := 0) hne1 (.int .u8 (iu8 (UInt8.ofNat (L.length % 256))))).drew
  have hg3 := (hg2.off (c := w.heap.size) (i := 0) hne2 (.int .u8 (iu8 (UInt8.ofNat (L.length % 256))))).drew
  have hb3 := (hb2.set_ (c := w.heap.size) (i := 0) (Nat.le_refl _) (.int .u8 (iu8 (UInt8.ofNat (L.length % 256))))).drew
  have hs3 : (World.setCell w2 ⟨w.heap.size, 0, none⟩ (.int .u8 (iu8 (UInt8.ofNat (L.length % 256))))).drew.heap.size = w.heap.size + 2 := by have := HS2.out; simpa [World.setCell] using this
  generalize (World.setCell w2 _ _).drew = w3 at ho3 hx3 hg3 hb3 hs3 ⊢
  clear b0 b1 b2 b3 f2 f3 ho2 hx2 hg2 hb2 HS2
  have b0 : w3.cell? ⟨g, 0, none⟩ = some (.int .i64 (L.length : Nat)) := hg3.at_ 0 (by rw [setCells, arr_at _ (by omega), setv_0])
  have b1 : w3.cell? ⟨w.heap.size + 1, 0, none⟩ = some (.slice (some ⟨w.heap.size, 0, none⟩) m m) := hx3.at_ 0 rfl
  have b3 : ∃ u, w3.cell? ⟨w.heap.size, 1, none⟩ = some u := ⟨_, ho3.at_ 1 (Array.getElem?_eq_getElem (by simp; omega))⟩
  have f3 := ho3.frozen 1
  obtain ⟨u3, b3⟩ := b3
  have HS3 := Lib.hid hs3
  clear hs3
  refine PlanQ.in_ ⟨b0, b1⟩ ?_
  refine wpPlan_pure [15] [(false, 16)] _ (by rfl) (by rfl) ?_
  dsimp only [List.filterMap, List.getElem?_cons_zero, List.getElem?_cons_succ]
  repeat (go_big_quiet_step (fail))
  refine wpQuiet_nil ?_
  refine wpPlan_forceL _ rfl ?_
  go_wp2
  have ho4 := ho3.set_ 1 (.int .u8 (iu8 (UInt8.ofNat (L.length / 256))))
  have hx4 := hx3.off (c := w.heap.size) (i := 1) hne1 (.int .u8 (iu8 (UInt8.ofNat (L.length / 256))))
  have hg4 := hg3.off (c := w.heap.size) (i := 1) hne2 (.int .u8 (iu8 (UInt8.ofNat (L.length / 256))))
  have hb4 := hb3.set_ (c := w.heap.size) (i := 1) (Nat.le_refl _) (.int .u8 (iu8 (UInt8.ofNat (L.length / 256))))
  have hs4 : (World.setCell w3 ⟨w.heap.size, 1, none⟩ (.int .u8 (iu8 (UInt8.ofNat (L.length / 256))))).heap.size = w.heap.size + 2 := by have := HS3.out; simpa [World.setCell] using this
  generalize World.setCell w3 _ _ = w4 at ho4 hx4 hg4 hb4 hs4 ⊢
  clear b0 b1 b3 f3 ho3 hx3 hg3 hb3 HS3
  replace ho4 := ho4.sub (show _ = ((encF L.length fun _ => 0).map u8v).toArray by
    rw [HM.out, encF_zero, show 2 + (L.length + 3) / 4 = (L.length + 3) / 4 + 1 + 1 by omega, List.replicate_succ, List.replicate_succ]; rfl)
  have HS4 := Lib.hid hs4
  clear hs4
  refine PlanQ.out (by rfl) (wpPlan_tidy ?_)
  go_wp2_with fail
  refine (all_any g _).mono ?_
  rintro e w' ⟨rfl, rfl⟩
  go_wp2_with fail
  have hb5 := Blk.new w4 163 #[.pointer (some ⟨g, 0, none⟩)]
  have ho5 := ho4.alloc (.cells #[.pointer (some ⟨g, 0, none⟩)] 163)
  have hx5 := hx4.alloc (.cells #[.pointer (some ⟨g, 0, none⟩)] 163)
  have hg5 := hg4.alloc (.cells #[.pointer (some ⟨g, 0, none⟩)] 163)
  have hB5 := hb4.alloc hb4.size (.cells #[.pointer (some ⟨g, 0, none⟩)] 163)
  have hs5 : (w4.alloc (.cells #[.pointer (some ⟨g, 0, none⟩)] 163)).heap.size = w.heap.size + 3 := by have := HS4.out; simp; omega
  have hs4 := HS4.out
  generalize w4.alloc _ = w5 at hb5 ho5 hx5 hg5 hB5 hs5 ⊢
  generalize w4.heap.size = bx at hb5 hs4 ⊢
  have hbx : w.heap.size + 1 < bx := by omega
  have hbl := hb5.lt
  clear ho4 hx4 hg4 hb4 HS4 hs4
  refine wpIn_wide (n := 3).1 ?_
  refine wpIn_rangeFunc_ownF rfl (by omega) (gf := 174) (lb := #[.pointer (some ⟨bx, 0, none⟩)]) rfl trivial (enters_of Tryz.func174 (by kernel_rfl) rfl)
    (all1_stops 2 (by omega) L hok h0 g bx w5 hg5 hb5) (fun h k => h.trans k) (fun W l o o' hl hW ho _ => ⟨by simp, World.putObj_heap_other (by omega), World.putObj_heap_other (by omega)⟩) (Below.refl _ _) (fun _ => rfl)
    (fun pre W => (Blk W w.heap.size 5 (((pre.map (·.1)).foldl stepB (encF L.length fun _ => 0)).map u8v).toArray ∧ Blk W (w.heap.size + 1) 39 #[.slice (some ⟨w.heap.size, 0, none⟩) m m]) ∧ Below w.heap.size w W)
    (fun _ _ _ => False)
    (OwnFrom.and (fun s A B row hs hg hr => ⟨blk_own hs.1 hg hr, blk_own hs.2 hg hr⟩) (ownFrom_below (Nat.le_refl _) (by omega)))
    (fun _ _ _ _ _ hs _ _ => hs)
    ⟨⟨ho5, hx5⟩, hB5⟩
    (fun x => { tmps := #[.pointer (some ⟨g, 0, none⟩), undef, .slice none 0 0, .pointer (some ⟨w.heap.size + 1, 0, none⟩), .int .i64 (x.1.1 : Int), .int .i64 (x.1.2 : Int), .pointer (some ⟨g, 0, none⟩), .bool false, .pointer (some ⟨g, 0, none⟩), .pointer (some ⟨g, 0, none⟩), .pointer (some ⟨g, 0, none⟩), .int .i64 (L.length : Nat), .int .i64 ((L.length : Int) + 3), .int .i64 (((L.length : Int) + 3) / 4), .int .i64 (m : Int), .slice (some ⟨w.heap.size, 0, none⟩) m m, .slice (some ⟨w.heap.size, 0, none⟩) m m, .slice (some ⟨w.heap.size, 0, none⟩) m m, .pointer (some ⟨g, 0, none⟩), .pointer (some ⟨g, 0, none⟩), .pointer (some ⟨g, 0, none⟩), .int .i64 (L.length : Nat), .int .u8 (iu8 (UInt8.ofNat (L.length % 256))), .pointer (some ⟨g, 0, none⟩), .pointer (some ⟨g, 0, none⟩), .pointer (some ⟨g, 0, none⟩), .int .i64 (L.length : Nat), .int .i64 (iu8 (UInt8.ofNat (L.length / 256))), .int .u8 (iu8 (UInt8.ofNat (L.length / 256))), .pointer (some ⟨w.heap.size, 0, none⟩), .pointer (some ⟨w.heap.size, 1, none⟩), .pointer (some ⟨g, 0, none⟩), .func (.func 174) #[] #[.pointer (some ⟨bx, 0, none⟩)], .int .i64 (x.1.1 : Int), .int .i64 (x.1.2 : Int), undef, undef, undef, undef, undef, undef, undef, undef, undef, undef, undef, undef, undef, undef, undef, undef, undef], defers := [] }) ?assign ?body ?done ?stop
  case assign =>
    intro l x W K hK
    unfold encs
    gi_wp2
    exact hK
  case body =>
    rintro l pre ⟨⟨b, v⟩, hb1, hb2, hv⟩ W ⟨⟨hO, hX⟩, hB⟩ hlen
    obtain ⟨bs, hbs⟩ : ∃ bs, bs = (pre.map (·.1)).foldl stepB (encF L.length fun _ => 0) := ⟨_, rfl⟩
    rw [← hbs] at hO
    have hbsl : bs.length = m := by rw [hbs, foldB_length, encF_length, HM.out]
    obtain ⟨k, rfl⟩ : ∃ k, b = k + 1 := ⟨b - 1, by simp at hb1; omega⟩
    simp only at hb1 hb2 hv
    obtain ⟨j, hj⟩ : ∃ j : Nat, j = k / 4 := ⟨_, rfl⟩
    obtain ⟨r, hr⟩ : ∃ r : Nat, r = k % 4 := ⟨_, rfl⟩
    have ej : (k : Int) / 4 = j := by omega
    have er : (k : Int) % 4 = r := by omega
    have hr4 : r < 4 := by omega
    have hjm : 2 + j < m := by have := HM.out; omega
    obtain ⟨y, hy⟩ : ∃ y, bs[2 + j]? = some y := ⟨_, List.getElem?_eq_getElem (by omega)⟩
    obtain ⟨z, hz⟩ : ∃ z, z = UInt8.ofNat (v * 4 ^ r) := ⟨_, rfl⟩
    have ev : (v : Int) * 2 ^ (2 * r) % 256 = iu8 z := by
      have h4 : (4 : Nat) ^ r ≤ 64 := by
        have : r = 0 ∨ r = 1 ∨ r = 2 ∨ r = 3 := by omega
        rcases this with rfl | rfl | rfl | rfl <;> decide
      have h5 : v * 4 ^ r ≤ 2 * 64 := Nat.mul_le_mul hv h4
      have h6 : (v : Int) * 2 ^ (2 * r) = ((v * 4 ^ r : Nat) : Int) := by
        rw [show (4 : Nat) = 2 ^ 2 from rfl, ← Nat.pow_mul]; simp
      rw [h6, hz, iu8_ofNat _ (by omega)]; omega
    have eo : bits .or .u8 (iu8 y) (iu8 z) = iu8 (y ||| z) := by
      unfold iu8; rw [u8_or_nat _ _ y.toNat_lt z.toNat_lt, UInt8.toNat_or]
    have HZ := Lib.hid hz
    clear hz
    have hO' := Lib.hid hO
    have hX' := Lib.hid hX
    have HBS := Lib.hid (And.intro hbs hbsl)
    have HJ := Lib.hid (And.intro hj hr)
    have HY := Lib.hid hy
    have dO : W.cell? ⟨w.heap.size, 2 + j, none⟩ = some (.int .u8 (iu8 y)) := hO.at_ (2 + j) (by rw [List.getElem?_toArray, List.getElem?_map, hy]; rfl)
    have dX : W.cell? ⟨w.heap.size + 1, 0, none⟩ = some (.slice (some ⟨w.heap.size, 0, none⟩) m m) := hX.at_ 0 rfl
    have fO := hO.frozen (2 + j)
    clear hbs hbsl hj hr hy hO hX em e1 e2
    gi_wp2
    refine wpIn_region_planT (fun w' => w'.cell? ⟨w.heap.size, 2 + j, none⟩ = some (.int .u8 (iu8 y)) ∧ w'.cell? ⟨w.heap.size + 1, 0, none⟩ = some (.slice (some ⟨w.heap.size, 0, none⟩) m m)) [16] [(true, 1), (true, 2), (true, 3), (true, 4), (true, 7), (true, 8), (true, 9), (true, 10), (true, 11), (true, 12), (true, 13), (true, 0), (true, 5), (true, 6), (true, 14), (true, 15), (false, 16)] (by kernel_rfl) (by kernel_rfl) (by kernel_rfl) ⟨dO, dX⟩ ?_
    refine wpPlan_pure [1, 2, 3, 4, 7, 8, 9, 10, 11, 12, 13] [(true, 0), (true, 5), (true, 6), (true, 14), (true, 15), (false, 16)] _ (by rfl) (by rfl) ?_
    dsimp only [List.filterMap, List.getElem?_cons_zero, List.getElem?_cons_succ]
    repeat (go_big_quiet_step (fail))
    refine wpQuiet_nil ?_
    refine wpPlan_takeL [0] [(true, 5), (true, 6), (true, 14), (true, 15), (false, 16)] _ (by rfl) (by rfl) ⟨dO, dX⟩ ?_
    dsimp only [List.filterMap, List.getElem?_cons_zero, List.getElem?_cons_succ]
    (refine wpQuiet_load_cell (fun w' hw' => hw'.2) (by rfl) _ _ (by rfl) (by rfl) _ Tryz.underlying39 (by rfl) ?_; simp only [Act.put, List.setIfInBounds_toArray, List.set_cons_zero, List.set_cons_succ])
    refine wpQuiet_nil ?_
    refine wpPlan_pure [5] [(true, 6), (true, 14), (true, 15), (false, 16)] _ (by rfl) (by rfl) ?_
    dsimp only [List.filterMap, List.getElem?_cons_zero, List.getElem?_cons_succ]
    repeat (go_big_quiet_step (fail))
    refine wpQuiet_nil ?_
    refine wpPlan_takeL [6] [(true, 14), (true, 15), (false, 16)] _ (by rfl) (by rfl) ⟨dO, dX⟩ ?_
    dsimp only [List.filterMap, List.getElem?_cons_zero, List.getElem?_cons_succ]
    (refine wpQuiet_load_cell (fun w' hw' => hw'.1) (by rfl) _ _ (by rfl) (by rfl) _ Tryz.underlying5 (by rfl) ?_; simp only [Act.put, List.setIfInBounds_toArray, List.set_cons_zero, List.set_cons_succ])
    refine wpQuiet_nil ?_
    refine wpPlan_pure [14, 15] [(false, 16)] _ (by rfl) (by rfl) ?_
    dsimp only [List.filterMap, List.getElem?_cons_zero, List.getElem?_cons_succ]
    repeat (go_big_quiet_step (fail))
    refine wpQuiet_nil ?_
    refine wpPlan_forceL _ rfl ?_
    go_wp2
    refine PlanQ.out (by rfl) (wpPlan_tidy ?_)
    have hO2 := (hO'.out.set_ (2 + j) (.int .u8 (iu8 (y ||| z)))).drew
    have hX2 := (hX'.out.off (c := w.heap.size) (i := 2 + j) hne1 (.int .u8 (iu8 (y ||| z)))).drew
    have hB2 := (hB.set_ (c := w.heap.size) (i := 2 + j) (Nat.le_refl _) (.int .u8 (iu8 (y ||| z)))).drew
    have hbs2 : ((pre ++ [(⟨(k + 1, v), hb1, hb2, hv⟩ : It L.length)]).map (·.1)).foldl stepB (encF L.length fun _ => 0) = bs.set (2 + j) (y ||| z) := by
      rw [List.map_append, List.foldl_append, ← HBS.out.1]
      show stepB bs (k + 1, v) = _
      unfold stepB
      simp only [Nat.add_sub_cancel]
      rw [← HJ.out.1, ← HJ.out.2, List.getD_eq_getElem?_getD, HY.out, ← HZ.out]; rfl
    refine ⟨(KeepsOthers.setCell _ _ _).trans (KeepsOthers.drew _), ⟨by simp [World.setCell], (Below.heap_setCell W ⟨w.heap.size, 2 + j, none⟩ _ g hne2), (Below.heap_setCell W ⟨w.heap.size, 2 + j, none⟩ _ bx (by show bx ≠ w.heap.size; omega))⟩, ⟨hO2.sub ?_, hX2⟩, hB2⟩
    rw [hbs2]
    apply Array.ext'
    simp only [List.setIfInBounds_toArray]
    rw [List.map_set]; rfl
  case done =>
    rintro D ys W hD rfl ⟨⟨hO, hX⟩, hB⟩ hK
    have dX : W.cell? ⟨w.heap.size + 1, 0, none⟩ = some (.slice (some ⟨w.heap.size, 0, none⟩) m m) := hX.at_ 0 rfl
    have hys : (upto (itm L hok h0) L.length).map (·.1) = (List.range L.length).map fun i => (i + 1, L.getD i 0) := by
      unfold upto
      rw [List.map_map]
      refine List.map_congr_left fun i hi => ?_
      exact itm_val L hok h0 (List.mem_range.1 hi)
    rw [hys, stepB_enc_all L hok.le] at hO
    have HO := Lib.hid hO
    clear hO hys
    go_wp2
    refine ⟨by simp, .inl ⟨_, _, rfl, run_takeDeferred hK, ?_⟩⟩
    refine ⟨_, results_tmp rfl _ _ _, rfl, blk_own HO.out (grownBy_putObj' W D (.deferred none)) (fun r e => by cases e; exact ⟨Nat.le_refl _, _, hK, rfl⟩), hB.trans (belowK_b (w := w) (Nat.le_refl _) W D _ _ (by omega) hK rfl rfl)⟩
  case stop =>
    rintro D c pre W _ _ h _
    exact h.elim
end Go.Proofs.YtfoegmjpfkmggaaGreatDoor

/- The program's set of blocks: its counts. Conditions: the set's block is known. -/
namespace Go.Proofs.YtfoegmjpfkmggaaGreatDoor
open Go.RowKit Go.Shelf
attribute [local go_sem] Oper.semAt_some
def cnts (l : List Nat) (v : Nat) : Nat := (l.filter fun x => decide (x = v)).length
theorem cnts_snoc (l : List Nat) (x v : Nat) : cnts (l ++ [x]) v = cnts l v + if x = v then 1 else 0 := by
  unfold cnts
  rw [List.filter_append, List.length_append, List.filter_cons]
  by_cases h : x = v
  · simp [h]
  · simp [h]
theorem cnts_le (l : List Nat) (v : Nat) : cnts l v ≤ l.length := List.length_filter_le _ _
def c3 (l : List Nat) : Array Value := #[.int .i64 (cnts l 0 : Nat), .int .i64 (cnts l 1 : Nat), .int .i64 (cnts l 2 : Nat)]
theorem c3_at (l : List Nat) (v : Nat) (h : v ≤ 2) : (c3 l)[v]? = some (.int .i64 (cnts l v : Nat)) := by
  have : v = 0 ∨ v = 1 ∨ v = 2 := by omega
  rcases this with rfl | rfl | rfl <;> rfl
theorem c3_snoc (l : List Nat) (v : Nat) (h : v ≤ 2) : (c3 l).setIfInBounds v (.int .i64 ((cnts l v : Nat) + 1 : Int)) = c3 (l ++ [v]) := by
  have : v = 0 ∨ v = 1 ∨ v = 2 := by omega
  unfold c3
  rcases this with rfl | rfl | rfl <;> simp [cnts_snoc]
set_option maxRecDepth 100000 in
set_option maxHeartbeats 2000000 in
theorem counts_any (L : List Nat) (hok : SetOk L) (h0 : 0 < L.length) (g : Nat) (w : World) (h : Blk w g 220 (setCells L)) :
    Calls Tryz.prog 179 #[.pointer (some ⟨g, 0, none⟩)] w fun e w' => e = .returned (.tuple #[.int .i64 (cnts L 0 : Nat), .int .i64 (cnts L 1 : Nat), .int .i64 (cnts L 2 : Nat)]) ∧ Below w.heap.size w w' := by
  have hl := hok.len
  have hn := none_any L g w h
  rw [decide_eq_false (by omega)] at hn
  have hg := h.lt
  refine callsIn_wide (n := 3).1 ?_
  refine callsIn_of_wp_marks Tryz.func179 rfl trivial ?_ rfl
  simp only [Tryz.ntmps179, List.size_toArray, List.length_cons, List.length_nil, Nat.reduceAdd, Nat.reduceSub, Array.replicate_succ, Array.replicate_zero, List.push_toArray, List.append_toArray, List.nil_append, List.cons_append]
  refine wpIn_wide.2 ?_
  go_wp2_with (first
    | (go_at_call 149; refine hn.mono ?_; rintro e w' ⟨rfl, rfl⟩)
    | fail)
  refine (all_any g _).mono ?_
  rintro e w' ⟨rfl, rfl⟩
  go_wp2_with fail
  have hx5 : Blk ((w.alloc (.cells #[.int .i64 0, .int .i64 0, .int .i64 0] 259)).alloc (.cells #[.pointer (some ⟨g, 0, none⟩)] 163)) w.heap.size 259 (c3 []) := (Blk.new w _ _).alloc _
  have hb5 : Blk ((w.alloc (.cells #[.int .i64 0, .int .i64 0, .int .i64 0] 259)).alloc (.cells #[.pointer (some ⟨g, 0, none⟩)] 163)) (w.heap.size + 1) 163 #[.pointer (some ⟨g, 0, none⟩)] := Blk.new' _ _ _ (by simp)
  have hg5 := (h.alloc (.cells #[.int .i64 0, .int .i64 0, .int .i64 0] 259)).alloc (.cells #[.pointer (some ⟨g, 0, none⟩)] 163)
  have hB5 := ((Below.refl w.heap.size w).alloc (Nat.le_refl _) (.cells #[.int .i64 0, .int .i64 0, .int .i64 0] 259)).alloc (by simp) (.cells #[.pointer (some ⟨g, 0, none⟩)] 163)
  have hs5 : ((w.alloc (.cells #[.int .i64 0, .int .i64 0, .int .i64 0] 259)).alloc (.cells #[.pointer (some ⟨g, 0, none⟩)] 163)).heap.size = w.heap.size + 2 := by simp
  generalize (w.alloc _).alloc _ = w5 at hx5 hb5 hg5 hB5 hs5 ⊢
  clear h hn
  have hbl := hb5.lt
  refine wpIn_wide (n := 3).1 ?_
  refine wpIn_rangeFunc_ownF rfl (by omega) (gf := 174) (lb := #[.pointer (some ⟨w.heap.size + 1, 0, none⟩)]) rfl trivial (enters_of Tryz.func174 (by kernel_rfl) rfl)
    (all1_stops 2 (by omega) L hok h0 g (w.heap.size + 1) w5 hg5 hb5) (fun h k => h.trans k) (fun W l o o' hl hW ho _ => ⟨by simp, World.putObj_heap_other (by omega), World.putObj_heap_other (by omega)⟩) (Below.refl _ _) (fun _ => rfl)
    (fun pre W => (Blk W w.heap.size 259 (c3 (pre.map (·.1.2)))) ∧ Below w.heap.size w W)
    (fun _ _ _ => False)
    (OwnFrom.and (fun s A B row hs hg hr => blk_own hs hg hr) (ownFrom_below (Nat.le_refl _) (by omega)))
    (fun _ _ _ _ _ hs _ _ => hs)
    ⟨hx5, hB5⟩
    (fun x => { tmps := #[.pointer (some ⟨g, 0, none⟩), undef, .int .i64 0, .int .i64 0, .int .i64 0, .pointer (some ⟨w.heap.size, 0, none⟩), undef, .int .i64 (x.1.2 : Int), .pointer (some ⟨g, 0, none⟩), .bool false, .pointer (some ⟨g, 0, none⟩), .func (.func 174) #[] #[.pointer (some ⟨w.heap.size + 1, 0, none⟩)], .int .i64 (x.1.1 : Int), .int .i64 (x.1.2 : Int), undef, undef, undef, undef, undef, undef, undef, undef, undef, undef, undef], defers := [] }) ?assign ?body ?done ?stop
  case assign =>
    intro l x W K hK
    unfold encs
    gi_wp2
    exact hK
  case body =>
    rintro l pre ⟨⟨b, v⟩, hb1, hb2, hv⟩ W ⟨hX, hB⟩ hlen
    simp only at hb1 hb2 hv
    have hle := cnts_le (pre.map (·.1.2)) v
    rw [List.length_map] at hle
    have dX : W.cell? ⟨w.heap.size, v, none⟩ = some (.int .i64 (cnts (pre.map (·.1.2)) v : Nat)) := hX.at_ v (c3_at _ v hv)
    have fX := hX.frozen v
    have hX2 := (hX.set_ v (.int .i64 ((cnts (pre.map (·.1.2)) v : Nat) + 1 : Int))).sub (c3_snoc _ v hv)
    generalize cnts (pre.map (·.1.2)) v = c at dX hle hX2
    have HX2 := Lib.hid hX2
    clear hX hX2 hs5 hx5 hb5 hg5
    gi_wp2
    refine ⟨KeepsOthers.setCell _ _ _, ⟨by simp [World.setCell], Below.heap_setCell W ⟨w.heap.size, v, none⟩ _ g (by show g ≠ w.heap.size; omega), Below.heap_setCell W ⟨w.heap.size, v, none⟩ _ (w.heap.size + 1) (by show w.heap.size + 1 ≠ w.heap.size; omega)⟩, ?_, hB.set_ (c := w.heap.size) (i := v) (Nat.le_refl _) _⟩
    rw [List.map_append]
    exact HX2.out
  case done =>
    rintro D ys W hD rfl ⟨hX, hB⟩ hK
    have hys : (upto (itm L hok h0) L.length).map (·.1.2) = L := by
      unfold upto
      rw [List.map_map]
      apply List.ext_getElem
      · simp
      · intro i h1 h2
        simp only [List.getElem_map, List.getElem_range, Function.comp]
        rw [itm_val L hok h0 h2]
        simp [h2]
    rw [hys] at hX
    have d0 : W.cell? ⟨w.heap.size, 0, none⟩ = some (.int .i64 (cnts L 0 : Nat)) := hX.at_ 0 rfl
    have d1 : W.cell? ⟨w.heap.size, 1, none⟩ = some (.int .i64 (cnts L 1 : Nat)) := hX.at_ 1 rfl
    have d2 : W.cell? ⟨w.heap.size, 2, none⟩ = some (.int .i64 (cnts L 2 : Nat)) := hX.at_ 2 rfl
    clear hX hys hs5 hx5 hb5 hg5
    go_wp2
    refine wp_region_planT (fun w' => w' = World.drew W) [] [(true, 0), (true, 2), (true, 4), (true, 1), (true, 3), (true, 5), (true, 6), (true, 7), (true, 8)] (by kernel_rfl) (by kernel_rfl) rfl ?_
    refine wpPlan_takeL [0, 2, 4, 1, 3, 5, 6, 7, 8] [] _ (by rfl) (by rfl) (rfl) ?_
    dsimp only [List.filterMap, List.getElem?_cons_zero, List.getElem?_cons_succ]
    repeat (go_big_quiet_step (fail))
    refine wpQuiet_nil ?_
    refine wpPlan_tidy ?_
    have hK2 : W.drew.heap[D]? = some (.deferred (some [])) := hK
    go_wp2
    refine ⟨by simp, .inl ⟨_, _, rfl, run_takeDeferred hK2, ?_⟩⟩
    refine ⟨_, results_tmp3 rfl _ _ _, rfl, hB.drew.trans (belowK_b (w := w) (Nat.le_refl _) W.drew D _ _ (by omega) hK2 rfl rfl)⟩
  case stop =>
    rintro D c pre W _ _ h _
    exact h.elim
end Go.Proofs.YtfoegmjpfkmggaaGreatDoor
