/- A grid is made. Conditions: the disk is known, or none. -/
import Derived.Test.YtfoegmjpfkmggaaGreatDoorMGridKeeps11
import Derived.Lib.SliceRun
import Derived.Laws.IdiomCopy
namespace Go.Proofs.YtfoegmjpfkmggaaGreatDoor
open Go.RowKit
theorem w64_in {n : Int} (h : -9223372036854775808 ≤ n ∧ n ≤ 9223372036854775807) : wrap64 n = n := by unfold wrap64; omega
section
variable {w : World} {p : Pl} {gf : Option Nat} {d : Dsk} {f : Option Fus}
set_option maxRecDepth 100000 in
set_option maxHeartbeats 4000000 in
theorem gnew_any (h : DkOk w p gf d f) (ho : d.isOut f = false) (n : Nat) (h1 : 1 ≤ n) (h2 : n ≤ 512) (hr : 104 + 4 * n ≤ d.N) :
    Calls Tryz.prog 62 #[.pointer (some ⟨p.gd, 0, none⟩), .int .i64 (n : Int)] w fun e w' => ∃ q : GPl, q.p = p ∧ q.gf = gf ∧ e = .returned (.tuple #[.pointer (some ⟨q.gg, 0, none⟩), .int .i64 0]) ∧
      GridR w' q ⟨n, List.replicate n 0, []⟩ d f ∧ (w.heap.size ≤ q.gg ∧ w.heap.size ≤ q.gs ∧ w.heap.size ≤ q.gi ∧ q.gw = none) ∧ Below w.heap.size w w' := by
  have hs := sectors_all h.dr
  have hu := up_all h.dr h.fr
  rw [ho] at hu
  have hN1 := h.ok.n1
  have kz : ((d.N : Int) == 0) = false := beq_eq_false_iff_ne.2 (by omega)
  have kl : decide ((d.N : Int) < 104 + 4 * (n : Int)) = false := decide_eq_false (by omega)
  have H0 := Lib.hid (And.intro h (And.intro h1 (And.intro h2 (And.intro hr hN1))))
  have hsw := fun w' (hb : Below w.heap.size w w') => sectors_all (h.dr.near (X := []) (Near.below hb) ⟨by simp, by simp, by simp⟩)
  have hn := setNew_any n h1 h2 w
  clear h h1 h2 hr hN1
  go_enter Tryz.func62, Tryz.ntmps62
  go_wp2_with fail
  refine hs.mono ?_
  rintro e w1 ⟨rfl, hw⟩
  obtain rfl := hw.symm
  clear hs hw
  go_wp2_with fail
  refine hu.mono ?_
  rintro e w1 ⟨rfl, hw⟩
  obtain rfl := hw.symm
  clear hu hw
  go_wp2_with fail
  refine hn.mono ?_
  rintro e w2 ⟨rfl, hset, hbx⟩
  have hs2 := hsw w2 hbx
  have H2 := Lib.hid (And.intro hset hbx)
  clear hn hsw hset hbx
  go_wp2_with fail
  refine hs2.mono ?_
  rintro e w3 ⟨rfl, hw⟩
  obtain rfl := hw.symm
  clear hs2 hw kz
  have hw1 : wrap64 (4 * (n : Int)) = 4 * (n : Int) := w64_in (by have := H0.out.2.2.1; omega)
  have hw2 : wrap64 (104 + 4 * (n : Int)) = 104 + 4 * (n : Int) := w64_in (by have := H0.out.2.2.1; omega)
  go_wp2_with (first
    | ((with_reducible show wpList _ _ _ ((⟨some 34, _, _, _, _, _⟩ : Oper) :: _) _ _); refine wpList_make_map (o := ⟨some 34, _, _, _, _, _⟩) _ (by rfl) _ (by rfl) ?_; intro w4 hm4 hb4 hs4)
    | fail)
  have hgg := Blk.new' w4 166 #[.pointer (some ⟨p.gd, 0, none⟩), .int .i64 (n : Int), .pointer (some ⟨w.heap.size, 0, none⟩), .map (some w2.heap.size), .slice none 0 0] (n := w2.heap.size + 1) hs4.symm
  have hbx := (Below.refl w4.heap.size w4).alloc (Nat.le_refl _) (.cells #[.pointer (some ⟨p.gd, 0, none⟩), .int .i64 (n : Int), .pointer (some ⟨w.heap.size, 0, none⟩), .map (some w2.heap.size), .slice none 0 0] 166)
  have hB4 := H2.out.2.trans (hb4.mono H2.out.2.size)
  have hB5 := hB4.trans (hbx.mono hB4.size)
  have hst := (H2.out.1.below hb4 H2.out.1.lt).below hbx (Nat.lt_of_lt_of_le H2.out.1.lt hb4.size)
  have hm5 : MapK _ w2.heap.size (fun _ : RefT => True) encRef (wantM []) := (⟨#[], 0, hm4.below hbx hm4.lt, rfl, by simp, by simp, by simp⟩)
  go_ret2
  refine ⟨⟨w2.heap.size + 1, w.heap.size, w2.heap.size, none, p, gf⟩, rfl, rfl, rfl, ⟨H0.out.1.near (Near.below hB5), hst, hm5, ⟨.slice none 0 0, [], rfl, hgg, .inl ⟨rfl, rfl, rfl, rfl⟩⟩, ⟨H0.out.2.1, H0.out.2.2.1, by simp, setOk_new n H0.out.2.2.1, H0.out.2.2.2.1, List.nodup_nil⟩, fun e => ?_⟩, ⟨by have := H2.out.2.size; show w.heap.size ≤ w2.heap.size + 1; omega, Nat.le_refl _, H2.out.2.size, rfl⟩, hB5⟩
  have h1 := H0.out.1.lt p.gm (by simp [Pl.all])
  have h2 := H2.out.2.size
  have e : w2.heap.size = p.gm := e
  omega
set_option maxRecDepth 100000 in
/-- Where the disk is too small. -/
theorem gnew_small (h : DkOk w p gf d f) (ho : d.isOut f = false) (n : Nat) (h1 : 1 ≤ n) (h2 : n ≤ 512) (hr : d.N < 104 + 4 * n) :
    Calls Tryz.prog 62 #[.pointer (some ⟨p.gd, 0, none⟩), .int .i64 (n : Int)] w fun e w' => e = .returned (.tuple #[.pointer none, .int .i64 5]) ∧ Below w.heap.size w w' := by
  have hs := sectors_all h.dr
  have hu := up_all h.dr h.fr
  rw [ho] at hu
  have hN1 := h.ok.n1
  have kz : ((d.N : Int) == 0) = false := beq_eq_false_iff_ne.2 (by omega)
  have kl : decide ((d.N : Int) < 104 + 4 * (n : Int)) = true := decide_eq_true (by omega)
  have hsw := fun w' (hb : Below w.heap.size w w') => sectors_all (h.dr.near (X := []) (Near.below hb) ⟨by simp, by simp, by simp⟩)
  have hn := setNew_any n h1 h2 w
  have hw1 : wrap64 (4 * (n : Int)) = 4 * (n : Int) := w64_in (by omega)
  have hw2 : wrap64 (104 + 4 * (n : Int)) = 104 + 4 * (n : Int) := w64_in (by omega)
  clear h h1 h2 hr hN1
  go_enter Tryz.func62, Tryz.ntmps62
  go_wp2_with fail
  refine hs.mono ?_
  rintro e w1 ⟨rfl, hw⟩
  obtain rfl := hw.symm
  clear hs hw
  go_wp2_with fail
  refine hu.mono ?_
  rintro e w1 ⟨rfl, hw⟩
  obtain rfl := hw.symm
  clear hu hw
  go_wp2_with fail
  refine hn.mono ?_
  rintro e w2 ⟨rfl, hset, hbx⟩
  have hs2 := hsw w2 hbx
  have H2 := Lib.hid hbx
  clear hn hsw hset hbx
  go_wp2_with fail
  refine hs2.mono ?_
  rintro e w3 ⟨rfl, hw⟩
  obtain rfl := hw.symm
  clear hs2 hw kz
  go_wp2
  go_ret2
  exact ⟨rfl, H2.out⟩
end
end Go.Proofs.YtfoegmjpfkmggaaGreatDoor

/- A list of refs is cloned; what a grid wants is told: its Wanted. Conditions: the list can be read; the grid is known. -/
namespace Go.Proofs.YtfoegmjpfkmggaaGreatDoor
open Go.RowKit
def RefsTold (l : List RefT) (w : World) (e : Ending) (w' : World) : Prop := ∃ A c, e = .returned (.slice A l.length c) ∧ Refs w' A l ∧ (∀ ad, A = some ad → w.heap.size ≤ ad.block) ∧ Below w.heap.size w w'
set_option maxRecDepth 100000 in
set_option maxHeartbeats 2000000 in
theorem cloneRefs_any (A : Option Addr) (n c : Nat) (l : List RefT) (w : World) (hn : n = l.length) (hl : l.length ≤ 1099511627776) (hr : Refs w A l) :
    Calls Tryz.prog 107 #[.slice A n c] w (RefsTold l w) := by
  cases A with
  | none =>
    have hl0 : l = [] := by
      rcases Nat.eq_zero_or_pos l.length with h | h
      · exact List.eq_nil_of_length_eq_zero h
      · obtain ⟨b, off, e, -⟩ := hr h
        cases e
    subst hl0
    subst hn
    clear hr hl
    have he : ∀ w', (binOp .eql 114 (.slice none 0 c) (.slice none 0 0)).run Tryz.prog w' = .ok (.bool true) w' := fun w' => Lib.run_eql_slice_nil w' 114 113 none _ _ _ _ Tryz.underlying114
    go_enter Tryz.func107, Tryz.ntmps107
    go_wp2
    go_ret
    exact ⟨none, 0, rfl, (fun h => absurd h (by simp)), (fun _ e => by cases e), Below.refl _ _⟩
  | some ad =>
    subst hn
    have hB := (Below.refl w.heap.size w).alloc (Nat.le_refl _) (.cells #[] 113)
    have hr1 := (hr.below hB).reads
    have ho : OwnsC 113 2 (w.alloc (.cells #[] 113)) w.heap.size (.slice (some ⟨w.heap.size, 0, none⟩) 0 0) 0 [] [] := by
      have := OwnsC.lit (e := 113) (size := 2) (base := w.heap.size) w #[] 0 (by simp) (by simp) (by simp)
      simpa using this
    have hs1 : w.heap.size ≤ (w.alloc (.cells #[] 113)).heap.size := by simp
    have H0 := Lib.hid (And.intro hB (And.intro hr1 (And.intro ho hs1)))
    have HL := Lib.hid hl
    clear hB hr1 ho hs1 hr hl
    have he : ∀ w', (binOp .eql 114 (.slice (some ad) l.length c) (.slice none 0 0)).run Tryz.prog w' = .ok (.bool false) w' := fun w' => Lib.run_eql_slice_nil w' 114 113 (some ad) _ _ _ _ Tryz.underlying114
    go_enter Tryz.func107, Tryz.ntmps107
    go_wp2_with (first
      | ((with_reducible show wpList _ _ _ ((⟨some 7, _, _, _, _, _⟩ : Oper) :: _) _ _); generalize (w.alloc (.cells #[] 113)) = w1 at H0 ⊢; refine wpList_append_vals (o := ⟨some 7, _, _, _, _, _⟩) (by rfl) _ _ _ (by rfl) w.heap.size 113 (.agg #[.int .i64 0, .int .i64 0]) 2 16 Tryz.underlying114 infoRef (by rfl) (by omega) _ 0 [] [] (by rfl) H0.out.2.2.1 (some ad) l.length c (refCells l) (by rfl) (refCells_length l) H0.out.2.1 (refCells_one l) (by have := HL.out; unfold maxLen; omega) (by have := HL.out; omega) H0.out.2.2.2 ?_; intro v2 w2 sp2 ho2 hg2 hv2 hn2)
      | fail)
    go_ret
    rw [Nat.zero_add, List.nil_append] at ho2
    have hlt := OwnsC.lt ho2
    obtain ⟨A2, c2, rfl, -, -, hrd, -⟩ := OwnsC.reads ho2
    refine ⟨A2, c2, rfl, Refs.of hrd, (fun ad2 e => (hlt ad2.block (by rw [e]; rfl)).1), ?_⟩
    exact H0.out.1.grown hg2 H0.out.1.size (fun k hk => by simp [Value.ownBlock] at hk; omega)
section
variable {w : World} {q : GPl} {g : Grd} {d : Dsk} {f : Option Fus}
set_option maxRecDepth 100000 in
theorem gwanted_any (h : GridR w q g d f) (hl : g.W.length ≤ 1099511627776) : Calls Tryz.prog 58 #[.pointer (some ⟨q.gg, 0, none⟩)] w (RefsTold g.W w) := by
  obtain ⟨wv, sp, h1, h2, h3⟩ := h.wn
  obtain ⟨B, c, rfl, -, -, hrd, -⟩ := OwnsC.reads h3
  have d4 := h2.at_ 4 (v := .slice B g.W.length c) rfl
  have hn := gnone_any h
  have hc := cloneRefs_any B g.W.length c g.W w rfl hl (Refs.of hrd)
  clear h h1 h2 h3 hrd
  go_enter Tryz.func58, Tryz.ntmps58
  go_wp2_with fail
  refine hn.mono ?_
  rintro e w1 ⟨rfl, hw⟩
  obtain rfl := hw.symm
  clear hn hw
  go_wp2_with fail
  refine hc.mono ?_
  rintro e w2 ⟨A2, c2, rfl, h4⟩
  have H4 := Lib.hid h4
  clear h4 hc
  go_wp2
  go_ret
  exact ⟨A2, c2, rfl, H4.out⟩
end
end Go.Proofs.YtfoegmjpfkmggaaGreatDoor

/- A block is written to a grid whose disk holds; a grid that a statement made. Plain facts of this program. No condition. -/
namespace Go.Proofs.YtfoegmjpfkmggaaGreatDoor
open Go.RowKit
theorem gput_ok {g : Grd} {d : Dsk} {k s : Int} {l : List RefT} {m : List UInt8} (h : Rm d g.n) (hg : g.L.length = g.n) (hset : SetOk g.L) (hok : GB.ok (k, (1, s, ()), l, m, ()) = true) (he : acqE g.L = 0) :
    ∃ d', gput g d none k l m s = ((0, (acqN g.L, s, ())), { g with L := acqL g.L }, d', none) ∧ Rm d' g.n ∧ d'.N = d.N ∧ gblk d' (acqN g.L) = GB.bytes (k, (acqN g.L, s, ()), l, m, ()) ∧ ∀ c, 1 ≤ c → c ≤ (g.n : Int) → c ≠ acqN g.L → gblk d' c = gblk d c := by
  obtain ⟨h1, h2, h3⟩ := acq_range hset (show ¬ acqE g.L ≠ 0 by rw [he]; simp)
  have hok2 := GB.ok_at hok h1 h3
  obtain ⟨d', e1, e2, e3, e4, e5⟩ := gwrite h h1 (hg ▸ h2) (GB.bytes_length (k, (acqN g.L, s, ()), l, m, ()) (GB.ok_spec hok2).2.2.1 (GB.ok_spec hok2).2.2.2.1)
  refine ⟨d', ?_, e2, e3, e4, e5⟩
  unfold gput
  rw [if_neg (by unfold Dsk.isOut; rw [h.out]; simp), if_neg (by rw [hok]; simp), if_neg (by rw [he]; simp), e1, if_neg (by simp)]
/-- A grid that was made since, and its disk. -/
def GL (B : Nat) (w : World) (gp dp : Nat) (g : Grd) (d : Dsk) : Prop := ∃ q : GPl, q.gg = gp ∧ q.p.gd = dp ∧ q.gf = none ∧ GridR w q g d none ∧ ∀ x ∈ q.all, B ≤ x
section
variable {B gp dp : Nat} {w w' : World} {g : Grd} {d : Dsk}
theorem GL.below (h : GL B w gp dp g d) (k : Below w.heap.size w w') : GL B w' gp dp g d := by
  obtain ⟨q, h1, h2, h3, h4, h5⟩ := h
  exact ⟨q, h1, h2, h3, h4.below k, h5⟩
theorem GL.of_post {q : GPl} {g2 : Grd} {d2 : Dsk} {f : Option Fus} (e1 : q.gg = gp) (e2 : q.p.gd = dp) (e3 : q.gf = none) (e4 : ∀ x ∈ q.all, B ≤ x) (hs : B ≤ w.heap.size) (h : GPost w q g2 d2 f w') : GL B w' gp dp g2 d2 ∧ Below B w w' := by
  obtain ⟨q', k1, k2, k3, k4, k5, k6⟩ := h
  have hf : f = none := by
    have := k4.dk.fr
    rw [k3, e3] at this
    exact this.none_
  subst hf
  exact ⟨⟨q', k1.trans e1, (congrArg Pl.gd k2).trans e2, k3.trans e3, k4, fun x hx => (k6 x hx).elim (e4 x) (fun k => Nat.le_trans hs k)⟩, k5.toBelow e4 hs⟩
instance : KeepsTo w w' (GL B w gp dp g d) (GL B w' gp dp g d) := ⟨fun hb h => h.below hb⟩
end
end Go.Proofs.YtfoegmjpfkmggaaGreatDoor

/- A block is let go, what was let go is settled; the set's bytes and counts; a flush. Conditions: the grid is known. -/
namespace Go.Proofs.YtfoegmjpfkmggaaGreatDoor
open Go.RowKit
theorem Dsk.flush_N (d : Dsk) (f : Option Fus) : (d.flush f).2.1.N = d.N := by
  unfold Dsk.flush chg
  split
  · rfl
  split
  · rfl
  · split <;> rfl
/-- A grid's set is changed where it stands. -/
theorem GridR.setIn {w w' : World} {q : GPl} {g : Grd} {d : Dsk} {f : Option Fus} {L : List Nat} (h : GridR w q g d f) (hs : Blk w' q.gs 220 (setCells L)) (hu : Near [q.gs] w w') (hL : SetOk L) (hlen : L.length = g.n) : GridR w' q { g with L := L } d f := by
  have hap := h.apart
  obtain ⟨wv, sp, h1, h2, h3⟩ := h.wn
  exact ⟨h.dk.nearX hu (fun x hx hm => hap.s (List.mem_singleton.1 hm ▸ hx)), hs, h.mp.near hu (fun hm => hap.si (List.mem_singleton.1 hm).symm),
    ⟨wv, sp, h1, h2.near hu (fun hm => hap.gs (List.mem_singleton.1 hm)), OwnsC.nearO h3 hu (fun x hx hm => (hap.wo x (h1 ▸ hx)).2.1 (List.mem_singleton.1 hm))⟩, ⟨h.ok.h1, h.ok.h512, hlen, hL, h.ok.room, h.ok.nd⟩, h.ne⟩
section
variable {w : World} {q : GPl} {g : Grd} {d : Dsk} {f : Option Fus}
theorem GPost.setIn {L : List Nat} {w1 w' : World} (h0 : GridR w q g d f) (hB : Below w.heap.size w w1) (hs : Blk w' q.gs 220 (setCells L)) (hu : Upd q.gs w1 w') (hL : SetOk L) (hlen : L.length = g.n) : GPost w q { g with L := L } d f w' :=
  ⟨q, rfl, rfl, rfl, (h0.below hB).setIn hs (Near.upd hu (List.mem_singleton_self _)) hL hlen, (Near.below hB).trans (Near.upd hu (GPl.mem.2 (.inr (.inl rfl)))), fun _ hx => .inl hx⟩
set_option maxRecDepth 100000 in
theorem gsettle_any (h : GridR w q g d f) : Calls Tryz.prog 61 #[.pointer (some ⟨q.gg, 0, none⟩)] w fun e w' => e = .returned (.int .i64 (cnt g.L g.L.length : Nat)) ∧ GPost w q { g with L := setl g.L } d f w' := by
  obtain ⟨wv, hb⟩ := h.blk
  have d2 := hb.at_ 2 (v := .pointer (some ⟨q.gs, 0, none⟩)) rfl
  have hn := gnone_any h
  have hs := settle_any g.L h.ok.set (by have := h.ok.len; have := h.ok.h1; omega) q.gs w h.st
  have H0 := Lib.hid h
  clear h hb
  go_enter Tryz.func61, Tryz.ntmps61
  go_wp2_with fail
  refine hn.mono ?_
  rintro e w1 ⟨rfl, hw⟩
  obtain rfl := hw.symm
  clear hn hw
  go_wp2_with fail
  refine hs.mono ?_
  rintro e w2 ⟨rfl, hst, hu⟩
  have HP := Lib.hid (GPost.setIn H0.out (Below.refl _ _) hst hu H0.out.ok.set.setl ((setl_length _).trans H0.out.ok.len))
  clear hs hst hu
  go_wp2
  go_ret
  exact ⟨rfl, HP.out⟩
set_option maxRecDepth 100000 in
theorem gfree_any (h : GridR w q g d f) : Calls Tryz.prog 65 #[.pointer (some ⟨q.gg, 0, none⟩)] w fun e w' => e = .returned (.slice (some ⟨w.heap.size, 0, none⟩) (2 + (g.L.length + 3) / 4) (2 + (g.L.length + 3) / 4)) ∧ Blk w' w.heap.size 5 ((enc g.L).map u8v).toArray ∧ Below w.heap.size w w' := by
  obtain ⟨wv, hb⟩ := h.blk
  have d2 := hb.at_ 2 (v := .pointer (some ⟨q.gs, 0, none⟩)) rfl
  have hn := gnone_any h
  have hs := bytes_any g.L h.ok.set (by have := h.ok.len; have := h.ok.h1; omega) q.gs w h.st
  clear h hb
  go_enter Tryz.func65, Tryz.ntmps65
  go_wp2_with fail
  refine hn.mono ?_
  rintro e w1 ⟨rfl, hw⟩
  obtain rfl := hw.symm
  clear hn hw
  go_wp2_with fail
  refine hs.mono ?_
  rintro e w2 ⟨rfl, hst, hB⟩
  have HB := Lib.hid (And.intro hst hB)
  clear hs hst hB
  go_wp2
  go_ret
  exact ⟨rfl, HB.out⟩
set_option maxRecDepth 100000 in
theorem gflush_any (h : GridR w q g d f) : Calls Tryz.prog 64 #[.pointer (some ⟨q.gg, 0, none⟩)] w fun e w' => e = .returned (.int .i64 (d.flush f).1) ∧ GPost w q g (d.flush f).2.1 (d.flush f).2.2 w' := by
  obtain ⟨wv, hb⟩ := h.blk
  have d0 := hb.at_ 0 (v := .pointer (some ⟨q.p.gd, 0, none⟩)) rfl
  have hn := gnone_any h
  have hs := flush_ok' w h.dk
  have H0 := Lib.hid h
  clear h hb
  go_enter Tryz.func64, Tryz.ntmps64
  go_wp2_with fail
  refine hn.mono ?_
  rintro e w1 ⟨rfl, hw⟩
  obtain rfl := hw.symm
  clear hn hw
  go_wp2_with fail
  refine hs.mono ?_
  rintro e w2 ⟨rfl, hdk, hN⟩
  have HP := Lib.hid (show GPost w q g (d.flush f).2.1 (d.flush f).2.2 w2 from ⟨q, rfl, rfl, rfl, H0.out.wrote hdk hN (Dsk.flush_N d f), hN.wider (fun x hx => GPl.mem.2 (.inr (.inr (.inr (.inr hx))))), fun _ hx => .inl hx⟩)
  clear hs hdk hN
  go_wp2
  go_ret
  exact ⟨rfl, HP.out⟩
set_option maxRecDepth 100000 in
theorem grelease_any (h : GridR w q g d f) (r : RefT) (hb1 : -9223372036854775808 ≤ r.1) (hb2 : r.1 ≤ 9223372036854775807) : Calls Tryz.prog 59 #[.pointer (some ⟨q.gg, 0, none⟩), .agg #[.int .i64 r.1, .int .i64 r.2.1]] w fun e w' => e = .returned (.int .i64 (turnCode g.L r.1 1)) ∧ GPost w q { g with L := turnL g.L r.1 1 2 } d f w' := by
  have hB := (Below.refl w.heap.size w).alloc (Nat.le_refl _) (.cells #[.int .i64 r.1, .int .i64 r.2.1] 113)
  have hbr := Blk.new w 113 #[.int .i64 r.1, .int .i64 r.2.1]
  have hn := gnone_any (h.below hB)
  have H0 := Lib.hid (And.intro h (And.intro hB (And.intro hbr (h.below hB))))
  have HR := Lib.hid (And.intro hb1 hb2)
  clear h hB hbr hb1 hb2
  go_enter Tryz.func59, Tryz.ntmps59
  go_wp2_with fail
  generalize (w.alloc (.cells #[.int .i64 r.1, .int .i64 r.2.1] 113)) = w1 at H0 hn ⊢
  refine hn.mono ?_
  rintro e w2 ⟨rfl, hw⟩
  obtain rfl := hw.symm
  clear hn hw
  go_wp2_with fail
  have hC0 : Near [q.gs] w1 w1.drew := (Near.refl _ _).drew
  have hG : Hid (∀ w', Near [q.gs] w1 w' → w'.cell? ⟨q.gg, 2, none⟩ = some (.pointer (some ⟨q.gs, 0, none⟩)) ∧ w'.cell? ⟨w.heap.size, 0, none⟩ = some (.int .i64 r.1)) := Lib.hid fun w' hw' => by
    obtain ⟨wv, hb⟩ := H0.out.2.2.2.blk
    have hap := H0.out.2.2.2.apart
    have hlt : q.gs < w.heap.size := H0.out.1.lt q.gs (GPl.mem.2 (.inr (.inl rfl)))
    exact ⟨(hb.near hw' (fun hm => hap.gs (List.mem_singleton.1 hm))).at_ 2 rfl, (H0.out.2.2.1.near hw' (fun hm => by have := List.mem_singleton.1 hm; omega)).at_ 0 rfl⟩
  refine wp_region_tree (Near [q.gs] w1) [] (PlanT.takes [0, 1, 2, 4] (PlanT.takes [3, 5] (.opt 6 (PlanT.takes [7] .done) .no))) (by kernel_rfl) (by kernel_rfl) (hC0) ?_
  refine wpTree_pure _ _ _ (by rfl) (by rfl) ?_
  dsimp only [List.filterMap, List.getElem?_cons_zero, List.getElem?_cons_succ]
  repeat (go_big_quiet_step (fail))
  refine wpQuiet_nil ?_
  refine wpTree_takeL _ _ _ (by rfl) (by rfl) (hC0) ?_
  dsimp only [List.filterMap, List.getElem?_cons_zero, List.getElem?_cons_succ]
  (refine wpQuiet_load_cell (fun w' hw' => (hG.out w' hw').1) (by rfl) _ _ (by rfl) (by rfl) _ Tryz.underlying163 (by rfl) ?_; simp only [Act.put, List.setIfInBounds_toArray, List.set_cons_zero, List.set_cons_succ])
  (refine wpQuiet_load_cell (fun w' hw' => (hG.out w' hw').2) (by rfl) _ _ (by rfl) (by rfl) _ Tryz.underlying3 (by rfl) ?_; simp only [Act.put, List.setIfInBounds_toArray, List.set_cons_zero, List.set_cons_succ])
  refine wpQuiet_nil ?_
  refine wpTree_one _ rfl ?_
  have hB1 : Below w1.heap.size w1 w1.drew := (Below.refl _ _).drew
  have hG1 := H0.out.2.2.2.below hB1
  have hs := release_any g.L hG1.ok.set (by have := hG1.ok.len; have := hG1.ok.h1; omega) q.gs r.1 HR.out.1 HR.out.2 w1.drew hG1.st
  go_wp2_with fail
  refine hs.mono ?_
  rintro e w2 ⟨rfl, hst, hu⟩
  have HP := Lib.hid (GPost.setIn H0.out.1 (H0.out.2.1.trans (hB1.mono H0.out.2.1.size)) hst hu (H0.out.1.ok.set.turn r.1 1 2 (by omega)) ((turnL_length _ _ _ _).trans H0.out.1.ok.len))
  have hC2 := hC0.trans (Near.upd hu (List.mem_singleton_self _))
  clear hs hst hu hG1 hG hC0
  go_wp2_with fail
  refine TreeQ.in_ hC2 ?_
  refine wpTree_pure _ _ _ (by rfl) (by rfl) ?_
  dsimp only [List.filterMap, List.getElem?_cons_zero, List.getElem?_cons_succ]
  repeat (go_big_quiet_step (fail))
  refine wpQuiet_nil ?_
  refine wpTree_done ?_
  go_wp2_with fail
  go_ret
  exact ⟨rfl, HP.out⟩
end
end Go.Proofs.YtfoegmjpfkmggaaGreatDoor

/- A slice of elements of two cells is cut; one element is cleared. Plain facts over any program. No condition. -/
namespace Go
open Go.RowKit
theorem run_cut2 {P : Program} (w : World) (t e : TypeId) (ht : P.underlying t = some (.slice e)) (hsz : (P.info? e).map (·.size) = some 2) (A : Option Addr) (n c : Nat) (k : IntKind) (K : Nat) (hK : K ≤ n) (hc : c ≠ K) :
    (Instr.sliceAt t (.slice A n c) (some (.int k (K : Int))) none none).run P w = .ok (.slice (A.map (·.add (K * 2))) (n - K) (c - K)) w := by
  obtain ⟨i, hi, hs⟩ := Option.map_eq_some_iff.1 hsz
  have hsz' : (sizeOf e).run P w = .ok 2 w := by simp [sizeOf, typeInfo, hi, hs]
  have hb : (Instr.sliceBound (.int k (K : Int)) n .sliceB).run P w = .ok K w := by
    have := run_sliceBound (P := P) w k (K : Int) n .sliceB (by omega) (by omega)
    simpa using this
  simp [Instr.sliceAt, Instr.slice, run_underlying ht, Instr.sliceBounds, hb, hsz', hc]
theorem run_cutHi2 {P : Program} (w : World) (t e : TypeId) (ht : P.underlying t = some (.slice e)) (hsz : (P.info? e).map (·.size) = some 2) (g : Nat) (n c : Nat) (k : IntKind) (K : Nat) (hK : K ≤ c) :
    (Instr.sliceAt t (.slice (some ⟨g, 0, none⟩) n c) none (some (.int k (K : Int))) none).run P w = .ok (.slice (some ⟨g, 0, none⟩) K c) w := by
  obtain ⟨i, hi, hs⟩ := Option.map_eq_some_iff.1 hsz
  have hsz' : (sizeOf e).run P w = .ok 2 w := by simp [sizeOf, typeInfo, hi, hs]
  have hb : ∀ code, (Instr.sliceBound (.int k (K : Int)) c code).run P w = .ok K w := by
    intro code
    have := run_sliceBound (P := P) w k (K : Int) c code (by omega) (by omega)
    simpa using this
  have ha : (⟨g, 0, none⟩ : Addr).add 0 = ⟨g, 0, none⟩ := rfl
  simp [Instr.sliceAt, Instr.slice, run_underlying ht, Instr.sliceBounds, hb, hsz', ha]
theorem wpList_clear_one {P : Program} {w : World} {Q : Exit → Act → World → Prop} {ops : Array Oper} {rest : List Oper} {o : Oper} {a : Act} (hgd : o.guard = none) (t e : TypeId) (x : Operand) (ho : o.op = .call { callee := .builtin .clear, args := #[x], argTypes := #[t] })
    (ht : P.underlying t = some (.slice e)) (z : Value) (hz : ∀ w, (zeroValue e).run P w = .ok z w) (vs : List Value) (hvs : (Builtin.zeroCells z.cells 1).toList = vs) (g k c : Nat) (hx : a.eval x = .slice (some ⟨g, k, none⟩) 1 c)
    (t' : TypeId) (cs : Array Value) (hb : Blk w g t' cs) (hk : k + vs.length ≤ cs.size) (h1 : ∀ v ∈ vs, v.oneCell' = true)
    (h : ∀ w', Blk w' g t' (setAll cs k vs) → Upd g w w' → wpList P ops Q rest (a.put o.dst (.tuple #[])) w') : wpList P ops Q (o :: rest) a w := by
  have hst := run_storeCells_cells (P := P) g k vs 0 w (fun j hj => by rw [Nat.add_zero, hb.cell, Array.getElem?_eq_getElem (by omega)]; rfl) (fun j hj => hb.frozen _) h1
  rw [Nat.add_zero] at hst
  have hr : (Builtin.clear_ #[t] o.type #[.slice (some ⟨g, k, none⟩) 1 c]).run P w = .ok (.tuple #[]) (w.setCells g k vs) := by
    simp [Builtin.clear_, run_underlying ht, hz, hvs, hst]
  refine wpList_plain hgd fun _ hK => ?_
  unfold Oper.wp execOp
  simp only [ho, resolve, invoke, builtin, Sem.run_bind, Sem.run_pure, Result.andThen_ok, List.map_toArray, List.map_cons, List.map_nil, hx, hr]
  exact hK _ _ (h _ (Blk.setCells vs k w cs hb) (Upd.setCells vs k w (Upd.refl g w)))
theorem wpList_cut2 {P : Program} {w : World} {Q : Exit → Act → World → Prop} {ops : Array Oper} {rest : List Oper} {o : Oper} {a : Act} (hgd : o.guard = none) (t : TypeId) (x lo : Operand) (ho : o.op = .slice t x (some lo) none none) (e : TypeId)
    (ht : P.underlying t = some (.slice e)) (hsz : (P.info? e).map (·.size) = some 2) (g n c : Nat) (k : IntKind) (K : Nat) (hx : a.eval x = .slice (some ⟨g, 0, none⟩) n c) (hlo : a.eval lo = .int k (K : Int)) (hK : K ≤ n) (hc : c ≠ K)
    (h : wpList P ops Q rest (a.put o.dst (.slice (some ⟨g, K * 2, none⟩) (n - K) (c - K))) w) : wpList P ops Q (o :: rest) a w := by
  have ha : (⟨g, 0, none⟩ : Addr).add (K * 2) = ⟨g, K * 2, none⟩ := by unfold Addr.add; split <;> simp_all
  have hr := run_cut2 (P := P) w t e ht hsz (some ⟨g, 0, none⟩) n c k K hK hc
  rw [Option.map_some, ha] at hr
  exact wpList_run _ hgd (by unfold execOp; simp only [ho, hx, hlo, Option.map_some, Option.map_none, hr, Sem.run_bind, Result.andThen_ok, Sem.run_pure]) h
theorem wpList_cutHi2 {P : Program} {w : World} {Q : Exit → Act → World → Prop} {ops : Array Oper} {rest : List Oper} {o : Oper} {a : Act} (hgd : o.guard = none) (t : TypeId) (x hi : Operand) (ho : o.op = .slice t x none (some hi) none) (e : TypeId)
    (ht : P.underlying t = some (.slice e)) (hsz : (P.info? e).map (·.size) = some 2) (g n c : Nat) (k : IntKind) (K : Nat) (hx : a.eval x = .slice (some ⟨g, 0, none⟩) n c) (hhi : a.eval hi = .int k (K : Int)) (hK : K ≤ c)
    (h : wpList P ops Q rest (a.put o.dst (.slice (some ⟨g, 0, none⟩) K c)) w) : wpList P ops Q (o :: rest) a w :=
  wpList_run _ hgd (by unfold execOp; simp only [ho, hx, hhi, Option.map_some, Option.map_none, run_cutHi2 (P := P) w t e ht hsz g n c k K hK, Sem.run_bind, Result.andThen_ok, Sem.run_pure]) h
end Go

/- A ref is dropped from a list: slices.DeleteFunc with the grid's closure. Conditions: the list can be read. -/
namespace Go.Proofs.YtfoegmjpfkmggaaGreatDoor
open Go.RowKit
set_option maxRecDepth 100000 in
theorem isref_any (x r : RefT) (gb : Nat) (w : World) (h : Blk w gb 113 #[.int .i64 r.1, .int .i64 r.2.1]) :
    Calls Tryz.prog 105 #[.agg #[.int .i64 x.1, .int .i64 x.2.1], .pointer (some ⟨gb, 0, none⟩)] w fun e w' => e = .returned (.bool (decide (x = r))) ∧ Below w.heap.size w w' := by
  have hB := (Below.refl w.heap.size w).alloc (Nat.le_refl _) (.cells #[.int .i64 x.1, .int .i64 x.2.1] 113)
  have hbx := Blk.new w 113 #[.int .i64 x.1, .int .i64 x.2.1]
  have hbr := h.below hB h.lt
  have HB := Lib.hid hB
  clear h hB
  obtain ⟨x1, x2, u⟩ := x
  obtain ⟨r1, r2, u'⟩ := r
  have he : ((x1 == r1) && (x2 == r2)) = decide ((x1, x2, u) = (r1, r2, u')) := by
    rw [Bool.eq_iff_iff]; simp
  have HE := Lib.hid he
  clear he
  go_enter Tryz.func105, Tryz.ntmps105
  go_wp2_with (first
    | ((with_reducible show wpList _ _ _ ((⟨some 4, _, _, _, _, _⟩ : Oper) :: _) _ _); refine wpList_load_blk (o := ⟨some 4, _, _, _, _, _⟩) (hbx) (by rfl) _ _ (by rfl) (by rfl) _ Tryz.underlying113 (by rfl) (size_ref) (by rfl) ?_)
    | ((with_reducible show wpList _ _ _ ((⟨some 5, _, _, _, _, _⟩ : Oper) :: _) _ _); refine wpList_load_blk (o := ⟨some 5, _, _, _, _, _⟩) (hbr) (by rfl) _ _ (by rfl) (by rfl) _ Tryz.underlying113 (by rfl) (size_ref) (by rfl) ?_)
    | ((with_reducible show wpList _ _ _ ((⟨some 6, _, _, _, _, _⟩ : Oper) :: _) _ _); refine wpList_run (o := ⟨some 6, _, _, _, _, _⟩) _ (by rfl) (exec_eql_ref _ _ _ _ (by rfl) x1 x2 r1 r2 (by rfl) (by rfl)) ?_; rw [HE.out])
    | fail)
  go_ret
  exact ⟨rfl, HB.out⟩
def IdxRel (w : World) (l : List RefT) (r : RefT) (v : Value) (wr : World) : Prop := ∃ j : Nat, j ≤ l.length ∧ v = .int .i64 (j : Int) ∧ r ∉ l.take j ∧ Below w.heap.size w wr
theorem notMem_take {l : List RefT} {r : RefT} {j : Nat} (h : r ∉ l.take j) (hj : j < l.length) (hne : l[j] ≠ r) : r ∉ l.take (j + 1) := by
  rw [List.take_succ_eq_append_getElem hj, List.mem_append]
  rintro (h1 | h1)
  · exact h h1
  · exact hne (List.mem_singleton.1 h1).symm
theorem idxOf_at {l : List RefT} {r : RefT} {j : Nat} (h : r ∉ l.take j) (hj : j < l.length) (he : l[j] = r) : r ∈ l ∧ l.idxOf r = j := by
  refine ⟨he ▸ List.getElem_mem hj, ?_⟩
  have hs : l = l.take j ++ l[j] :: l.drop (j + 1) := by rw [← List.drop_eq_getElem_cons hj, List.take_append_drop]
  rw [hs, List.idxOf_append, if_neg h, he, List.idxOf_cons_self, List.length_take]
  omega
def idxR (l : List RefT) (r : RefT) : Int := if r ∈ l then (l.idxOf r : Int) else -1
def isRef (gb : Nat) : Value := .func (.func 105) #[] #[.pointer (some ⟨gb, 0, none⟩)]
set_option maxRecDepth 100000 in
set_option maxHeartbeats 2000000 in
theorem indexRef_any (A : Option Addr) (n c : Nat) (l : List RefT) (r : RefT) (gb : Nat) (w : World) (hn : n = l.length) (hl : l.length ≤ 1099511627776) (hr : Refs w A l) (h : Blk w gb 113 #[.int .i64 r.1, .int .i64 r.2.1]) :
    Calls Tryz.prog 144 #[.slice A n c, isRef gb] w fun e w' => e = .returned (.int .i64 (idxR l r)) ∧ Below w.heap.size w w' := by
  unfold isRef
  have H0 := Lib.hid (And.intro hn (And.intro hl (And.intro hr h)))
  have hn5 : n ≤ 1099511627776 := by omega
  clear hn hl hr h
  go_enter Tryz.func144, Tryz.ntmps144
  go_wp2
  go_loopw [8] (fun v wr => IdxRel w l r v wr) (fun v _ => n - (intOf v).toNat)
  case atStart => exact ⟨0, by omega, rfl, by simp, Below.refl _ _⟩
  case round =>
    obtain ⟨j, hj, rfl, hnm, hB⟩ := hrel
    rw [← H0.out.1] at hj
    have HK := Lib.hid (And.intro hnm hB)
    clear hnm
    by_cases hlt : j < n
    · have hr1 := H0.out.2.2.1.below hB
      obtain ⟨b1, o1, rfl, _, hc1⟩ := hr1 (by rw [← H0.out.1]; omega)
      have hil : j < l.length := by rw [← H0.out.1]; exact hlt
      obtain ⟨d1, d2⟩ := hc1 j hil
      obtain ⟨x, hx⟩ : ∃ x : RefT, x = l[j] := ⟨_, rfl⟩
      rw [← hx] at d1 d2
      have HX := Lib.hid hx
      have hir := isref_any x r gb wr (H0.out.2.2.2.below hB H0.out.2.2.2.lt)
      clear hx hc1 hr1 hB
      go_wp2_with fail
      refine hir.mono ?_
      rintro e w2 ⟨rfl, hbx⟩
      have HB2 := Lib.hid (HK.out.2.trans (hbx.mono HK.out.2.size))
      clear hir hbx d1 d2
      by_cases hxr : x = r
      · have kt := decide_eq_true hxr
        have hid := idxOf_at HK.out.1 hil (HX.out.symm.trans hxr)
        have HI := Lib.hid hid
        clear hxr hid
        go_wp2
        go_ret
        exact ⟨by unfold idxR; rw [if_pos HI.out.1, HI.out.2]; rfl, HB2.out⟩
      · have kt := decide_eq_false hxr
        have HI := Lib.hid (notMem_take HK.out.1 hil (HX.out ▸ hxr))
        clear hxr
        go_wp2
        go_roundw
        case rel => exact ⟨j + 1, by have := H0.out.1; omega, by go_num, HI.out, HB2.out⟩
        case measure => simp [intOf]; omega
    · obtain rfl : j = n := by omega
      have hnr : Hid (r ∉ l) := Lib.hid (by
        have := HK.out.1
        rwa [H0.out.1, List.take_length] at this)
      clear hB
      go_wp2
      go_ret
      exact ⟨by unfold idxR; rw [if_neg hnr.out]; rfl, HK.out.2⟩
/-- The list while it is moved: i0 stood first, k were moved. -/
def mvd (W : List RefT) (i k : Nat) : List RefT := W.take i ++ ((W.drop (i + 1)).take k ++ W.drop (i + k))
theorem mvd_zero (W : List RefT) (i : Nat) : mvd W i 0 = W := by unfold mvd; simp
theorem mvd_get (W : List RefT) {i k : Nat} (h : i + k < W.length) (m : Nat) : (mvd W i k)[m]? = if m < i then W[m]? else if m < i + k then W[m + 1]? else W[m]? := by
  have e1 : (W.take i).length = i := by rw [List.length_take]; omega
  have e2 : ((W.drop (i + 1)).take k).length = k := by rw [List.length_take, List.length_drop]; omega
  unfold mvd
  rw [List.getElem?_append, List.getElem?_append, e1, e2]
  by_cases h1 : m < i
  · rw [if_pos h1, if_pos h1, List.getElem?_take, if_pos h1]
  · rw [if_neg h1, if_neg h1]
    by_cases h2 : m < i + k
    · rw [if_pos (by omega), if_pos h2, List.getElem?_take, if_pos (by omega), List.getElem?_drop]
      congr 1; omega
    · rw [if_neg (by omega), if_neg h2, List.getElem?_drop]
      congr 1; omega
theorem mvd_length (W : List RefT) {i k : Nat} (h : i + k < W.length) : (mvd W i k).length = W.length := by
  unfold mvd
  simp only [List.length_append, List.length_take, List.length_drop]; omega
theorem mvd_at (W : List RefT) {i k j : Nat} (h : i + k < W.length) (hj : i + k ≤ j) : (mvd W i k)[j]? = W[j]? := by
  rw [mvd_get W h, if_neg (by omega), if_neg (by omega)]
theorem mvd_step (W : List RefT) {i k : Nat} (h : i + k + 1 < W.length) (x : RefT) (hx : W[i + k + 1]? = some x) : (mvd W i k).set (i + k) x = mvd W i (k + 1) := by
  apply List.ext_getElem?
  intro m
  have hl := mvd_length W (i := i) (k := k) (by omega)
  rw [mvd_get W (by omega)]
  by_cases hm : m = i + k
  · subst hm
    rw [List.getElem?_set_self (by omega), if_neg (by omega), if_pos (by omega), hx]
  · rw [List.getElem?_set_ne (by omega), mvd_get W (by omega)]
    by_cases h1 : m < i
    · rw [if_pos h1, if_pos h1]
    · rw [if_neg h1, if_neg h1]
      by_cases h2 : m < i + k
      · rw [if_pos h2, if_pos (by omega)]
      · rw [if_neg h2, if_neg (by omega)]
theorem mvd_end (W : List RefT) {i : Nat} (h : i < W.length) : ∃ x, mvd W i (W.length - i - 1) = (W.take i ++ W.drop (i + 1)) ++ [x] := by
  refine ⟨W[W.length - 1], ?_⟩
  have e : i + (W.length - i - 1) = W.length - 1 := by omega
  have e2 : W.drop (W.length - 1) = [W[W.length - 1]] := by
    rw [List.drop_eq_getElem_cons (by omega), List.drop_of_length_le (by omega)]
  have e3 : (W.drop (i + 1)).take (W.length - i - 1) = W.drop (i + 1) := List.take_of_length_le (by rw [List.length_drop]; omega)
  unfold mvd
  rw [e3, e, e2, List.append_assoc]
theorem erase_at {W : List RefT} {r : RefT} (_h : r ∈ W) : W.erase r = W.take (W.idxOf r) ++ W.drop (W.idxOf r + 1) := by
  rw [List.erase_eq_eraseIdx_of_idxOf (i := W.idxOf r) rfl, List.eraseIdx_eq_take_drop_succ]
theorem refCells_app (a b : List RefT) : refCells (a ++ b) = refCells a ++ refCells b := by unfold refCells; simp
end Go.Proofs.YtfoegmjpfkmggaaGreatDoor

/- A ref is dropped from an own list: slices.DeleteFunc with the grid's closure. Conditions: the list is an own row, each ref once. -/
namespace Go.Proofs.YtfoegmjpfkmggaaGreatDoor
open Go.RowKit
theorem refCells_set (x : RefT) : ∀ (X : List RefT) (sp : List Value) (m : Nat), m < X.length → ((refCells X ++ sp).set (m * 2) (.int .i64 x.1)).set (m * 2 + 1) (.int .i64 x.2.1) = refCells (X.set m x) ++ sp
  | [], _, _, h => absurd h (by simp)
  | y :: X, sp, 0, _ => by simp [refCells]
  | y :: X, sp, m + 1, h => by
    have ih := refCells_set x X sp m (by simpa using h)
    have e : ∀ z : RefT, ∀ Z : List RefT, refCells (z :: Z) = .int .i64 z.1 :: .int .i64 z.2.1 :: refCells Z := fun z Z => by simp [refCells]
    rw [List.set_cons_succ, e, e]
    rw [show (m + 1) * 2 + 1 = (m * 2 + 1) + 1 + 1 by omega, show (m + 1) * 2 = m * 2 + 1 + 1 by omega]
    simp only [List.cons_append, List.set_cons_succ]
    rw [ih]
theorem refCells_setAll (x : RefT) (X : List RefT) (sp : List Value) (m : Nat) (h : m < X.length) : setAll (refCells X ++ sp).toArray (m * 2) [.int .i64 x.1, .int .i64 x.2.1] = (refCells (X.set m x) ++ sp).toArray := by
  rw [← refCells_set x X sp m h]
  simp [setAll]
def DropPost (W : List RefT) (r : RefT) (v : Value) (w : World) (e : Ending) (w' : World) : Prop :=
  ∃ v' sp', e = .returned v' ∧ OwnsC 113 2 w' 0 v' (W.erase r).length (refCells (W.erase r)) sp' ∧ v'.ownBlock = v.ownBlock ∧ Near v.ownBlock.toList w w'
/-- Ahead of each round: how many were moved. -/
def DelRel (w : World) (W : List RefT) (i g : Nat) (sp : List Value) (v5 v6 : Value) (wr : World) : Prop :=
  ∃ k : Nat, i + k < W.length ∧ v5 = .int .i64 ((i + k : Nat) : Int) ∧ v6 = .int .i64 ((i + k + 1 : Nat) : Int) ∧ Blk wr g 113 (refCells (mvd W i k) ++ sp).toArray ∧ Near [g] w wr
set_option maxRecDepth 100000 in
set_option maxHeartbeats 4000000 in
theorem dropRef_any (v : Value) (W : List RefT) (sp : List Value) (r : RefT) (gb : Nat) (w : World) (hl : W.length ≤ 1099511627776) (hnd : W.Nodup) (ho : OwnsC 113 2 w 0 v W.length (refCells W) sp) (h : Blk w gb 113 #[.int .i64 r.1, .int .i64 r.2.1]) (hne : v.ownBlock ≠ some gb) :
    Calls Tryz.prog 104 #[v, isRef gb] w (DropPost W r v w) := by
  obtain ⟨B, c, rfl, hlc, hcm, hrd, -⟩ := OwnsC.reads ho
  have hix := indexRef_any B W.length c W r gb w rfl hl (Refs.of hrd) h
  by_cases hm : r ∈ W
  case neg =>
    have hi : idxR W r = -1 := if_neg hm
    rw [hi] at hix
    have HO := Lib.hid ho
    have HE := Lib.hid (List.erase_of_not_mem hm)
    clear hi hm ho hrd h hlc hcm hne
    go_enter Tryz.func104, Tryz.ntmps104
    go_wp2_with fail
    refine hix.mono ?_
    rintro e w1 ⟨rfl, hb⟩
    have HB := Lib.hid hb
    clear hix hb
    go_wp2
    go_ret
    refine ⟨_, sp, rfl, ?_, rfl, Near.below HB.out⟩
    rw [HE.out]
    exact HO.out.ownBelow HB.out
  rcases ho with ⟨h1, h2, -⟩ | ⟨g, cap, hv, -, hg, hgc, hgm, -, hsp⟩
  · rw [List.eq_nil_of_length_eq_zero h2] at hm; exact absurd hm (by simp)
  injection hv with hB hn hc
  subst hB hc
  have hi : idxR W r = (W.idxOf r : Nat) := if_pos hm
  rw [hi] at hix
  have hlt : W.idxOf r < W.length := List.idxOf_lt_length_of_mem hm
  have hat : W[W.idxOf r]? = some r := by rw [List.getElem?_eq_getElem hlt, List.getElem_idxOf]
  have HE := Lib.hid (erase_at hm)
  have HW := Lib.hid (And.intro hl (And.intro hnd (And.intro hgc (And.intro hgm (And.intro hsp (And.intro hlt hat))))))
  have H0 := Lib.hid (And.intro hg (And.intro h (show gb ≠ g from fun e => hne (by rw [e]; rfl))))
  clear hi hm hrd h hne hlc hcm hnd hgc hgm hsp hg hat
  unfold isRef at hix ⊢
  generalize W.idxOf r = i at hix HE HW hlt ⊢
  have kn : ((i : Int) == -1) = false := beq_eq_false_iff_ne.2 (by omega)
  go_enter Tryz.func104, Tryz.ntmps104
  go_wp2_with fail
  refine hix.mono ?_
  rintro e w1 ⟨rfl, hb⟩
  have H1 := Lib.hid (And.intro (H0.out.1.below hb H0.out.1.lt) (And.intro (H0.out.2.1.below hb H0.out.2.1.lt) (Near.below (X := [g]) hb)))
  clear hix hb
  go_wp2_with fail
  go_loopw [5, 6] (fun v5 v6 wr => DelRel w W i g sp v5 v6 wr) (fun _ v _ => W.length - (intOf v).toNat)
  case atStart => exact ⟨0, hlt, by go_num, by go_num, by rw [mvd_zero]; exact H1.out.1, H1.out.2.2⟩
  case round =>
    obtain ⟨k, hk, rfl, rfl, hbg, hN⟩ := hrel
    have HK := Lib.hid (And.intro hbg hN)
    clear hbg hN kn
    by_cases hlt2 : i + k + 1 < W.length
    · obtain ⟨x, hx⟩ : ∃ x, W[i + k + 1]? = some x := ⟨_, List.getElem?_eq_getElem hlt2⟩
      have hml := mvd_length W (i := i) (k := k) hk
      have hxm : (mvd W i k)[i + k + 1]? = some x := (mvd_at W hk (by omega)).trans hx
      have hxl : i + k + 1 < (mvd W i k).length := by omega
      have hx' : (mvd W i k)[i + k + 1] = x := by rw [List.getElem?_eq_getElem hxl] at hxm; exact Option.some.inj hxm
      have hc := refCells_at (mvd W i k) (i + k + 1) hxl
      rw [hx'] at hc
      have hc1 : ∀ (u : Nat) (z : Value), (refCells (mvd W i k))[u]? = some z → wr.cell? ⟨g, u, none⟩ = some z := fun u z hz => HK.out.1.at_ u (by rw [List.getElem?_toArray, List.getElem?_append_left (by rcases Nat.lt_or_ge u (refCells (mvd W i k)).length with h | h; exact h; rw [List.getElem?_eq_none h] at hz; cases hz), hz])
      have d1 := hc1 _ _ hc.1
      have d2 := hc1 _ _ hc.2
      have hxr : x ≠ r := fun e => by
        have := (List.getElem?_inj (i := i) (j := i + k + 1) hlt HW.out.2.1).1 (HW.out.2.2.2.2.2.2.trans (e ▸ hx.symm))
        omega
      have kt := decide_eq_false hxr
      have HX := Lib.hid (And.intro hx (And.intro hxr hml))
      clear hx hxm hxl hx' hc hc1 hxr hml
      have hb2 := (Below.refl wr.heap.size wr).alloc (Nat.le_refl _) (.cells #[.int .i64 x.1, .int .i64 x.2.1] 113)
      have hbx2 := Blk.new wr 113 #[.int .i64 x.1, .int .i64 x.2.1]
      have hgb := H0.out.2.1.near HK.out.2 (fun hm => H0.out.2.2 (List.mem_singleton.1 hm))
      have hir := isref_any x r gb _ (hgb.below hb2 hgb.lt)
      have H2 := Lib.hid (And.intro hb2 hbx2)
      clear hb2 hbx2 hgb
      go_wp2_with fail
      refine hir.mono ?_
      rintro e w3 ⟨rfl, hbx⟩
      have hbx3 := H2.out.2.below hbx H2.out.2.lt
      have hb3 := H2.out.1.trans (hbx.mono H2.out.1.size)
      have hg3 := HK.out.1.below hb3 HK.out.1.lt
      have H3 := Lib.hid hb3
      have hsz : (i + k) * 2 + 2 ≤ (refCells (mvd W i k) ++ sp).toArray.size := by
        have := refCells_length (mvd W i k)
        have := HX.out.2.2
        simp only [List.size_toArray, List.length_append]; omega
      clear hir hbx hb3 d1 d2
      go_wp2_with (first
        | ((with_reducible show wpList _ _ _ ((⟨some 32, _, _, _, _, _⟩ : Oper) :: _) _ _); refine wpList_load_blk (o := ⟨some 32, _, _, _, _, _⟩) (hbx3) (by rfl) _ _ (by rfl) (by rfl) _ Tryz.underlying113 (by rfl) (size_ref) (by rfl) ?_)
        | ((with_reducible show wpList _ _ _ ((⟨none, _, _, _, _, _⟩ : Oper) :: _) _ _); refine wpList_store_in (o := ⟨none, _, _, _, _, _⟩) hg3 (by rfl) _ _ _ (by rfl) ((i + k) * 2) (by rfl) #[.int .i64 x.1, .int .i64 x.2.1] (by rfl) size_ref (by rfl) hsz (by simp [Value.oneCell']) ?_; intro w4 hg4 hu4; rw [refCells_setAll x (mvd W i k) sp (i + k) (by have := HX.out.2.2; omega), mvd_step W hlt2 x HX.out.1] at hg4; have H4 := Lib.hid (And.intro hg4 ((HK.out.2.trans (Near.below H3.out)).trans (Near.upd hu4 (List.mem_singleton_self _)))); clear hg4 hu4 hsz)
        | fail)
      go_roundw
      case rel => exact ⟨k + 1, by omega, by go_num, by go_num, H4.out⟩
      case measure => simp [intOf]; omega
    · obtain rfl : k = W.length - i - 1 := by omega
      obtain ⟨y, hy⟩ := mvd_end W hlt
      rw [← HE.out] at hy
      have hlen : i + (W.length - i - 1) = W.length - 1 := by omega
      have hel : (W.erase r).length = W.length - 1 := by
        rw [HE.out, List.length_append, List.length_take, List.length_drop]; omega
      have hbg := HK.out.1
      rw [hy] at hbg
      have hsz : (W.length - 1) * 2 + 2 ≤ (refCells (W.erase r ++ [y]) ++ sp).toArray.size := by
        have := refCells_length (W.erase r ++ [y])
        simp only [List.size_toArray, List.length_append, List.length_singleton] at this ⊢; omega
      have hset : setAll (refCells (W.erase r ++ [y]) ++ sp).toArray ((W.length - 1) * 2) [.int .i64 0, .int .i64 0] = (refCells (W.erase r) ++ (refCells [(0, 0, ())] ++ sp)).toArray := by
        have h := refCells_setAll (0, 0, ()) (W.erase r ++ [y]) sp (W.length - 1) (by rw [List.length_append, hel, List.length_singleton]; omega)
        rw [show (W.erase r ++ [y]).set (W.length - 1) (0, 0, ()) = W.erase r ++ [(0, 0, ())] by rw [List.set_append_right _ _ (by omega), hel]; simp, refCells_app (W.erase r) [(0, 0, ())], List.append_assoc] at h
        exact h
      have HS := Lib.hid (And.intro hel (And.intro hset (And.intro HK.out.2 hlt)))
      have hgc := HW.out.2.2.1
      have kn2 : decide (((i + (W.length - i - 1) + 1 : Nat) : Int) < (W.length : Int)) = false := decide_eq_false (by omega)
      have hzr := zeroRefrun
      have hzc : (Builtin.zeroCells (Value.agg #[.int .i64 0, .int .i64 0]).cells 1).toList = [.int .i64 0, .int .i64 0] := by kernel_rfl
      have hsb : (Tryz.prog.info? 113).map (·.size) = some 2 := size_ref
      clear hy hel hset
      rw [hlen] at kn2 ⊢
      have hW1 : W.length - (W.length - 1) = 1 := by omega
      go_wp2_with (first
        | ((with_reducible show wpList _ _ _ ((⟨some 38, _, _, _, _, _⟩ : Oper) :: _) _ _); refine wpList_cut2 (o := ⟨some 38, _, _, _, _, _⟩) (by rfl) _ _ _ (by rfl) 113 Tryz.underlying114 hsb g W.length c .i64 (W.length - 1) (by rfl) (by rfl) (by omega) (by omega) ?_; rw [hW1])
        | ((with_reducible show wpList _ _ _ ((⟨none, _, _, _, _, _⟩ : Oper) :: _) _ _); refine wpList_clear_one (o := ⟨none, _, _, _, _, _⟩) (by rfl) 114 113 _ (by rfl) Tryz.underlying114 (.agg #[.int .i64 0, .int .i64 0]) hzr [.int .i64 0, .int .i64 0] hzc g ((W.length - 1) * 2) _ (by rfl) _ _ hbg hsz (by simp [Value.oneCell']) ?_; intro w4 hg4 hu4; rw [HS.out.2.1] at hg4; have H4 := Lib.hid (And.intro hg4 (HS.out.2.2.1.trans (Near.upd hu4 (List.mem_singleton_self _)))); clear hg4 hu4)
        | ((with_reducible show wpList _ _ _ ((⟨some 41, _, _, _, _, _⟩ : Oper) :: _) _ _); refine wpList_cutHi2 (o := ⟨some 41, _, _, _, _, _⟩) (by rfl) _ _ _ (by rfl) 113 Tryz.underlying114 hsb g W.length c .i64 (W.length - 1) (by rfl) (by rfl) (by omega) ?_)
        | fail)
      go_ret
      refine ⟨_, refCells [(0, 0, ())] ++ sp, rfl, .inr ⟨g, c, ?_, Nat.zero_le _, H4.out.1, ?_, HW.out.2.2.2.1, refCells_length _, ?_⟩, rfl, H4.out.2⟩
      · rw [HS.out.1]; rfl
      · rw [HS.out.1]; omega
      · rw [HS.out.1, List.length_append, refCells_length, HW.out.2.2.2.2.1, List.length_singleton]; omega
end Go.Proofs.YtfoegmjpfkmggaaGreatDoor

/- A block is put where it stood: the grid's Install. Conditions: the grid is known; the bytes can be read, and lie in none of the disk's blocks. -/
namespace Go.Proofs.YtfoegmjpfkmggaaGreatDoor
open Go.RowKit
/-- What it answers: the error's number, the grid, the disk, its fuse. -/
def ginst (g : Grd) (d : Dsk) (f : Option Fus) (r : RefT) (raw : List UInt8) : Int × Grd × Dsk × Option Fus :=
  if d.isOut f = true then (11, g, d, f)
  else if g.of r = false then (2, g, d, f)
  else if (GB.read raw).1 ≠ 0 then ((GB.read raw).1, g, d, f)
  else if (GB.read raw).2.2.1 ≠ r then (2, g, d, f)
  else if (d.write f (gplace r.1) raw).1 ≠ 0 then ((d.write f (gplace r.1) raw).1, g, (d.write f (gplace r.1) raw).2)
  else (0, { g with W := g.W.erase r }, (d.write f (gplace r.1) raw).2)
theorem GB.read_len {raw : List UInt8} (h : (GB.read raw).1 = 0) : raw.length = 1024 := by
  unfold GB.read at h
  split at h
  · exact absurd h (by simp)
  · rename_i h1; omega
section
variable {w : World} {q : GPl} {g : Grd} {d : Dsk} {f : Option Fus}
set_option maxRecDepth 100000 in
set_option maxHeartbeats 8000000 in
theorem ginstall_any (h : GridR w q g d f) (hlen : g.W.length ≤ 1099511627776) (r : RefT) (A : Option Addr) (n c : Nat) (raw : List UInt8) (hn : n = raw.length) (hc : n ≤ c) (hc2 : c ≤ 9223372036854775807) (hb : Bytes w A raw) (hA : ∀ ad, A = some ad → ad.block ∉ q.p.all q.gf) :
    Calls Tryz.prog 56 #[.pointer (some ⟨q.gg, 0, none⟩), .agg #[.int .i64 r.1, .int .i64 r.2.1], .slice A n c] w fun e w' => e = .returned (.int .i64 (ginst g d f r raw).1) ∧
      GPost w q (ginst g d f r raw).2.1 (ginst g d f r raw).2.2.1 (ginst g d f r raw).2.2.2 w' := by
  have hB := (Below.refl w.heap.size w).alloc (Nat.le_refl _) (.cells #[.int .i64 r.1, .int .i64 r.2.1] 113)
  have hbr := Blk.new w 113 #[.int .i64 r.1, .int .i64 r.2.1]
  have HW := Lib.hid (And.intro h (And.intro hb (And.intro hA (And.intro hlen (And.intro hn (And.intro hc hc2))))))
  have H1 := Lib.hid (And.intro hB hbr)
  clear h hb hA hlen hn hc hc2 hB hbr
  go_enter Tryz.func56, Tryz.ntmps56
  go_wp2_with fail
  generalize w.alloc (.cells #[.int .i64 r.1, .int .i64 r.2.1] 113) = w1 at H1 ⊢
  refine (gready_any (HW.out.1.below H1.out.1)).mono ?_
  rintro e w1' ⟨rfl, hw⟩
  obtain rfl := hw.symm
  clear hw
  by_cases hq : d.isOut f = true
  · have HL : Hid (ginst g d f r raw = (11, g, d, f)) := Lib.hid (if_pos hq)
    rw [if_pos hq]
    clear hq
    go_wp2
    go_ret
    rw [HL.out]
    exact ⟨rfl, GPost.same HW.out.1 H1.out.1⟩
  rw [if_neg hq]
  have HQ := Lib.hid (show d.isOut f = false by simpa using hq)
  have hbr := H1.out.2
  clear hq
  go_wp2_with (first
    | ((with_reducible show wpList _ _ _ ((⟨some 17, _, _, _, _, _⟩ : Oper) :: _) _ _); refine wpList_load_blk (o := ⟨some 17, _, _, _, _, _⟩) (hbr) (by rfl) _ _ (by rfl) (by rfl) _ Tryz.underlying113 (by rfl) (size_ref) (by rfl) ?_)
    | fail)
  refine (gof_any (HW.out.1.below H1.out.1) r).mono ?_
  rintro e w2 ⟨rfl, hbx⟩
  have H2 := Lib.hid (And.intro (H1.out.1.trans (hbx.mono H1.out.1.size)) (H1.out.2.below hbx H1.out.2.lt))
  clear hbx hbr H1
  by_cases ho : g.of r = true
  case neg =>
    have ho' : g.of r = false := by simpa using ho
    have HL : Hid (ginst g d f r raw = (2, g, d, f)) := Lib.hid (by unfold ginst; rw [if_neg (by rw [HQ.out]; simp), if_pos ho'])
    rw [ho']
    clear ho ho'
    go_wp2
    go_ret
    rw [HL.out]
    exact ⟨rfl, GPost.same HW.out.1 H2.out.1⟩
  rw [ho]
  have HO := Lib.hid ho
  clear ho
  go_wp2_with fail
  refine (gbRead_any A n c raw HW.out.2.2.2.2.1 HW.out.2.2.2.2.2.1 HW.out.2.2.2.2.2.2 w2 (Bytes.below HW.out.2.1 H2.out.1)).mono ?_
  rintro e w3 ⟨A2, c2, B2, d2, rfl, -, -, -, -, -, hbx, -, -⟩
  have H3 := Lib.hid (And.intro (H2.out.1.trans (hbx.mono H2.out.1.size)) (H2.out.2.below hbx H2.out.2.lt))
  clear hbx H2
  by_cases hc0 : (GB.read raw).1 = 0
  case neg =>
    have HL : Hid (ginst g d f r raw = ((GB.read raw).1, g, d, f)) := Lib.hid (by unfold ginst; rw [if_neg (by rw [HQ.out]; simp), if_neg (by rw [HO.out]; simp), if_pos hc0])
    generalize (GB.read raw).1 = code at hc0 HL ⊢
    have kn := decide_eq_false hc0
    generalize (GB.read raw).2 = b
    go_wp2_with (first
      | ((with_reducible show wpList _ _ _ ((⟨none, _, _, _, _, _⟩ : Oper) :: _) _ _); refine wpList_store_blk (o := ⟨none, _, _, _, _, _⟩) ((Blk.new w3 116 #[.int .i64 0, .int .i64 0, .int .i64 0, .slice none 0 0, .slice none 0 0])) (by rfl) _ _ _ (by rfl) (by rfl) (gbc b A2 c2 B2 d2) (by rfl) (sizeGB) (by rfl) (by rfl) (gbc_one _ _ _ _ _) ?_; intro w4 h4 hu4; have hbx := ((Below.refl w3.heap.size w3).alloc (Nat.le_refl _) (.cells #[.int .i64 0, .int .i64 0, .int .i64 0, .slice none 0 0, .slice none 0 0] 116)).upd hu4 (Nat.le_refl _); have H4 := Lib.hid (H3.out.1.trans (hbx.mono H3.out.1.size)); clear hu4 hbx h4)
      | fail)
    go_ret
    rw [HL.out]
    exact ⟨rfl, GPost.same HW.out.1 H4.out⟩
  have HR := Lib.hid hc0
  have HLEN := Lib.hid (GB.read_len hc0)
  rw [hc0]
  obtain ⟨b, hbq⟩ : ∃ b, b = (GB.read raw).2 := ⟨_, rfl⟩
  rw [← hbq]
  have HBQ := Lib.hid hbq
  have hz := zeroGBrun
  obtain ⟨b0, ⟨b1, b2, bu⟩, b3, b4, bv⟩ := b
  clear hc0 hbq
  by_cases hbe : (b1, b2, bu) = r
  case neg =>
    have HL : Hid (ginst g d f r raw = (2, g, d, f)) := Lib.hid (by unfold ginst; rw [if_neg (by rw [HQ.out]; simp), if_neg (by rw [HO.out]; simp), if_neg (by rw [HR.out]; simp), if_pos (by rw [← HBQ.out]; exact hbe)])
    have HN : Hid ((!((b1 == r.1) && (b2 == r.2.1))) = true) := Lib.hid (by
      rw [Bool.not_eq_true', Bool.and_eq_false_iff]
      rcases Classical.em (b1 = r.1) with e1 | e1
      · rcases Classical.em (b2 = r.2.1) with e2 | e2
        · exact absurd (by rw [e1, e2]) hbe
        · exact .inr (beq_eq_false_iff_ne.2 e2)
      · exact .inl (beq_eq_false_iff_ne.2 e1))
    clear hbe
    go_wp2_with (first
      | ((with_reducible show wpList _ _ _ ((⟨none, _, _, _, _, _⟩ : Oper) :: _) _ _); refine wpList_store_blk (o := ⟨none, _, _, _, _, _⟩) ((Blk.new w3 116 #[.int .i64 0, .int .i64 0, .int .i64 0, .slice none 0 0, .slice none 0 0])) (by rfl) _ _ _ (by rfl) (by rfl) (#[.int .i64 b0, .int .i64 b1, .int .i64 b2, .slice A2 b3.length c2, .slice B2 b4.length d2]) (by rfl) (sizeGB) (by rfl) (by rfl) (by simp [Value.oneCell']) ?_; intro w4 h4 hu4; have hbx := ((Below.refl w3.heap.size w3).alloc (Nat.le_refl _) (.cells #[.int .i64 0, .int .i64 0, .int .i64 0, .slice none 0 0, .slice none 0 0] 116)).upd hu4 (Nat.le_refl _); have hbr4 := H3.out.2.below hbx H3.out.2.lt; have H4 := Lib.hid (And.intro (H3.out.1.trans (hbx.mono H3.out.1.size)) hbr4); clear hu4 hbx)
      | ((with_reducible show wpList _ _ _ ((⟨some 29, _, _, _, _, _⟩ : Oper) :: _) _ _); refine wpList_load_mid (o := ⟨some 29, _, _, _, _, _⟩) (range2 (b := w3.heap.size) (off := 1) (u := .int .i64 b1) (v := .int .i64 b2) (h4.at_ 1 (v := .int .i64 b1) rfl) (h4.at_ 2 (v := .int .i64 b2) rfl)) (by rfl) _ _ (by rfl) (by rfl) _ Tryz.underlying113 (by rfl) size_ref (by rfl) ?_)
      | ((with_reducible show wpList _ _ _ ((⟨some 30, _, _, _, _, _⟩ : Oper) :: _) _ _); refine wpList_load_blk (o := ⟨some 30, _, _, _, _, _⟩) (hbr4) (by rfl) _ _ (by rfl) (by rfl) _ Tryz.underlying113 (by rfl) (size_ref) (by rfl) ?_)
      | ((with_reducible show wpList _ _ _ ((⟨some 31, _, _, _, _, _⟩ : Oper) :: _) _ _); refine wpList_run (o := ⟨some 31, _, _, _, _, _⟩) _ (by rfl) (exec_neq_ref _ _ _ _ (by rfl) b1 b2 r.1 r.2.1 (by rfl) (by rfl)) ?_; rw [HN.out]; clear hbr4 h4)
      | fail)
    go_ret
    rw [HL.out]
    exact ⟨rfl, GPost.same HW.out.1 H4.out.1⟩
  have HN : Hid ((!((b1 == r.1) && (b2 == r.2.1))) = false) := Lib.hid (by rw [← hbe]; simp)
  have HBE : Hid ((GB.read raw).2.2.1 = r) := Lib.hid (by rw [← HBQ.out]; exact hbe)
  have hr1 := Grd.of_spec HO.out
  clear hbe
  go_wp2_with (first
    | ((with_reducible show wpList _ _ _ ((⟨none, _, _, _, _, _⟩ : Oper) :: _) _ _); refine wpList_store_blk (o := ⟨none, _, _, _, _, _⟩) ((Blk.new w3 116 #[.int .i64 0, .int .i64 0, .int .i64 0, .slice none 0 0, .slice none 0 0])) (by rfl) _ _ _ (by rfl) (by rfl) (#[.int .i64 b0, .int .i64 b1, .int .i64 b2, .slice A2 b3.length c2, .slice B2 b4.length d2]) (by rfl) (sizeGB) (by rfl) (by rfl) (by simp [Value.oneCell']) ?_; intro w4 h4 hu4; have hbx := ((Below.refl w3.heap.size w3).alloc (Nat.le_refl _) (.cells #[.int .i64 0, .int .i64 0, .int .i64 0, .slice none 0 0, .slice none 0 0] 116)).upd hu4 (Nat.le_refl _); have hbr4 := H3.out.2.below hbx H3.out.2.lt; have H4 := Lib.hid (And.intro (H3.out.1.trans (hbx.mono H3.out.1.size)) hbr4); clear hu4 hbx)
    | ((with_reducible show wpList _ _ _ ((⟨some 29, _, _, _, _, _⟩ : Oper) :: _) _ _); refine wpList_load_mid (o := ⟨some 29, _, _, _, _, _⟩) (range2 (b := w3.heap.size) (off := 1) (u := .int .i64 b1) (v := .int .i64 b2) (h4.at_ 1 (v := .int .i64 b1) rfl) (h4.at_ 2 (v := .int .i64 b2) rfl)) (by rfl) _ _ (by rfl) (by rfl) _ Tryz.underlying113 (by rfl) size_ref (by rfl) ?_)
    | ((with_reducible show wpList _ _ _ ((⟨some 30, _, _, _, _, _⟩ : Oper) :: _) _ _); refine wpList_load_blk (o := ⟨some 30, _, _, _, _, _⟩) (hbr4) (by rfl) _ _ (by rfl) (by rfl) _ Tryz.underlying113 (by rfl) (size_ref) (by rfl) ?_)
    | ((with_reducible show wpList _ _ _ ((⟨some 31, _, _, _, _, _⟩ : Oper) :: _) _ _); refine wpList_run (o := ⟨some 31, _, _, _, _, _⟩) _ (by rfl) (exec_neq_ref _ _ _ _ (by rfl) b1 b2 r.1 r.2.1 (by rfl) (by rfl)) ?_; rw [HN.out]; clear hbr4 h4)
    | fail)
  simp only [Act.put, List.setIfInBounds_toArray, List.set_cons_zero, List.set_cons_succ]
  clear H3
  have HG := Lib.hid (HW.out.1.below H4.out.1)
  have hap := Lib.hid HW.out.1.apart
  have hN0 : Near (q.p.all q.gf) w4 w4.drew := (Near.refl _ _).drew
  have hof : ∀ x, w.heap.size ≤ x → x ∉ q.p.all q.gf := fun x hx hm => by have h2 := HW.out.1.dk.lt x hm; omega
  have hG : Hid (∀ w', Near (q.p.all q.gf) w4 w' → w'.cell? ⟨q.gg, 0, none⟩ = some (.pointer (some ⟨q.p.gd, 0, none⟩)) ∧ w'.cell? ⟨w.heap.size, 0, none⟩ = some (.int .i64 r.1)) := Lib.hid fun w' hw' => by
    obtain ⟨wv, hb⟩ := HG.out.blk
    exact ⟨(hb.near hw' hap.out.g).at_ 0 rfl, (H4.out.2.near hw' (hof _ (Nat.le_refl _))).at_ 0 rfl⟩
  refine wp_region_tree (Near (q.p.all q.gf) w4) [] (PlanT.takes [0, 1, 2, 4, 7] (PlanT.takes [3, 5] (.opt 6 (.opt 8 (PlanT.takes [9] .done) .no) .no))) (by kernel_rfl) (by kernel_rfl) (hN0) ?_
  refine wpTree_pure _ _ _ (by rfl) (by rfl) ?_
  dsimp only [List.filterMap, List.getElem?_cons_zero, List.getElem?_cons_succ]
  repeat (go_big_quiet_step (fail))
  refine wpQuiet_nil ?_
  refine wpTree_takeL _ _ _ (by rfl) (by rfl) (hN0) ?_
  dsimp only [List.filterMap, List.getElem?_cons_zero, List.getElem?_cons_succ]
  (refine wpQuiet_load_cell (fun w' hw' => (hG.out w' hw').1) (by rfl) _ _ (by rfl) (by rfl) _ Tryz.underlying25 (by rfl) ?_; simp only [Act.put, List.setIfInBounds_toArray, List.set_cons_zero, List.set_cons_succ])
  (refine wpQuiet_load_cell (fun w' hw' => (hG.out w' hw').2) (by rfl) _ _ (by rfl) (by rfl) _ Tryz.underlying3 (by rfl) ?_; simp only [Act.put, List.setIfInBounds_toArray, List.set_cons_zero, List.set_cons_succ])
  refine wpQuiet_nil ?_
  refine wpTree_one _ rfl ?_
  have hnn := HW.out.1.ok.h512
  go_wp2_with fail
  refine (gplace_any r.1 hr1.1 (by omega) _).mono ?_
  rintro e w5 ⟨rfl, hw5⟩
  have hB5 : Below w4.heap.size w4 w5 := by rw [hw5]; exact (Below.refl _ _).drew
  have hN5 : Near (q.p.all q.gf) w4 w5 := by rw [hw5]; exact hN0
  clear hw5 hN0 hnn hr1
  go_wp2_with fail
  refine TreeQ.in_ hN5 ?_
  refine wpTree_one _ rfl ?_
  go_wp2_with fail
  have hWb := H4.out.1.trans (hB5.mono H4.out.1.size)
  have hwr := write_ok' (gplace r.1) n c A raw w5 HW.out.2.2.2.2.1 (Bytes.below HW.out.2.1 hWb) HW.out.2.2.1 (by rw [← HW.out.2.2.2.2.1]; exact HW.out.2.2.2.2.2.1) (by rw [HLEN.out]; omega) (HW.out.1.below hWb).dk
  refine hwr.mono ?_
  rintro e w6 ⟨rfl, hdk, hn6⟩
  have hN6 := hN5.trans hn6
  have hNN := Dsk.write_N d f (gplace r.1) raw
  have HL0 : ginst g d f r raw = if (d.write f (gplace r.1) raw).1 ≠ 0 then ((d.write f (gplace r.1) raw).1, g, (d.write f (gplace r.1) raw).2) else (0, { g with W := g.W.erase r }, (d.write f (gplace r.1) raw).2) := by
    unfold ginst; rw [if_neg (by rw [HQ.out]; simp), if_neg (by rw [HO.out]; simp), if_neg (by rw [HR.out]; simp), if_neg (by rw [HBE.out]; simp)]
  generalize d.write f (gplace r.1) raw = X at hdk hNN HL0 ⊢
  obtain ⟨c0, d2', f2⟩ := X
  simp only at hdk hNN HL0 ⊢
  have H6 := Lib.hid (And.intro (HG.out.wrote hdk hN6 hNN) (And.intro (H4.out.2.near hN6 (hof _ (Nat.le_refl _))) (((Near.below H4.out.1 : Near (q.p.all q.gf) w w4).trans hN6).wider (Y := q.all) (fun x hx => GPl.mem.2 (.inr (.inr (.inr (.inr hx)))))))) 
  have hC6 := Lib.hid hN6
  have HL0 := Lib.hid HL0
  clear hdk hn6 hN6 hNN hB5 hN5 hWb hwr hof hG HG
  go_wp2_with fail
  refine TreeQ.in_ hC6.out ?_
  refine wpTree_pure _ _ _ (by rfl) (by rfl) ?_
  dsimp only [List.filterMap, List.getElem?_cons_zero, List.getElem?_cons_succ]
  repeat (go_big_quiet_step (fail))
  refine wpQuiet_nil ?_
  refine wpTree_done ?_
  by_cases he : c0 = 0
  case neg =>
    have HL := Lib.hid (HL0.out.trans (if_pos he))
    have kn := decide_eq_false he
    go_wp2
    go_ret
    rw [HL.out]
    exact ⟨rfl, ⟨q, rfl, rfl, rfl, H6.out.1, H6.out.2.2, fun _ hx => .inl hx⟩⟩
  subst he
  have HL1 := Lib.hid (HL0.out.trans (if_neg (by simp)))
  clear HL0 hC6
  go_wp2_with fail
  have hN0 : Near [q.gi] w6 w6.drew := (Near.refl _ _).drew
  have hlt := HW.out.1.lt
  have hgi : q.gi < w.heap.size := hlt _ (GPl.mem.2 (.inr (.inr (.inl rfl))))
  have hG : Hid (∀ w', Near [q.gi] w6 w' → w'.cell? ⟨q.gg, 3, none⟩ = some (.map (some q.gi)) ∧ Blk w' w.heap.size 113 #[.int .i64 r.1, .int .i64 r.2.1]) := Lib.hid fun w' hw' => by
    obtain ⟨wv, hb⟩ := H6.out.1.blk
    exact ⟨(hb.near hw' (fun hm => hap.out.gi (List.mem_singleton.1 hm))).at_ 3 rfl, H6.out.2.1.near hw' (fun hm => by have := List.mem_singleton.1 hm; omega)⟩
  refine wp_region_tree (Near [q.gi] w6) [] (PlanT.takes [0, 1, 2] (PlanT.takes [3, 4] (.opt 5 .done .no))) (by kernel_rfl) (by kernel_rfl) (hN0) ?_
  refine wpTree_pure _ _ _ (by rfl) (by rfl) ?_
  dsimp only [List.filterMap, List.getElem?_cons_zero, List.getElem?_cons_succ]
  repeat (go_big_quiet_step (fail))
  refine wpQuiet_nil ?_
  refine wpTree_takeL _ _ _ (by rfl) (by rfl) (hN0) ?_
  dsimp only [List.filterMap, List.getElem?_cons_zero, List.getElem?_cons_succ]
  (refine wpQuiet_load_cell (fun w' hw' => (hG.out w' hw').1) (by rfl) _ _ (by rfl) (by rfl) _ Tryz.underlying164 (by rfl) ?_; simp only [Act.put, List.setIfInBounds_toArray, List.set_cons_zero, List.set_cons_succ])
  (refine wpQuiet_load_blk (fun w' hw' => (hG.out w' hw').2) (by rfl) _ _ (by rfl) (by rfl) _ Tryz.underlying113 (by rfl) (size_ref) (by rfl) ?_; simp only [Act.put, List.setIfInBounds_toArray, List.set_cons_zero, List.set_cons_succ])
  refine wpQuiet_nil ?_
  refine wpTree_one _ rfl ?_
  have hmp := H6.out.1.mp.near (X := []) (w' := w6.drew) (Near.refl _ _).drew List.not_mem_nil
  go_wp2_with (first
    | ((with_reducible show wpList _ _ _ ((⟨none, _, _, _, _, _⟩ : Oper) :: _) _ _); refine wpList_delete_k (o := ⟨none, _, _, _, _, _⟩) (by rfl) refKey _ 113 4 _ _ (by rfl) Tryz.underlying164 hmp r trivial (by rfl) (by rfl) ?_; intro w7 hm7 hu7; rw [wantM_del g.W r] at hm7)
    | fail)
  have k7 : Near [q.gi] w6 w7 := hN0.trans (Near.upd hu7 (List.mem_singleton_self _))
  refine TreeQ.in_ k7 ?_
  refine wpTree_done ?_
  have hR7 := (hG.out _ k7).2
  clear hN0 hu7 hmp hG
  obtain ⟨wv, sp, h1, h2, h3⟩ := H6.out.1.wn
  have h2 := h2.near k7 (fun hm => hap.out.gi (List.mem_singleton.1 hm))
  have h3 := OwnsC.nearO h3 k7 (fun x hx hm => (hap.out.wo x (h1 ▸ hx)).2.2 (List.mem_singleton.1 hm))
  obtain ⟨B, cw, rfl, -, -, -, -⟩ := OwnsC.reads h3
  have d4 := h2.at_ 4 (v := .slice B g.W.length cw) rfl
  have hdr := dropRef_any (.slice B g.W.length cw) g.W sp r w.heap.size w7 HW.out.2.2.2.1 H6.out.1.ok.nd h3 hR7 (by rw [h1]; intro e; have h5 := hlt _ (GPl.mem.2 (.inr (.inr (.inr (.inl e))))); omega)
  unfold isRef at hdr
  have H7 := Lib.hid (And.intro h1 (And.intro h2 (And.intro hm7 k7)))
  have HLT := Lib.hid hlt
  clear h1 h2 h3 hm7 k7 hR7 hlt
  go_wp2_with fail
  refine hdr.mono ?_
  rintro e w8 ⟨v', sp', rfl, ho8, hv8, k8⟩
  rw [H7.out.1] at hv8 k8
  have hgg : q.gg ∉ q.gw.toList := by rw [Option.mem_toList]; exact fun e => (hap.out.wo _ e).1 rfl
  have hgi8 : q.gi ∉ q.gw.toList := by rw [Option.mem_toList]; exact fun e => (hap.out.wo _ e).2.2 rfl
  have hgs8 : q.gs ∉ q.gw.toList := by rw [Option.mem_toList]; exact fun e => (hap.out.wo _ e).2.1 rfl
  have hb8 := H7.out.2.1.near k8 hgg
  obtain ⟨B8, c8, rfl, -, -, -, -⟩ := OwnsC.reads ho8
  have d8 := hb8.at_ 4 (v := .slice B g.W.length cw) rfl
  have f8 := hb8.frozen 4
  have hu9 : Upd q.gg w8 (w8.setCell ⟨q.gg, 4, none⟩ (.slice B8 (g.W.erase r).length c8)) := (Upd.refl _ _).set 4 _
  have k9 : Near [q.gg] w8 (w8.setCell ⟨q.gg, 4, none⟩ (.slice B8 (g.W.erase r).length c8)) := Near.upd hu9 (List.mem_singleton_self _)
  have hP : GPost w q { g with W := g.W.erase r } d2' f2 (w8.setCell ⟨q.gg, 4, none⟩ (.slice B8 (g.W.erase r).length c8)) := by
    have hG6 := H6.out.1
    have hdk7 := hG6.dk.nearX H7.out.2.2.2 (fun x hx hm => hap.out.i (List.mem_singleton.1 hm ▸ hx))
    have hdk8 := hdk7.nearX k8 (fun x hx hm => hap.out.w x (Option.mem_toList.1 hm) hx)
    have hdk9 := hdk8.nearX k9 (fun x hx hm => hap.out.g (List.mem_singleton.1 hm ▸ hx))
    have hst := ((hG6.st.near H7.out.2.2.2 (fun hm => hap.out.si (List.mem_singleton.1 hm))).near k8 hgs8).near k9 (fun hm => hap.out.gs (List.mem_singleton.1 hm).symm)
    have hmp := (H7.out.2.2.1.near k8 hgi8).near k9 (fun hm => hap.out.gi (List.mem_singleton.1 hm).symm)
    refine ⟨q, rfl, rfl, rfl, ⟨hdk9, hst, hmp, ⟨.slice B8 (g.W.erase r).length c8, sp', hv8, hb8.set_ 4 _, OwnsC.nearO ho8 k9 (fun x hx hm => (hap.out.wo x (hv8 ▸ hx)).1 (List.mem_singleton.1 hm))⟩, ⟨hG6.ok.h1, hG6.ok.h512, hG6.ok.len, hG6.ok.set, hG6.ok.room, hG6.ok.nd.erase r⟩, hG6.ne⟩, ?_, fun _ hx => .inl hx⟩
    have a1 := H7.out.2.2.2.wider (Y := q.all) (fun x hx => by rw [List.mem_singleton.1 hx]; exact GPl.mem.2 (.inr (.inr (.inl rfl))))
    have a2 := k8.wider (Y := q.all) (fun x hx => GPl.mem.2 (.inr (.inr (.inr (.inl (Option.mem_toList.1 hx))))))
    have a3 := k9.wider (Y := q.all) (fun x hx => by rw [List.mem_singleton.1 hx]; exact GPl.mem.2 (.inl rfl))
    exact ((H6.out.2.2.trans a1).trans a2).trans a3
  have HP := Lib.hid hP
  clear hP hb8 ho8 hv8 k8 k9 hu9 hgg hgi8 hgs8 hdr d4 H7 H6
  go_wp2
  go_ret
  rw [HL1.out]
  exact ⟨rfl, HP.out⟩
end
end Go.Proofs.YtfoegmjpfkmggaaGreatDoor

/- Which bytes are a set's, plainly. No condition. -/
namespace Go.Proofs.YtfoegmjpfkmggaaGreatDoor
open Go.RowKit
/-- How the bytes say block i (from nought on) is. -/
def crumb (b : List UInt8) (i : Nat) : Nat := (b.getD (2 + i / 4) 0).toNat / 4 ^ (i % 4) % 4
def rdn (b : List UInt8) : Nat := (b.getD 0 0).toNat + 256 * (b.getD 1 0).toNat
def rdF (n : Nat) (f : Nat → Nat) : List Nat := (List.range n).map f
def rd (b : List UInt8) : List Nat := rdF (rdn b) (crumb b)
theorem rdF_length (n : Nat) (f : Nat → Nat) : (rdF n f).length = n := by simp [rdF]
theorem rdF_getD (n : Nat) (f : Nat → Nat) (i : Nat) : (rdF n f).getD i 0 = if i < n then f i else 0 := by
  unfold rdF
  rw [List.getD_eq_getElem?_getD, List.getElem?_map]
  by_cases h : i < n
  · rw [List.getElem?_range h, if_pos h]; rfl
  · rw [if_neg h, List.getElem?_eq_none (by simp; omega)]; rfl
theorem rdF_set (n : Nat) (f : Nat → Nat) (k : Nat) (hk : k < n) : (rdF n (cutAt f k)).set k (f k) = rdF n (cutAt f (k + 1)) := by
  apply List.ext_getElem?
  intro i
  rw [List.getElem?_set]
  unfold rdF
  by_cases hi : i < n
  · rw [List.getElem?_map, List.getElem?_map, List.getElem?_range hi]
    by_cases e : k = i
    · subst e; rw [if_pos rfl, if_pos (by simpa using hk)]; simp [cutAt]
    · rw [if_neg e]
      simp only [Option.map_some, cutAt]
      by_cases h2 : i < k
      · rw [if_pos h2, if_pos (by omega)]
      · rw [if_neg h2, if_neg (by omega)]
  · rw [if_neg (by omega), List.getElem?_eq_none (by simp; omega), List.getElem?_eq_none (by simp; omega)]
theorem rdF_zero (n : Nat) (f : Nat → Nat) : rdF n (cutAt f 0) = List.replicate n 0 := by
  unfold rdF
  apply List.ext_getElem
  · simp
  · intro i h1 h2; simp [cutAt]
theorem rdF_all (n : Nat) (f : Nat → Nat) : rdF n (cutAt f n) = rdF n f := by
  unfold rdF
  refine List.map_congr_left fun i hi => ?_
  have := List.mem_range.1 hi
  unfold cutAt; rw [if_pos this]
/-- Whether the bytes are a set's, but for the last look. -/
def rdPre (b : List UInt8) : Bool := decide (2 ≤ b.length) && decide (1 ≤ rdn b) && decide (rdn b ≤ 512) && decide (b.length = 2 + (rdn b + 3) / 4)
def rdBig (b : List UInt8) : Bool := (List.range (rdn b)).all fun i => decide (crumb b i ≤ 2)
def rdOk (b : List UInt8) : Bool := rdPre b && rdBig b && decide (enc (rd b) = b)
theorem rdPre_iff (b : List UInt8) : rdPre b = true ↔ 2 ≤ b.length ∧ 1 ≤ rdn b ∧ rdn b ≤ 512 ∧ b.length = 2 + (rdn b + 3) / 4 := by
  unfold rdPre; simp only [Bool.and_eq_true, decide_eq_true_eq]; exact ⟨fun ⟨⟨⟨a, b⟩, c⟩, d⟩ => ⟨a, b, c, d⟩, fun ⟨a, b, c, d⟩ => ⟨⟨⟨a, b⟩, c⟩, d⟩⟩
theorem rdBig_iff (b : List UInt8) : rdBig b = true ↔ ∀ i, i < rdn b → crumb b i ≤ 2 := by
  unfold rdBig; rw [List.all_eq_true]; exact ⟨fun h i hi => by simpa using h i (List.mem_range.2 hi), fun h i hi => by simpa using h i (List.mem_range.1 hi)⟩
theorem rdOk_iff (b : List UInt8) : rdOk b = true ↔ rdPre b = true ∧ rdBig b = true ∧ enc (rd b) = b := by
  unfold rdOk; simp only [Bool.and_eq_true, decide_eq_true_eq]; exact ⟨fun ⟨⟨a, b⟩, c⟩ => ⟨a, b, c⟩, fun ⟨a, b, c⟩ => ⟨⟨a, b⟩, c⟩⟩
theorem rd_ok {b : List UInt8} (h1 : rdPre b = true) (h2 : rdBig b = true) : SetOk (rd b) :=
  ⟨by unfold rd; rw [rdF_length]; exact ((rdPre_iff b).1 h1).2.2.1, fun i => by
    unfold rd; rw [rdF_getD]
    split
    · rename_i h; exact (rdBig_iff b).1 h2 i h
    · exact Nat.zero_le _⟩
theorem rd_length (b : List UInt8) : (rd b).length = rdn b := rdF_length _ _
end Go.Proofs.YtfoegmjpfkmggaaGreatDoor
