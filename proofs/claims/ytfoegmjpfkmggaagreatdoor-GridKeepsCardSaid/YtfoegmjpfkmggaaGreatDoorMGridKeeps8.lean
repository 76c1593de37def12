/- Three boxes of a call. Plain facts. No condition. -/
import Derived.Test.YtfoegmjpfkmggaaGreatDoorMGridKeeps7
import Derived.RegionTactic
import Derived.BigRegion
namespace Go.Proofs.YtfoegmjpfkmggaaGreatDoor
open Go.RowKit
section
variable {gd gl gm N c : Nat} {L : List UInt8} {es : Array MapEntry} {out : Bool} {fz : Option Nat} {ops : Int}
theorem DiskB.drew {w : World} (h : DiskB w gd gl gm N L es c out fz ops) : DiskB w.drew gd gl gm N L es c out fz ops := ⟨h.1.drew, h.2.1.drew, h.2.2.drew⟩
theorem DiskB.apart {w : World} (h : DiskB w gd gl gm N L es c out fz ops) : gd < w.heap.size ∧ gl < w.heap.size ∧ gm < w.heap.size := ⟨h.1.lt, h.2.1.lt, h.2.2.lt⟩
theorem boxes3 (w : World) (t1 t2 t3 : TypeId) (v1 v2 v3 : Value) : Blk (((w.alloc (.cells #[v1] t1)).alloc (.cells #[v2] t2)).alloc (.cells #[v3] t3)) w.heap.size t1 #[v1] ∧ Blk (((w.alloc (.cells #[v1] t1)).alloc (.cells #[v2] t2)).alloc (.cells #[v3] t3)) (w.heap.size + 1) t2 #[v2] ∧
    Blk (((w.alloc (.cells #[v1] t1)).alloc (.cells #[v2] t2)).alloc (.cells #[v3] t3)) (w.heap.size + 1 + 1) t3 #[v3] ∧ Near [] w (((w.alloc (.cells #[v1] t1)).alloc (.cells #[v2] t2)).alloc (.cells #[v3] t3)) ∧ (((w.alloc (.cells #[v1] t1)).alloc (.cells #[v2] t2)).alloc (.cells #[v3] t3)).heap.size = w.heap.size + 3 := by
  have h0 := Blk.new w t1 #[v1]
  have h1 := Blk.new (w.alloc (.cells #[v1] t1)) t2 #[v2]
  have h2 := Blk.new ((w.alloc (.cells #[v1] t1)).alloc (.cells #[v2] t2)) t3 #[v3]
  have e1 : (w.alloc (.cells #[v1] t1)).heap.size = w.heap.size + 1 := by simp only [World.size_alloc]
  have e2 : ((w.alloc (.cells #[v1] t1)).alloc (.cells #[v2] t2)).heap.size = w.heap.size + 1 + 1 := by simp only [World.size_alloc]
  rw [e1] at h1
  rw [e2] at h2
  have b1 := (Below.refl (w.alloc (.cells #[v1] t1)).heap.size (w.alloc (.cells #[v1] t1))).alloc (Nat.le_refl _) (.cells #[v2] t2)
  have b2 := (Below.refl ((w.alloc (.cells #[v1] t1)).alloc (.cells #[v2] t2)).heap.size ((w.alloc (.cells #[v1] t1)).alloc (.cells #[v2] t2))).alloc (Nat.le_refl _) (.cells #[v3] t3)
  refine ⟨(h0.below b1 h0.lt).below b2 (h0.below b1 h0.lt).lt, h1.below b2 h1.lt, h2, ?_, by simp only [World.size_alloc]⟩
  exact (Near.below ((Below.refl w.heap.size w).alloc (Nat.le_refl _) _)).trans ((Near.below b1).trans (Near.below b2))
theorem callWr1 (args : Array Value) (w : World) : (callFunc 81 args).run Tryz.prog w = .ok (.enter 81 args) w := Tryz.call81 args w
end
end Go.Proofs.YtfoegmjpfkmggaaGreatDoor

/- Write, of a disk that was made, in all cases. Conditions: the bytes can be read, lie apart from the disk's, and are fewer than 2^47. -/
namespace Go.Proofs.YtfoegmjpfkmggaaGreatDoor
open Go.RowKit
section
variable {w w' : World} {p : Pl} {gf : Option Nat} {d : Dsk} {f : Option Fus}

set_option maxRecDepth 100000 in
set_option maxHeartbeats 4000000 in
theorem write_out (at_ : Int) (cap : Nat) (A : Option Addr) (b : List UInt8) (hby : Bytes w A b) (hA : ∀ ad, A = some ad → ad.block ∉ p.all gf) (hcap : b.length ≤ cap) (hbl : b.length ≤ 140737488355328) (hd : DskR w p gf d) (hok : d.Ok) (hf : FusR w gf f) (hq : d.isOut f = true) :
    Calls Tryz.prog 34 #[.pointer (some ⟨p.gd, 0, none⟩), .int .i64 at_, .slice A b.length cap] w fun e w' => e = .returned (.int .i64 11) ∧ DskR w' p gf d ∧ FusR w' gf f ∧ Near (p.all gf) w w' := by
  have HH := Lib.hid (And.intro hby (And.intro hA (And.intro hd hf)))
  have HN := Lib.hid (And.intro hcap (And.intro hbl hok))
  have hlt := Lib.hid (And.intro hd.lt (fun g hg => hf.lt (g := g) hg))
  clear hby hA hcap hbl hd hok hf
  go_enter Tryz.func34, Tryz.ntmps34
  go_wp2_with fail
  obtain ⟨hp, ha, hb, hnr, hsz⟩ := boxes3 w 25 3 39 (.pointer (some ⟨p.gd, 0, none⟩)) (.int .i64 at_) (.slice A b.length cap)
  generalize (((w.alloc (.cells #[.pointer (some ⟨p.gd, 0, none⟩)] 25)).alloc (.cells #[.int .i64 at_] 3)).alloc (.cells #[.slice A b.length cap] 39)) = w3 at hp ha hb hnr hsz ⊢
  have hX0 : ∀ g, g ∉ ([] : List Nat) := fun g h => by cases h
  have hd3 := HH.out.2.2.1.near hnr ⟨hX0 _, hX0 _, hX0 _⟩
  have hf3 := HH.out.2.2.2.near hnr (fun g _ => hX0 g)
  refine (ready_all hd3 hf3).mono ?_
  rintro e w4 ⟨rfl, hw⟩
  obtain rfl := hw.symm
  clear hw
  rw [if_pos hq]
  have HR := Lib.hid (show DskR w3 p gf d ∧ FusR w3 gf f ∧ Near (p.all gf) w w3 from ⟨hd3, hf3, hnr.wider (fun x hx => by cases hx)⟩)
  clear hd3 hf3 hnr hp ha hb hq HH HN hlt
  go_wp2
  go_ret
  exact ⟨rfl, HR.out⟩

set_option maxRecDepth 100000 in
set_option maxHeartbeats 4000000 in
theorem write_arg0 (at_ : Int) (cap : Nat) (A : Option Addr) (b : List UInt8) (hby : Bytes w A b) (hA : ∀ ad, A = some ad → ad.block ∉ p.all gf) (hcap : b.length ≤ cap) (hbl : b.length ≤ 140737488355328) (hd : DskR w p gf d) (hok : d.Ok) (hf : FusR w gf f) (hq : ¬ d.isOut f = true) (hn0 : b.length / 256 = 0) :
    Calls Tryz.prog 34 #[.pointer (some ⟨p.gd, 0, none⟩), .int .i64 at_, .slice A b.length cap] w fun e w' => e = .returned (.int .i64 2) ∧ DskR w' p gf d ∧ FusR w' gf f ∧ Near (p.all gf) w w' := by
  have HH := Lib.hid (And.intro hby (And.intro hA (And.intro hd hf)))
  have HN := Lib.hid (And.intro hcap (And.intro hbl hok))
  have hlt := Lib.hid (And.intro hd.lt (fun g hg => hf.lt (g := g) hg))
  clear hby hA hcap hbl hd hok hf
  go_enter Tryz.func34, Tryz.ntmps34
  go_wp2_with fail
  obtain ⟨hp, ha, hb, hnr, hsz⟩ := boxes3 w 25 3 39 (.pointer (some ⟨p.gd, 0, none⟩)) (.int .i64 at_) (.slice A b.length cap)
  generalize (((w.alloc (.cells #[.pointer (some ⟨p.gd, 0, none⟩)] 25)).alloc (.cells #[.int .i64 at_] 3)).alloc (.cells #[.slice A b.length cap] 39)) = w3 at hp ha hb hnr hsz ⊢
  have hX0 : ∀ g, g ∉ ([] : List Nat) := fun g h => by cases h
  have hd3 := HH.out.2.2.1.near hnr ⟨hX0 _, hX0 _, hX0 _⟩
  have hf3 := HH.out.2.2.2.near hnr (fun g _ => hX0 g)
  refine (ready_all hd3 hf3).mono ?_
  rintro e w4 ⟨rfl, hw⟩
  obtain rfl := hw.symm
  clear hw
  rw [if_neg hq]
  have dn := hb.at_ 0 (v := .slice A b.length cap) rfl
  have dp := hp.at_ 0 (v := .pointer (some ⟨p.gd, 0, none⟩)) rfl
  have da := ha.at_ 0 (v := .int .i64 at_) rfl
  have hq1 : (b.length : Int) / 256 = 0 := by omega
  have hnr5 := Near.below (X := []) ((Below.refl w3.heap.size w3).alloc (Nat.le_refl _) (.cells #[.int .i64 0] 3))
  have HR := Lib.hid (show DskR (w3.alloc (.cells #[.int .i64 0] 3)) p gf d ∧ FusR (w3.alloc (.cells #[.int .i64 0] 3)) gf f ∧ Near (p.all gf) w (w3.alloc (.cells #[.int .i64 0] 3)) from ⟨hd3.near hnr5 ⟨hX0 _, hX0 _, hX0 _⟩, hf3.near hnr5 (fun g _ => hX0 g), (hnr.trans hnr5).wider (fun x hx => by cases hx)⟩)
  have dn6 := (hb.near hnr5 (hX0 _)).at_ 0 (v := .slice A b.length cap) rfl
  clear hd3 hf3 hnr hnr5 hp ha hb HH HN hlt hq hsz hn0
  go_wp2
  go_ret
  exact ⟨rfl, HR.out⟩

set_option maxRecDepth 100000 in
set_option maxHeartbeats 4000000 in
theorem write_arg1 (at_ : Int) (cap : Nat) (A : Option Addr) (b : List UInt8) (hby : Bytes w A b) (hA : ∀ ad, A = some ad → ad.block ∉ p.all gf) (hcap : b.length ≤ cap) (hbl : b.length ≤ 140737488355328) (hd : DskR w p gf d) (hok : d.Ok) (hf : FusR w gf f) (hq : ¬ d.isOut f = true) (hn0 : ¬ b.length / 256 = 0) (hn1 : b.length % 256 ≠ 0) :
    Calls Tryz.prog 34 #[.pointer (some ⟨p.gd, 0, none⟩), .int .i64 at_, .slice A b.length cap] w fun e w' => e = .returned (.int .i64 2) ∧ DskR w' p gf d ∧ FusR w' gf f ∧ Near (p.all gf) w w' := by
  have HH := Lib.hid (And.intro hby (And.intro hA (And.intro hd hf)))
  have HN := Lib.hid (And.intro hcap (And.intro hbl hok))
  have hlt := Lib.hid (And.intro hd.lt (fun g hg => hf.lt (g := g) hg))
  clear hby hA hcap hbl hd hok hf
  go_enter Tryz.func34, Tryz.ntmps34
  go_wp2_with fail
  obtain ⟨hp, ha, hb, hnr, hsz⟩ := boxes3 w 25 3 39 (.pointer (some ⟨p.gd, 0, none⟩)) (.int .i64 at_) (.slice A b.length cap)
  generalize (((w.alloc (.cells #[.pointer (some ⟨p.gd, 0, none⟩)] 25)).alloc (.cells #[.int .i64 at_] 3)).alloc (.cells #[.slice A b.length cap] 39)) = w3 at hp ha hb hnr hsz ⊢
  have hX0 : ∀ g, g ∉ ([] : List Nat) := fun g h => by cases h
  have hd3 := HH.out.2.2.1.near hnr ⟨hX0 _, hX0 _, hX0 _⟩
  have hf3 := HH.out.2.2.2.near hnr (fun g _ => hX0 g)
  refine (ready_all hd3 hf3).mono ?_
  rintro e w4 ⟨rfl, hw⟩
  obtain rfl := hw.symm
  clear hw
  rw [if_neg hq]
  have dn := hb.at_ 0 (v := .slice A b.length cap) rfl
  have dp := hp.at_ 0 (v := .pointer (some ⟨p.gd, 0, none⟩)) rfl
  have da := ha.at_ 0 (v := .int .i64 at_) rfl
  obtain ⟨n, hn⟩ : ∃ n, n = b.length / 256 := ⟨_, rfl⟩
  have hq1 : (b.length : Int) / 256 = (n : Int) := by omega
  have hq1w : wrap64 (n : Int) = (n : Int) := by have := HN.out; unfold wrap64; omega
  have hq2 : ((b.length : Int) % 256 != 0) = true := by simp; omega
  have hq3 : ((n : Int) == 0) = false := by simp; omega
  have hnr5 := Near.below (X := []) ((Below.refl w3.heap.size w3).alloc (Nat.le_refl _) (.cells #[.int .i64 (n : Int)] 3))
  have HR := Lib.hid (show DskR (w3.alloc (.cells #[.int .i64 (n : Int)] 3)) p gf d ∧ FusR (w3.alloc (.cells #[.int .i64 (n : Int)] 3)) gf f ∧ Near (p.all gf) w (w3.alloc (.cells #[.int .i64 (n : Int)] 3)) from ⟨hd3.near hnr5 ⟨hX0 _, hX0 _, hX0 _⟩, hf3.near hnr5 (fun g _ => hX0 g), (hnr.trans hnr5).wider (fun x hx => by cases hx)⟩)
  have dn6 := (hb.near hnr5 (hX0 _)).at_ 0 (v := .slice A b.length cap) rfl
  clear hd3 hf3 hnr hnr5 hp ha hb HH HN hlt hq hsz hn0 hn
  go_wp2
  go_ret
  exact ⟨rfl, HR.out⟩

set_option maxRecDepth 100000 in
set_option maxHeartbeats 4000000 in
theorem write_range (at_ : Int) (cap : Nat) (A : Option Addr) (b : List UInt8) (hby : Bytes w A b) (hA : ∀ ad, A = some ad → ad.block ∉ p.all gf) (hcap : b.length ≤ cap) (hbl : b.length ≤ 140737488355328) (hd : DskR w p gf d) (hok : d.Ok) (hf : FusR w gf f) (hq : ¬ d.isOut f = true) (hn0 : ¬ b.length / 256 = 0) (hn1 : b.length % 256 = 0) (hr : at_ < 0 ∨ (d.N : Int) - (b.length / 256 : Nat) < at_) :
    Calls Tryz.prog 34 #[.pointer (some ⟨p.gd, 0, none⟩), .int .i64 at_, .slice A b.length cap] w fun e w' => e = .returned (.int .i64 5) ∧ DskR w' p gf d ∧ FusR w' gf f ∧ Near (p.all gf) w w' := by
  have HH := Lib.hid (And.intro hby (And.intro hA (And.intro hd hf)))
  have HN := Lib.hid (And.intro hcap (And.intro hbl hok))
  have hlt := Lib.hid (And.intro hd.lt (fun g hg => hf.lt (g := g) hg))
  clear hby hA hcap hbl hd hok hf
  go_enter Tryz.func34, Tryz.ntmps34
  go_wp2_with fail
  obtain ⟨hp, ha, hb, hnr, hsz⟩ := boxes3 w 25 3 39 (.pointer (some ⟨p.gd, 0, none⟩)) (.int .i64 at_) (.slice A b.length cap)
  generalize (((w.alloc (.cells #[.pointer (some ⟨p.gd, 0, none⟩)] 25)).alloc (.cells #[.int .i64 at_] 3)).alloc (.cells #[.slice A b.length cap] 39)) = w3 at hp ha hb hnr hsz ⊢
  have hX0 : ∀ g, g ∉ ([] : List Nat) := fun g h => by cases h
  have hd3 := HH.out.2.2.1.near hnr ⟨hX0 _, hX0 _, hX0 _⟩
  have hf3 := HH.out.2.2.2.near hnr (fun g _ => hX0 g)
  refine (ready_all hd3 hf3).mono ?_
  rintro e w4 ⟨rfl, hw⟩
  obtain rfl := hw.symm
  clear hw
  rw [if_neg hq]
  obtain ⟨n, hn⟩ : ∃ n, n = b.length / 256 := ⟨_, rfl⟩
  have hq1 : (b.length : Int) / 256 = (n : Int) := by omega
  have hq1w : wrap64 (n : Int) = (n : Int) := by have := HN.out; unfold wrap64; omega
  have dn := hb.at_ 0 (v := .slice A b.length cap) rfl
  have dp := hp.at_ 0 (v := .pointer (some ⟨p.gd, 0, none⟩)) rfl
  have da := ha.at_ 0 (v := .int .i64 at_) rfl
  have hq2 : ((b.length : Int) % 256) = 0 := by omega
  have hq3 : ((n : Int) == 0) = false := by simp; omega
  have HB := Lib.hid (And.intro hn0 hn)
  clear hn hn0
  go_wp2_with fail
  have hn5 := Blk.new w3 3 #[.int .i64 (n : Int)]
  have hnr5 := Near.below (X := []) ((Below.refl w3.heap.size w3).alloc (Nat.le_refl _) (.cells #[.int .i64 (n : Int)] 3))
  rw [hsz] at hn5
  generalize w3.alloc (.cells #[.int .i64 (n : Int)] 3) = w5 at hn5 hnr5 ⊢
  have hd5 := hd3.near hnr5 ⟨hX0 _, hX0 _, hX0 _⟩
  have hf5 := hf3.near hnr5 (fun g _ => hX0 g)
  replace hp := hp.near hnr5 (hX0 _)
  replace ha := ha.near hnr5 (hX0 _)
  replace hb := hb.near hnr5 (hX0 _)
  have hN7 := hnr.trans hnr5
  clear dn dp da hd3 hf3 hnr hnr5 hq1 hq1w
  have HE := Lib.hid hr
  by_cases hneg : at_ < 0
  all_goals clear hr
  · have hlt0 : decide (at_ < 0) = true := by simp [hneg]
    clear hsz hneg
    go_wp2_with fail
    have hd5' := hd5
    obtain ⟨es5, c5, hd5c, -⟩ := hd5'
    refine wp_region_tree (Near [] w5) [] (PlanT.takes [0] (PlanT.takes [1, 2] (PlanT.takes [3, 4, 9] (PlanT.takes [5, 6] (PlanT.takes [7] (PlanT.takes [8, 10, 11, 12, 13] .done)))))) (by kernel_rfl) (by kernel_rfl) ((Near.refl _ _).drew) ?_
    refine wpTree_takeL _ _ _ (by rfl) (by rfl) ((Near.refl _ _).drew) ?_
    dsimp only [List.filterMap, List.getElem?_cons_zero, List.getElem?_cons_succ]
    (refine wpQuiet_load_cell (fun w' hw' => (Blk.near ha hw' (hX0 _)).at_ 0 (v := .int .i64 at_) rfl) (by rfl) _ _ (by rfl) (by rfl) _ Tryz.underlying3 (by rfl) ?_; simp only [Act.put, List.setIfInBounds_toArray, List.set_cons_zero, List.set_cons_succ])
    refine wpQuiet_nil ?_
    refine wpTree_pure _ _ _ (by rfl) (by rfl) ?_
    dsimp only [List.filterMap, List.getElem?_cons_zero, List.getElem?_cons_succ]
    repeat (go_big_quiet_step (fail))
    refine wpQuiet_nil ?_
    refine wpTree_takeL _ _ _ (by rfl) (by rfl) ((Near.refl _ _).drew) ?_
    dsimp only [List.filterMap, List.getElem?_cons_zero, List.getElem?_cons_succ]
    go_big_quiet_step (fail)
    go_big_quiet_step (fail)
    go_big_quiet_step (fail)
    refine wpQuiet_nil ?_
    refine wpTree_pure _ _ _ (by rfl) (by rfl) ?_
    dsimp only [List.filterMap, List.getElem?_cons_zero, List.getElem?_cons_succ]
    repeat (go_big_quiet_step (fail))
    refine wpQuiet_nil ?_
    refine wpTree_takeL _ _ _ (by rfl) (by rfl) ((Near.refl _ _).drew) ?_
    dsimp only [List.filterMap, List.getElem?_cons_zero, List.getElem?_cons_succ]
    go_big_quiet_step (fail)
    refine wpQuiet_nil ?_
    refine wpTree_pure _ _ _ (by rfl) (by rfl) ?_
    dsimp only [List.filterMap, List.getElem?_cons_zero, List.getElem?_cons_succ]
    repeat (go_big_quiet_step (fail))
    refine wpQuiet_nil ?_
    refine wpTree_done ?_
    have HR := Lib.hid (show DskR w5.drew p gf d ∧ FusR w5.drew gf f ∧ Near (p.all gf) w w5.drew from ⟨hd5.near (Near.refl [] _).drew ⟨hX0 _, hX0 _, hX0 _⟩, hf5.near (Near.refl [] _).drew (fun g _ => hX0 g), (hN7.wider (fun x hx => by cases hx)).drew⟩)
    clear hd5 hf5 hN7 hp ha hb hn5 HH HN hlt hq HB hd5c HE hlt0
    go_wp2
    go_ret
    exact ⟨rfl, HR.out⟩
  · have hlt0 : decide (at_ < 0) = false := by simp; omega
    have hgt : decide (wrap64 ((d.N : Int) - (n : Int)) < at_) = true := by have h1 := HN.out.2.2.n2; have h2 := HE.out; have h3 := HN.out; have h4 := HB.out; rw [show wrap64 ((d.N : Int) - (n : Int)) = (d.N : Int) - n by unfold wrap64; omega]; simp; omega
    clear hsz hneg
    go_wp2_with fail
    have hd5' := hd5
    obtain ⟨es5, c5, hd5c, -⟩ := hd5'
    refine wp_region_tree (Near [] w5) [] (PlanT.takes [0] (PlanT.takes [1, 2] (PlanT.takes [3, 4, 9] (PlanT.takes [5, 6] (PlanT.takes [7] (PlanT.takes [8, 10, 11, 12, 13] .done)))))) (by kernel_rfl) (by kernel_rfl) ((Near.refl _ _).drew) ?_
    refine wpTree_takeL _ _ _ (by rfl) (by rfl) ((Near.refl _ _).drew) ?_
    dsimp only [List.filterMap, List.getElem?_cons_zero, List.getElem?_cons_succ]
    (refine wpQuiet_load_cell (fun w' hw' => (Blk.near ha hw' (hX0 _)).at_ 0 (v := .int .i64 at_) rfl) (by rfl) _ _ (by rfl) (by rfl) _ Tryz.underlying3 (by rfl) ?_; simp only [Act.put, List.setIfInBounds_toArray, List.set_cons_zero, List.set_cons_succ])
    refine wpQuiet_nil ?_
    refine wpTree_pure _ _ _ (by rfl) (by rfl) ?_
    dsimp only [List.filterMap, List.getElem?_cons_zero, List.getElem?_cons_succ]
    repeat (go_big_quiet_step (fail))
    refine wpQuiet_nil ?_
    refine wpTree_takeL _ _ _ (by rfl) (by rfl) ((Near.refl _ _).drew) ?_
    dsimp only [List.filterMap, List.getElem?_cons_zero, List.getElem?_cons_succ]
    (refine wpQuiet_want' (by rfl) ?_; refine wpQuiet_load_cell (fun w' hw' => (Blk.near ha hw' (hX0 _)).at_ 0 (v := .int .i64 at_) rfl) (by rfl) _ _ (by rfl) (by rfl) _ Tryz.underlying3 (by rfl) ?_; simp only [Act.put, List.setIfInBounds_toArray, List.set_cons_zero, List.set_cons_succ])
    (refine wpQuiet_want' (by rfl) ?_; refine wpQuiet_load_cell (fun w' hw' => (Blk.near hp hw' (hX0 _)).at_ 0 (v := .pointer (some ⟨p.gd, 0, none⟩)) rfl) (by rfl) _ _ (by rfl) (by rfl) _ Tryz.underlying25 (by rfl) ?_; simp only [Act.put, List.setIfInBounds_toArray, List.set_cons_zero, List.set_cons_succ])
    (refine wpQuiet_want' (by rfl) ?_; refine wpQuiet_load_cell (fun w' hw' => (Blk.near hn5 hw' (hX0 _)).at_ 0 (v := .int .i64 (n : Int)) rfl) (by rfl) _ _ (by rfl) (by rfl) _ Tryz.underlying3 (by rfl) ?_; simp only [Act.put, List.setIfInBounds_toArray, List.set_cons_zero, List.set_cons_succ])
    refine wpQuiet_nil ?_
    refine wpTree_pure _ _ _ (by rfl) (by rfl) ?_
    dsimp only [List.filterMap, List.getElem?_cons_zero, List.getElem?_cons_succ]
    repeat (go_big_quiet_step (fail))
    refine wpQuiet_nil ?_
    refine wpTree_takeL _ _ _ (by rfl) (by rfl) ((Near.refl _ _).drew) ?_
    dsimp only [List.filterMap, List.getElem?_cons_zero, List.getElem?_cons_succ]
    (refine wpQuiet_want' (by rfl) ?_; refine wpQuiet_load_cell (fun w' hw' => (Blk.near hd5c.1 hw' (hX0 _)).at_ 0 (v := .slice (some ⟨p.gl, 0, none⟩) d.N d.N) rfl) (by rfl) _ _ (by rfl) (by rfl) _ Tryz.underlying96 (by rfl) ?_; simp only [Act.put, List.setIfInBounds_toArray, List.set_cons_zero, List.set_cons_succ])
    refine wpQuiet_nil ?_
    refine wpTree_pure _ _ _ (by rfl) (by rfl) ?_
    dsimp only [List.filterMap, List.getElem?_cons_zero, List.getElem?_cons_succ]
    repeat (go_big_quiet_step (fail))
    refine wpQuiet_nil ?_
    refine wpTree_done ?_
    have HR := Lib.hid (show DskR w5.drew p gf d ∧ FusR w5.drew gf f ∧ Near (p.all gf) w w5.drew from ⟨hd5.near (Near.refl [] _).drew ⟨hX0 _, hX0 _, hX0 _⟩, hf5.near (Near.refl [] _).drew (fun g _ => hX0 g), (hN7.wider (fun x hx => by cases hx)).drew⟩)
    clear hd5 hf5 hN7 hp ha hb hn5 HH HN hlt hq HB hd5c HE hlt0 hgt
    go_wp2
    go_ret
    exact ⟨rfl, HR.out⟩

set_option maxRecDepth 100000 in
set_option maxHeartbeats 4000000 in
theorem write_go (at_ : Int) (cap : Nat) (A : Option Addr) (b : List UInt8) (hby : Bytes w A b) (hA : ∀ ad, A = some ad → ad.block ∉ p.all gf) (hcap : b.length ≤ cap) (hbl : b.length ≤ 140737488355328) (hd : DskR w p gf d) (hok : d.Ok) (hf : FusR w gf f) (hq : ¬ d.isOut f = true) (hn0 : ¬ b.length / 256 = 0) (hn1 : b.length % 256 = 0) (k : Nat) (hk : at_ = (k : Int)) (hr : k + b.length / 256 ≤ d.N) :
    Calls Tryz.prog 34 #[.pointer (some ⟨p.gd, 0, none⟩), .int .i64 at_, .slice A b.length cap] w fun e w' => e = .returned (.int .i64 (chg d f fun d => d.put k b).1) ∧ DskR w' p gf (chg d f fun d => d.put k b).2.1 ∧ FusR w' gf (chg d f fun d => d.put k b).2.2 ∧ Near (p.all gf) w w' := by
  subst hk
  have HH := Lib.hid (And.intro hby (And.intro hA (And.intro hd hf)))
  have HN := Lib.hid (And.intro hcap (And.intro hbl hok))
  have hlt := Lib.hid (And.intro hd.lt (fun g hg => hf.lt (g := g) hg))
  clear hby hA hcap hbl hd hok hf
  go_enter Tryz.func34, Tryz.ntmps34
  go_wp2_with fail
  obtain ⟨hp, ha, hb, hnr, hsz⟩ := boxes3 w 25 3 39 (.pointer (some ⟨p.gd, 0, none⟩)) (.int .i64 (k : Int)) (.slice A b.length cap)
  generalize (((w.alloc (.cells #[.pointer (some ⟨p.gd, 0, none⟩)] 25)).alloc (.cells #[.int .i64 (k : Int)] 3)).alloc (.cells #[.slice A b.length cap] 39)) = w3 at hp ha hb hnr hsz ⊢
  have hX0 : ∀ g, g ∉ ([] : List Nat) := fun g h => by cases h
  have hd3 := HH.out.2.2.1.near hnr ⟨hX0 _, hX0 _, hX0 _⟩
  have hf3 := HH.out.2.2.2.near hnr (fun g _ => hX0 g)
  refine (ready_all hd3 hf3).mono ?_
  rintro e w4 ⟨rfl, hw⟩
  obtain rfl := hw.symm
  clear hw
  rw [if_neg hq]
  obtain ⟨n, hn⟩ : ∃ n, n = b.length / 256 := ⟨_, rfl⟩
  have hq1 : (b.length : Int) / 256 = (n : Int) := by omega
  have hq1w : wrap64 (n : Int) = (n : Int) := by have := HN.out; unfold wrap64; omega
  have dn := hb.at_ 0 (v := .slice A b.length cap) rfl
  have dp := hp.at_ 0 (v := .pointer (some ⟨p.gd, 0, none⟩)) rfl
  have da := ha.at_ 0 (v := .int .i64 (k : Int)) rfl
  have hq2 : ((b.length : Int) % 256) = 0 := by omega
  have hq3 : ((n : Int) == 0) = false := by simp; omega
  have HB := Lib.hid (And.intro hn0 hn)
  clear hn hn0
  go_wp2_with fail
  have hn5 := Blk.new w3 3 #[.int .i64 (n : Int)]
  have hnr5 := Near.below (X := []) ((Below.refl w3.heap.size w3).alloc (Nat.le_refl _) (.cells #[.int .i64 (n : Int)] 3))
  rw [hsz] at hn5
  generalize w3.alloc (.cells #[.int .i64 (n : Int)] 3) = w5 at hn5 hnr5 ⊢
  have hd5 := hd3.near hnr5 ⟨hX0 _, hX0 _, hX0 _⟩
  have hf5 := hf3.near hnr5 (fun g _ => hX0 g)
  replace hp := hp.near hnr5 (hX0 _)
  replace ha := ha.near hnr5 (hX0 _)
  replace hb := hb.near hnr5 (hX0 _)
  have hN7 := hnr.trans hnr5
  clear dn dp da hd3 hf3 hnr hnr5 hq1 hq1w
  have hrn : k + n ≤ d.N := by have := HB.out; omega
  have hlt0 : ((k : Int) < 0) = False := by simp
  have hgt : decide (wrap64 ((d.N : Int) - (n : Int)) < (k : Int)) = false := by have h1 := HN.out.2.2.n2; have h4 := HB.out; rw [show wrap64 ((d.N : Int) - (n : Int)) = (d.N : Int) - n by unfold wrap64; omega]; simp; omega
  clear hsz
  go_wp2_with fail
  have hd5' := hd5
  obtain ⟨es5, c5, hd5c, -⟩ := hd5'
  refine wp_region_tree (Near [] w5) [] (PlanT.takes [0] (PlanT.takes [1, 2] (PlanT.takes [3, 4, 9] (PlanT.takes [5, 6] (PlanT.takes [7] (PlanT.takes [8, 10, 11, 12, 13] .done)))))) (by kernel_rfl) (by kernel_rfl) ((Near.refl _ _).drew) ?_
  refine wpTree_takeL _ _ _ (by rfl) (by rfl) ((Near.refl _ _).drew) ?_
  dsimp only [List.filterMap, List.getElem?_cons_zero, List.getElem?_cons_succ]
  (refine wpQuiet_load_cell (fun w' hw' => (Blk.near ha hw' (hX0 _)).at_ 0 (v := .int .i64 (k : Int)) rfl) (by rfl) _ _ (by rfl) (by rfl) _ Tryz.underlying3 (by rfl) ?_; simp only [Act.put, List.setIfInBounds_toArray, List.set_cons_zero, List.set_cons_succ])
  refine wpQuiet_nil ?_
  refine wpTree_pure _ _ _ (by rfl) (by rfl) ?_
  dsimp only [List.filterMap, List.getElem?_cons_zero, List.getElem?_cons_succ]
  repeat (go_big_quiet_step (fail))
  refine wpQuiet_nil ?_
  refine wpTree_takeL _ _ _ (by rfl) (by rfl) ((Near.refl _ _).drew) ?_
  dsimp only [List.filterMap, List.getElem?_cons_zero, List.getElem?_cons_succ]
  (refine wpQuiet_want' (by rfl) ?_; refine wpQuiet_load_cell (fun w' hw' => (Blk.near ha hw' (hX0 _)).at_ 0 (v := .int .i64 (k : Int)) rfl) (by rfl) _ _ (by rfl) (by rfl) _ Tryz.underlying3 (by rfl) ?_; simp only [Act.put, List.setIfInBounds_toArray, List.set_cons_zero, List.set_cons_succ])
  (refine wpQuiet_want' (by rfl) ?_; refine wpQuiet_load_cell (fun w' hw' => (Blk.near hp hw' (hX0 _)).at_ 0 (v := .pointer (some ⟨p.gd, 0, none⟩)) rfl) (by rfl) _ _ (by rfl) (by rfl) _ Tryz.underlying25 (by rfl) ?_; simp only [Act.put, List.setIfInBounds_toArray, List.set_cons_zero, List.set_cons_succ])
  (refine wpQuiet_want' (by rfl) ?_; refine wpQuiet_load_cell (fun w' hw' => (Blk.near hn5 hw' (hX0 _)).at_ 0 (v := .int .i64 (n : Int)) rfl) (by rfl) _ _ (by rfl) (by rfl) _ Tryz.underlying3 (by rfl) ?_; simp only [Act.put, List.setIfInBounds_toArray, List.set_cons_zero, List.set_cons_succ])
  refine wpQuiet_nil ?_
  refine wpTree_pure _ _ _ (by rfl) (by rfl) ?_
  dsimp only [List.filterMap, List.getElem?_cons_zero, List.getElem?_cons_succ]
  repeat (go_big_quiet_step (fail))
  refine wpQuiet_nil ?_
  refine wpTree_takeL _ _ _ (by rfl) (by rfl) ((Near.refl _ _).drew) ?_
  dsimp only [List.filterMap, List.getElem?_cons_zero, List.getElem?_cons_succ]
  (refine wpQuiet_want' (by rfl) ?_; refine wpQuiet_load_cell (fun w' hw' => (Blk.near hd5c.1 hw' (hX0 _)).at_ 0 (v := .slice (some ⟨p.gl, 0, none⟩) d.N d.N) rfl) (by rfl) _ _ (by rfl) (by rfl) _ Tryz.underlying96 (by rfl) ?_; simp only [Act.put, List.setIfInBounds_toArray, List.set_cons_zero, List.set_cons_succ])
  refine wpQuiet_nil ?_
  refine wpTree_pure _ _ _ (by rfl) (by rfl) ?_
  dsimp only [List.filterMap, List.getElem?_cons_zero, List.getElem?_cons_succ]
  repeat (go_big_quiet_step (fail))
  refine wpQuiet_nil ?_
  refine wpTree_done ?_
  have HK := Lib.hid (And.intro hn5.drew (And.intro hp.drew (And.intro ha.drew (And.intro hb.drew (And.intro (hd5.near (Near.refl [] _).drew ⟨hX0 _, hX0 _, hX0 _⟩) (And.intro (hf5.near (Near.refl [] _).drew (fun g _ => hX0 g)) hN7.drew))))))
  have dp := hp.drew.at_ 0 (v := .pointer (some ⟨p.gd, 0, none⟩)) rfl
  generalize w5.drew = w6 at HK dp ⊢
  clear hgt hlt0 hq3 hn5 hp ha hb hd5 hN7 hd5c hf5 hq2
  go_wp2_with fail
  clear dp
  have hn0 := HB.out.1
  have hn := HB.out.2
  refine (change_all HK.out.2.2.2.2.1 HK.out.2.2.2.2.2.1 81 _ (fun d => d.put k b) callWr1 (fun w7 hd7 hn7 => ?_)).mono ?_
  · have hX : ∀ x, w.heap.size ≤ x → x ∉ p.gd :: gf.toList ∧ x ∉ [p.gl, p.gm] := fun x hx => by
      have h := hlt.out
      simp
      exact ⟨⟨by omega, fun e => by have := h.2 _ e; omega⟩, by omega, by omega⟩
    have hap := hd7.apart
    have hAA := HH.out.2.1
    obtain ⟨es7, c7, hd7c, ho7⟩ := hd7
    have hA1 : ∀ ad, A = some ad → ad.block ∉ p.gd :: gf.toList := fun ad e => by have h := hAA ad e; simp [Pl.all] at h ⊢; exact ⟨h.1, h.2.2.2⟩
    have hA2 : ∀ ad, A = some ad → ad.block ∉ [p.gl, p.gm] := fun ad e => by have h := hAA ad e; simp [Pl.all] at h ⊢; exact ⟨h.2.1, h.2.2.1⟩
    refine (write1_any (w.heap.size + 3) w.heap.size (w.heap.size + 1) (w.heap.size + 1 + 1) n k cap A b w7 (HK.out.1.near hn7 (hX _ (by omega)).1) (HK.out.2.1.near hn7 (hX _ (by omega)).1) (HK.out.2.2.1.near hn7 (hX _ (by omega)).1) (HK.out.2.2.2.1.near hn7 (hX _ (by omega)).1)
      (Bytes.near (Bytes.near HH.out.1 HK.out.2.2.2.2.2.2 (fun ad _ => hX0 _)) hn7 hA1) hA2 (by omega) HN.out.1 (by show k + n ≤ d.N; omega) HN.out.2.2.n2 HN.out.2.2.len
      hd7c ho7 ⟨(hX _ (by omega)).2, (hX _ (by omega)).2, (hX _ (by omega)).2, (hX _ (by omega)).2, by simp; exact ⟨hap.1, hap.2.1⟩, hap.2.2⟩).mono ?_
    rintro e w8 ⟨rfl, es', c', h1, h2, h4⟩
    exact ⟨rfl, ⟨es', c', h1, by show OldIs es' c' (oldW d.old d.L k (b.length / 256)); rw [← hn]; exact h2⟩, h4⟩
  · rintro e w8 ⟨rfl, h1, h2, h4⟩
    have HR := Lib.hid (And.intro h1 (And.intro h2 (show Near (p.all gf) w w8 from (HK.out.2.2.2.2.2.2.wider (fun x hx => by cases hx)).trans h4)))
    clear h1 h2 h4
    go_wp2
    go_ret
    exact ⟨rfl, HR.out⟩

theorem write_all (at_ : Int) (cap : Nat) (A : Option Addr) (b : List UInt8) (hby : Bytes w A b) (hA : ∀ ad, A = some ad → ad.block ∉ p.all gf) (hcap : b.length ≤ cap) (hbl : b.length ≤ 140737488355328) (hd : DskR w p gf d) (hok : d.Ok) (hf : FusR w gf f) :
    Calls Tryz.prog 34 #[.pointer (some ⟨p.gd, 0, none⟩), .int .i64 at_, .slice A b.length cap] w fun e w' => e = .returned (.int .i64 (d.write f at_ b).1) ∧ DskR w' p gf (d.write f at_ b).2.1 ∧ FusR w' gf (d.write f at_ b).2.2 ∧ Near (p.all gf) w w' := by
  by_cases hq : d.isOut f = true
  · rw [show d.write f at_ b = (11, d, f) from if_pos hq]; exact write_out at_ cap A b hby hA hcap hbl hd hok hf hq
  by_cases hn0 : b.length / 256 = 0
  · rw [show d.write f at_ b = (2, d, f) by unfold Dsk.write; rw [if_neg hq, if_pos (.inl hn0)]]; exact write_arg0 at_ cap A b hby hA hcap hbl hd hok hf hq hn0
  by_cases hn1 : b.length % 256 = 0
  case neg => rw [show d.write f at_ b = (2, d, f) by unfold Dsk.write; rw [if_neg hq, if_pos (.inr hn1)]]; exact write_arg1 at_ cap A b hby hA hcap hbl hd hok hf hq hn0 hn1
  by_cases hr : at_ < 0 ∨ (d.N : Int) - (b.length / 256 : Nat) < at_
  · rw [show d.write f at_ b = (5, d, f) by unfold Dsk.write; rw [if_neg hq, if_neg (by omega), if_pos hr]]; exact write_range at_ cap A b hby hA hcap hbl hd hok hf hq hn0 hn1 hr
  · rw [show d.write f at_ b = chg d f (fun d => d.put at_.toNat b) by unfold Dsk.write; rw [if_neg hq, if_neg (by omega), if_neg hr]]
    exact write_go at_ cap A b hby hA hcap hbl hd hok hf hq hn0 hn1 at_.toNat (by omega) (by omega)
end
end Go.Proofs.YtfoegmjpfkmggaaGreatDoor

/- append(s, x...) where the room suffices: in place. Plain facts over any program. Condition: the slice begins at its block's front. -/
namespace Go
open Go.RowKit
theorem wpList_append_room {P : Program} {w : World} {ops : Array Oper} {rest : List Oper} {o : Oper} {a : Act} {Q : Exit → Act → World → Prop} (hgd : o.guard = none) (s x : Operand) (t : TypeId)
    (ho : o.op = .call { callee := .builtin .append, args := #[s, x], argTypes := #[t, t] })
    (e : TypeId) (ht : P.underlying t = some (.slice e)) (hi : (P.info? e).map (fun i => (i.zero, i.size, i.bytes)) = some (some (.int .u8 0), 1, 1))
    (g n cap : Nat) (l sp : List UInt8) (hn : l.length = n) (hs : a.eval s = .slice (some ⟨g, 0, none⟩) n cap) (hg : Blk w g e ((l ++ sp).map u8v).toArray) (hcap : n + sp.length = cap)
    (A : Option Addr) (m c : Nat) (xs : List UInt8) (hm : xs.length = m) (hx : a.eval x = .slice A m c) (hr : Bytes w A xs) (hroom : m ≤ sp.length)
    (h : ∀ w', Blk w' g e ((l ++ (xs ++ sp.drop m)).map u8v).toArray → Upd g w w' → wpList P ops Q rest (a.put o.dst (.slice (some ⟨g, 0, none⟩) (n + m) cap)) w') : wpList P ops Q (o :: rest) a w := by
  subst hn hm
  refine wpList_plain hgd fun _ hK => ?_
  obtain ⟨i, hi0, hz, hsize, hby⟩ := info_parts hi
  rcases Nat.eq_zero_or_pos xs.length with h0 | h0
  · obtain rfl : xs = [] := List.eq_nil_of_length_eq_zero h0
    have hrun : (Builtin.append_ #[t, t] o.type #[.slice (some ⟨g, 0, none⟩) l.length cap, .slice A 0 c]).run P w = .ok (.slice (some ⟨g, 0, none⟩) l.length cap) w := by
      have hf : ∀ (s : Nat), (Builtin.firstCells s 0 (.slice A 0 c)).run P w = .ok #[] w := fun s => by
        cases A <;> simp [Builtin.firstCells, loadCells, loadCellsFrom]
      have hle : l.length ≤ cap := by omega
      simp [Builtin.append_, run_underlying ht, sizeOf, typeInfo, hi0, Builtin.lenOf, hf, hle, storeCells]
    unfold Oper.wp execOp
    simp only [List.length_nil] at hx
    simp only [ho, resolve, invoke, builtin, Sem.run_bind, Sem.run_pure, Result.andThen_ok, List.map_toArray, List.map_cons, List.map_nil, hs, hx, hrun]
    exact hK _ _ (h w (by simpa using hg) (Upd.refl g w))
  · have hne : xs.map u8v ≠ [] := by intro e; simp at e; rw [e] at h0; simp at h0
    obtain ⟨b, off, rfl, hc⟩ := hr hne
    have hrun := run_append_room (P := P) w t o.type e i ht hi0 g l.length cap ((l ++ sp).map u8v).toArray hg ⟨b, off, none⟩ xs.length c (xs.map u8v) (by simp [hsize]) (fun j u hu => by rw [Addr.add_lit]; exact hc j u hu) (u8v_one xs) (by omega) (by rw [hsize]; simp; omega)
    unfold Oper.wp execOp
    simp only [ho, resolve, invoke, builtin, Sem.run_bind, Sem.run_pure, Result.andThen_ok, List.map_toArray, List.map_cons, List.map_nil, hs, hx]
    rw [hrun]
    refine hK _ _ (h _ ((Blk.setRow hg _).sub ?_) (Upd.setRow _ _ _))
    simp [hsize, List.drop_append]
end Go

/- Read, of a disk that is ready. Conditions: it is ready; the sectors are there. -/
namespace Go.Proofs.YtfoegmjpfkmggaaGreatDoor
open Go.RowKit
section
variable {gd gl gm N c : Nat} {L : List UInt8} {es : Array MapEntry} {out : Bool} {fz : Option Nat} {ops : Int}
def RdRel (w : World) (at_ n : Nat) (L : List UInt8) (v9 v56 : Value) (wr : World) : Prop :=
  ∃ i, i ≤ n ∧ v9 = .slice (some ⟨w.heap.size, 0, none⟩) (256 * i) (256 * n) ∧ v56 = .int .i64 (i : Int) ∧ Blk wr w.heap.size 5 ((((L.drop (256 * at_)).take (256 * i)) ++ List.replicate (256 * (n - i)) 0).map u8v).toArray ∧ Below w.heap.size w wr
theorem sec_snoc (at_ i : Nat) : (L.drop (256 * at_)).take (256 * (i + 1)) = (L.drop (256 * at_)).take (256 * i) ++ sec L (at_ + i) := by
  unfold sec
  rw [Nat.mul_add 256 i, Nat.mul_one, List.take_add, List.drop_drop, Nat.mul_add]
theorem rdRel_step {w w7 : World} {at_ n i : Nat} (hlt : i + 1 ≤ n) (h7 : Blk w7 w.heap.size 5 ((((L.drop (256 * at_)).take (256 * i)) ++ (sec L (at_ + i) ++ (List.replicate (256 * (n - i)) 0).drop 256)).map u8v).toArray) (hB : Below w.heap.size w w7) :
    RdRel w at_ n L (.slice (some ⟨w.heap.size, 0, none⟩) (256 * i + 256) (256 * n)) (.int .i64 ((i + 1 : Nat) : Int)) w7 := by
  refine ⟨i + 1, hlt, by rw [Nat.mul_add, Nat.mul_one], rfl, ?_, hB⟩
  rw [sec_snoc, List.append_assoc]
  rw [List.drop_replicate, show 256 * (n - i) - 256 = 256 * (n - (i + 1)) by omega] at h7
  exact h7
set_option maxRecDepth 100000 in
set_option maxHeartbeats 4000000 in
theorem read_any (at_ n : Nat) (w : World) (hd : DiskB w gd gl gm N L es c out fz ops) (hr : Calls Tryz.prog 79 #[.pointer (some ⟨gd, 0, none⟩)] w fun e w' => e = .returned (.int .i64 0) ∧ w' = w) (hn : 1 ≤ n) (hat : at_ + n ≤ N) (hN : N ≤ 65536) (hL : L.length = N * 256) :
    Calls Tryz.prog 39 #[.pointer (some ⟨gd, 0, none⟩), .int .i64 (at_ : Int), .int .i64 (n : Int)] w fun e w' => ∃ g, e = .returned (.tuple #[.slice (some ⟨g, 0, none⟩) (256 * n) (256 * n), .int .i64 0]) ∧
      Blk w' g 5 (((L.drop (256 * at_)).take (256 * n)).map u8v).toArray ∧ Below w.heap.size w w' ∧ w.heap.size ≤ g := by
  have HN := Lib.hid (And.intro hat (And.intro hN (And.intro hL hn)))
  have d0 := hd.1.at_ 0 (v := .slice (some ⟨gl, 0, none⟩) N N) rfl
  have hc1 : decide ((n : Int) < 0) = false := by simp
  have hc2 : decide ((at_ : Int) < 0) = false := by simp
  have hc3 : decide (N < at_) = false := by simp; omega
  have hc5 : wrap64 ((n : Int) * 256) = ((256 * n : Nat) : Int) := by unfold wrap64; omega
  have hc4 : decide (wrap64 ((N : Int) - (at_ : Int)) < (n : Int)) = false := by rw [show wrap64 ((N : Int) - (at_ : Int)) = (N : Int) - at_ by unfold wrap64; omega]; simp; omega
  have hne : ¬ N = at_ := by omega
  have HD := Lib.hid hd
  clear hn hat hN hL
  go_enter Tryz.func39, Tryz.ntmps39
  go_wp2_with fail
  refine hr.mono ?_
  rintro e w4 ⟨rfl, hw⟩
  obtain rfl := hw.symm
  clear hw hr
  go_wp2_with (first
    | ((with_reducible show wpList _ _ _ ((⟨some 45, _, _, _, _, _⟩ : Oper) :: _) _ _); refine wpList_make_bytes (o := ⟨some 45, _, _, _, _, _⟩) _ (by rfl) _ _ _ (by rfl) _ Tryz.underlying39 u8info .i64 .i64 _ _ 0 (256 * n) (by rfl) (by rfl) (by rfl) (by omega) (by omega) (by have := HN.out; omega) ?_; intro w5 h5 hb5 hs5; have d05 := (hd.1.below hb5 hd.1.lt).at_ 0 (v := .slice (some ⟨gl, 0, none⟩) N N) rfl; have hat5 : at_ + n ≤ N := HN.out.1; have hc6 : wrap64 ((at_ : Int) + (n : Int)) = ((at_ + n : Nat) : Int) := by have := HN.out; unfold wrap64; omega)
    | fail)
  have hS : RdRel w at_ n L (.slice (some ⟨w.heap.size, 0, none⟩) 0 (256 * n)) (.int .i64 0) w5 := ⟨0, Nat.zero_le _, rfl, rfl, by simpa using h5, hb5⟩
  clear d0 hc1 hc2 hc3 hc4 hc5 hc6 hne h5 hb5 hs5 d05 hat5 hd
  simp only [Nat.add_sub_cancel_left]
  go_loopw [9, 56] (fun v9 v56 wr => RdRel w at_ n L v9 v56 wr) (fun _ v _ => n - (intOf v).toNat)
  case atStart => exact hS
  case round =>
    clear hS
    obtain ⟨i, hi, rfl, rfl, hg, hB⟩ := hrel
    by_cases hlt : i < n
    case neg =>
      obtain rfl : i = n := by omega
      rw [Nat.sub_self, Nat.mul_zero, List.replicate_zero, List.append_nil] at hg
      have HR := Lib.hid (And.intro hg hB)
      clear hg hB hi hlt
      go_wp2
      go_ret2
      exact ⟨_, rfl, HR.out.1, HR.out.2, Nat.le_refl _⟩
    have aS := allocSec
    have hib : i < 65536 := by have := HN.out; omega
    have hib2 : wrap64 ((i : Int) + 1) = ((i + 1 : Nat) : Int) := by unfold wrap64; omega
    have HG := Lib.hid (And.intro hg hB)
    clear hg hB
    have hdr := HD.out.below HG.out.2
    have hrd : wr.rangeAt gl (at_ * 256 + i * 256) ((sec L (at_ + i)).map u8v) := by rw [← Nat.add_mul]; exact sec_mid' wr hdr.2.1 (at_ + i) (by have := HN.out; omega)
    have hsl : (sec L (at_ + i)).length = 256 := sec_length _ (by have := HN.out; omega)
    have hz := (Blk.new wr 102 zeroSec).sub zeroSec_list
    have hbz := (Below.refl wr.heap.size wr).alloc (Nat.le_refl _) (.cells zeroSec 102)
    clear hdr
    go_wp2_with (first
      | ((with_reducible show wpList _ _ _ ((⟨some 59, _, _, _, _, _⟩ : Oper) :: _) _ _); refine wpList_load_mid (o := ⟨some 59, _, _, _, _, _⟩) hrd (by rfl) _ _ (by rfl) (by rfl) _ Tryz.underlying102 (by rfl) sizeSec (by rw [List.length_map]; exact hsl) ?_)
      | ((with_reducible show wpList _ _ _ ((⟨none, _, _, _, _, _⟩ : Oper) :: _) _ _); refine wpList_store_blk (o := ⟨none, _, _, _, _, _⟩) (hz) (by rfl) _ _ _ (by rfl) (by rfl) (((sec L (at_ + i)).map u8v).toArray) (by rfl) (sizeSec) (by simp) (by rw [List.size_toArray, List.length_map]; exact hsl) (sec_one _) ?_; intro w6 h6 hu6; have hg6 := (HG.out.1.below hbz HG.out.1.lt).upd hu6 (Nat.ne_of_lt HG.out.1.lt); have hB6 := HG.out.2.trans ((hbz.upd hu6 (Nat.le_refl _)).mono HG.out.2.size); have hby6 := h6.bytes; clear HG hrd hz hbz h6 hu6)
      | ((with_reducible show wpList _ _ _ ((⟨some 62, _, _, _, _, _⟩ : Oper) :: _) _ _); refine wpList_append_room (o := ⟨some 62, _, _, _, _, _⟩) (by rfl) _ _ _ (by rfl) _ Tryz.underlying39 u8info w.heap.size (256 * i) (256 * n) ((L.drop (256 * at_)).take (256 * i)) (List.replicate (256 * (n - i)) 0) (by rw [List.length_take, List.length_drop]; have := HN.out; omega) (by rfl) hg6 (by rw [List.length_replicate]; omega) (some ⟨wr.heap.size, 0, none⟩) 256 256 (sec L (at_ + i)) hsl (by rfl) hby6 (by rw [List.length_replicate]; omega) ?_; intro w7 h7 hu7; have HE := Lib.hid (show RdRel w at_ n L (.slice (some ⟨w.heap.size, 0, none⟩) (256 * i + 256) (256 * n)) (.int .i64 ((i + 1 : Nat) : Int)) w7 from rdRel_step (by omega) h7 (hB6.upd hu7 (Nat.le_refl _))); clear hg6 hB6 hby6 h7 hu7)
      | fail)
    go_roundw
    case rel => exact HE.out
    case measure => simp [intOf]; omega
end
end Go.Proofs.YtfoegmjpfkmggaaGreatDoor

/- Read, of a disk that was made, in all cases. Conditions: the disk is whole. -/
namespace Go.Proofs.YtfoegmjpfkmggaaGreatDoor
open Go.RowKit
section
variable {w w' : World} {p : Pl} {gf : Option Nat} {d : Dsk} {f : Option Fus}
set_option maxRecDepth 100000 in
set_option maxHeartbeats 4000000 in
theorem read_out (at_ n : Int) (hd : DskR w p gf d) (hf : FusR w gf f) (hq : d.isOut f = true) :
    Calls Tryz.prog 39 #[.pointer (some ⟨p.gd, 0, none⟩), .int .i64 at_, .int .i64 n] w fun e w' => e = .returned (.tuple #[.slice none 0 0, .int .i64 11]) ∧ w' = w := by
  go_enter Tryz.func39, Tryz.ntmps39
  go_wp2_with fail
  refine (ready_all hd hf).mono ?_
  rintro e w4 ⟨rfl, hw⟩
  obtain rfl := hw.symm
  rw [if_pos hq]
  clear hw hd hf hq
  go_wp2
  go_ret2
  exact ⟨rfl, rfl⟩
set_option maxRecDepth 100000 in
set_option maxHeartbeats 4000000 in
theorem read_range (at_ n : Int) (hd : DskR w p gf d) (hf : FusR w gf f) (hok : d.Ok) (hq : ¬ d.isOut f = true) (hr : n < 0 ∨ at_ < 0 ∨ (d.N : Int) < at_ ∨ (d.N : Int) - at_ < n) :
    Calls Tryz.prog 39 #[.pointer (some ⟨p.gd, 0, none⟩), .int .i64 at_, .int .i64 n] w fun e w' => e = .returned (.tuple #[.slice none 0 0, .int .i64 5]) ∧ w' = w := by
  have hN := hok.n2
  have hrd := ready_all hd hf
  rw [if_neg hq] at hrd
  obtain ⟨es, c, hdc, -⟩ := hd
  have d0 := hdc.1.at_ 0 (v := .slice (some ⟨p.gl, 0, none⟩) d.N d.N) rfl
  have HR := Lib.hid (And.intro hr hN)
  clear hq hf hok hdc hr hN
  obtain ⟨b1, hb1⟩ : ∃ b, b = decide (n < 0) := ⟨_, rfl⟩
  obtain ⟨b2, hb2⟩ : ∃ b, b = decide (at_ < 0) := ⟨_, rfl⟩
  obtain ⟨b3, hb3⟩ : ∃ b, b = decide ((d.N : Int) < at_) := ⟨_, rfl⟩
  obtain ⟨b4, hb4⟩ : ∃ b, b = decide (wrap64 ((d.N : Int) - at_) < n) := ⟨_, rfl⟩
  have hor : b1 = true ∨ b2 = true ∨ b3 = true ∨ b4 = true := by
    have h := HR.out
    subst hb1 hb2 hb3 hb4
    simp only [decide_eq_true_eq]
    by_cases h1 : n < 0
    · exact .inl h1
    by_cases h2 : at_ < 0
    · exact .inr (.inl h2)
    by_cases h3 : (d.N : Int) < at_
    · exact .inr (.inr (.inl h3))
    · exact .inr (.inr (.inr (by rw [show wrap64 ((d.N : Int) - at_) = (d.N : Int) - at_ by unfold wrap64; omega]; omega)))
  have HB := Lib.hid hor
  clear hor HR
  replace hb1 := hb1.symm
  replace hb2 := hb2.symm
  replace hb3 := hb3.symm
  replace hb4 := hb4.symm
  cases b1 <;> cases b2 <;> cases b3 <;> cases b4
  case false.false.false.false => exact absurd HB.out (by simp)
  all_goals
    clear HB
    go_enter Tryz.func39, Tryz.ntmps39
    go_wp2_with fail
    refine hrd.mono ?_
    rintro e w4 ⟨rfl, hw⟩
    obtain rfl := hw.symm
    clear hw hrd
    go_wp2
    go_ret2
    exact ⟨rfl, rfl⟩
set_option maxRecDepth 100000 in
set_option maxHeartbeats 4000000 in
theorem read_nil (at_ : Nat) (hd : DskR w p gf d) (hf : FusR w gf f) (hok : d.Ok) (hq : ¬ d.isOut f = true) (hat : at_ ≤ d.N) :
    Calls Tryz.prog 39 #[.pointer (some ⟨p.gd, 0, none⟩), .int .i64 (at_ : Int), .int .i64 0] w fun e w' => ∃ g, e = .returned (.tuple #[.slice (some ⟨g, 0, none⟩) 0 0, .int .i64 0]) ∧
      Blk w' g 5 ((([] : List UInt8)).map u8v).toArray ∧ Below w.heap.size w w' ∧ w.heap.size ≤ g := by
  have hN := hok.n2
  have hrd := ready_all hd hf
  rw [if_neg hq] at hrd
  obtain ⟨es, c, hdc, -⟩ := hd
  have d0 := hdc.1.at_ 0 (v := .slice (some ⟨p.gl, 0, none⟩) d.N d.N) rfl
  have hc2 : decide ((at_ : Int) < 0) = false := by simp
  have hc3 : decide (d.N < at_) = false := by simp; omega
  have hc4 : decide (wrap64 ((d.N : Int) - (at_ : Int)) < 0) = false := by rw [show wrap64 ((d.N : Int) - (at_ : Int)) = (d.N : Int) - at_ by unfold wrap64; omega]; simp; omega
  have HN := Lib.hid (And.intro hat hN)
  have hc7 : wrap64 (at_ : Int) = (at_ : Int) := by unfold wrap64; omega
  clear hq hf hok hat hN
  by_cases hne : d.N = at_
  case' neg => have hne2 : ¬ at_ = d.N := fun e => hne e.symm
  all_goals
    try rw [hne] at d0 hc3 hc4
    go_enter Tryz.func39, Tryz.ntmps39
    go_wp2_with fail
    refine hrd.mono ?_
    rintro e w4 ⟨rfl, hw⟩
    obtain rfl := hw.symm
    clear hw hrd
    go_wp2_with (first
      | ((with_reducible show wpList _ _ _ ((⟨some 45, _, _, _, _, _⟩ : Oper) :: _) _ _); refine wpList_make_bytes (o := ⟨some 45, _, _, _, _, _⟩) _ (by rfl) _ _ _ (by rfl) _ Tryz.underlying39 u8info .i64 .i64 _ _ 0 0 (by rfl) (by rfl) (by rfl) (by omega) (by omega) (by omega) ?_; intro w5 h5 hb5 hs5; have d05 := (hdc.1.below hb5 hdc.1.lt).at_ 0 (v := .slice (some ⟨p.gl, 0, none⟩) d.N d.N) rfl; (try rw [hne] at d05); have HE := Lib.hid (And.intro h5 hb5); have hat5 := HN.out.1; clear h5 hb5 hs5 hdc d0)
      | fail)
    try simp only [Int.sub_self, Nat.sub_self, Nat.add_sub_cancel_left]
    clear hc2 hc3 hc4
    go_loopw [9, 56] (fun v9 v wr => v9 = .slice (some ⟨w.heap.size, 0, none⟩) 0 0 ∧ v = .int .i64 0 ∧ wr = w5) (fun _ _ _ => 0)
    case atStart => exact ⟨rfl, rfl, rfl⟩
    case round =>
      obtain ⟨rfl, rfl, rfl⟩ := hrel
      clear d05
      go_wp2
      go_ret2
      exact ⟨_, rfl, HE.out.1, HE.out.2, Nat.le_refl _⟩
theorem read_all (at_ n : Int) (hd : DskR w p gf d) (hf : FusR w gf f) (hok : d.Ok) :
    Calls Tryz.prog 39 #[.pointer (some ⟨p.gd, 0, none⟩), .int .i64 at_, .int .i64 n] w fun e w' => ∃ A, e = .returned (.tuple #[.slice A (d.read f at_ n).1.length (d.read f at_ n).1.length, .int .i64 (d.read f at_ n).2]) ∧
      ((d.read f at_ n).2 = 0 ∧ (∃ g, A = some ⟨g, 0, none⟩ ∧ w.heap.size ≤ g ∧ Blk w' g 5 ((d.read f at_ n).1.map u8v).toArray) ∨ (d.read f at_ n).2 ≠ 0 ∧ A = none ∧ (d.read f at_ n).1 = []) ∧ Below w.heap.size w w' := by
  by_cases hq : d.isOut f = true
  · rw [show d.read f at_ n = ([], 11) from if_pos hq]
    refine (read_out at_ n hd hf hq).mono ?_
    rintro e w' ⟨rfl, rfl⟩
    exact ⟨none, rfl, .inr ⟨by decide, rfl, rfl⟩, Below.refl _ _⟩
  by_cases hr : n < 0 ∨ at_ < 0 ∨ (d.N : Int) < at_ ∨ (d.N : Int) - at_ < n
  · rw [show d.read f at_ n = ([], 5) by unfold Dsk.read; rw [if_neg hq, if_pos hr]]
    refine (read_range at_ n hd hf hok hq hr).mono ?_
    rintro e w' ⟨rfl, rfl⟩
    exact ⟨none, rfl, .inr ⟨by decide, rfl, rfl⟩, Below.refl _ _⟩
  rw [show d.read f at_ n = ((d.L.drop (256 * at_.toNat)).take (256 * n.toNat), 0) by unfold Dsk.read; rw [if_neg hq, if_neg hr]]
  obtain ⟨a, rfl⟩ : ∃ a : Nat, at_ = (a : Int) := ⟨at_.toNat, by omega⟩
  obtain ⟨m, rfl⟩ : ∃ m : Nat, n = (m : Int) := ⟨n.toNat, by omega⟩
  rw [Int.toNat_natCast, Int.toNat_natCast]
  have hlen : ((d.L.drop (256 * a)).take (256 * m)).length = 256 * m := by rw [List.length_take, List.length_drop, hok.len]; omega
  rw [hlen]
  by_cases hm : m = 0
  · subst hm
    refine (read_nil a hd hf hok hq (by omega)).mono ?_
    rintro e w' ⟨g, rfl, h1, h2, h3⟩
    exact ⟨_, rfl, .inl ⟨rfl, g, rfl, h3, h1⟩, h2⟩
  · have hrd := ready_all hd hf
    rw [if_neg hq] at hrd
    obtain ⟨es, c, hdc, -⟩ := hd
    refine (read_any a m w hdc hrd (by omega) (by omega) hok.n2 hok.len).mono ?_
    rintro e w' ⟨g, rfl, h1, h2, h3⟩
    exact ⟨_, rfl, .inl ⟨rfl, g, rfl, h3, h1⟩, h2⟩
end
end Go.Proofs.YtfoegmjpfkmggaaGreatDoor

/- What a disk that is nil, or that nobody made, answers. No condition. -/
namespace Go.Proofs.YtfoegmjpfkmggaaGreatDoor
open Go.RowKit
/-- A disk that is nil, or that nobody made. -/
def NoDisk (D : Option Addr) (w : World) : Prop := D = none ∨ ∃ g, D = some ⟨g, 0, none⟩ ∧ Blk w g 100 noDisk
theorem NoDisk.near {D : Option Addr} {w w' : World} (h : NoDisk D w) (k : Near [] w w') : NoDisk D w' := by
  rcases h with rfl | ⟨g, rfl, h⟩
  · exact .inl rfl
  · exact .inr ⟨g, rfl, h.near k (fun x => by cases x)⟩
section
variable (D : Option Addr) (w : World) (h : NoDisk D w)
include h
end
end Go.Proofs.YtfoegmjpfkmggaaGreatDoor

/- Turn, of a place that is there. Conditions: the sector and the place in it are there. -/
namespace Go.Proofs.YtfoegmjpfkmggaaGreatDoor
open Go.RowKit
section
variable {gd gl gm N c : Nat} {L : List UInt8} {es : Array MapEntry} {out : Bool} {fz : Option Nat} {ops : Int}
theorem cell_set {k : Nat} (x : UInt8) : (L.map u8v).toArray.setIfInBounds k (u8v x) = ((L.set k x).map u8v).toArray := by simp [List.map_set]
set_option maxRecDepth 100000 in
set_option maxHeartbeats 4000000 in
theorem turn_any (s a : Nat) (m : UInt8) (w : World) (hd : DiskB w gd gl gm N L es c out fz ops) (hs : s < N) (ha : a < 256) (hL : L.length = N * 256) (hX : gd ≠ gl ∧ gd ≠ gm ∧ gl ≠ gm) :
    Calls Tryz.prog 12 #[.pointer (some ⟨gd, 0, none⟩), .int .i64 (s : Int), .int .i64 (a : Int), .int .u8 (iu8 m)] w fun e w' => e = .returned (.int .i64 0) ∧ DiskB w' gd gl gm N (L.set (s * 256 + a) (L.getD (s * 256 + a) 0 ^^^ m)) es c out fz ops ∧ Near [gl] w w' := by
  have hlt : s * 256 + a < L.length := by omega
  obtain ⟨x, hx⟩ : ∃ x, x = L.getD (s * 256 + a) 0 := ⟨_, rfl⟩
  have hgx : L[s * 256 + a]? = some x := by rw [hx, List.getD_eq_getElem?_getD, List.getElem?_eq_getElem hlt]; rfl
  have dc : (L.map u8v).toArray[s * 256 + a]? = some (.int .u8 (iu8 x)) := by rw [List.getElem?_toArray, List.getElem?_map, hgx]; rfl
  rw [← hx]
  have HH := Lib.hid (And.intro hd (And.intro hX dc))
  have hc1 : decide ((s : Int) < 0) = false := by simp
  have hc2 : decide (N ≤ s) = false := by simp; omega
  have hc3 : decide ((a : Int) < 0) = false := by simp
  have hc4 : decide (256 ≤ a) = false := by simp; omega
  have d0 := hd.1.at_ 0 (v := .slice (some ⟨gl, 0, none⟩) N N) rfl
  have hX0 : ∀ g, g ∉ ([] : List Nat) := fun g h => by cases h
  clear hd hlt hgx hx dc hX hL
  go_enter Tryz.func12, Tryz.ntmps12
  go_wp2_with fail
  refine (none_made w HH.out.1).mono ?_
  rintro e w1 ⟨rfl, hw⟩
  obtain rfl := hw.symm
  clear hw
  go_wp2_with fail
  refine wp_region_tree (Near [gl] w) [] (PlanT.takes [0, 1, 2, 4, 5, 9] (PlanT.takes [3] (PlanT.takes [6, 7, 11] (.opt 8 (PlanT.takes [10, 12] (.opt 13 .done .no)) .no)))) (by kernel_rfl) (by kernel_rfl) ((Near.refl _ _).drew) ?_
  refine wpTree_pure _ _ _ (by rfl) (by rfl) ?_
  dsimp only [List.filterMap, List.getElem?_cons_zero, List.getElem?_cons_succ]
  repeat (go_big_quiet_step (fail))
  refine wpQuiet_nil ?_
  refine wpTree_takeL _ _ _ (by rfl) (by rfl) ((Near.refl _ _).drew) ?_
  dsimp only [List.filterMap, List.getElem?_cons_zero, List.getElem?_cons_succ]
  (refine wpQuiet_load_cell (fun w' hw' => (Blk.near HH.out.1.1 hw' (by simp; exact HH.out.2.1.1)).at_ 0 (v := .slice (some ⟨gl, 0, none⟩) N N) rfl) (by rfl) _ _ (by rfl) (by rfl) _ Tryz.underlying96 (by rfl) ?_; simp only [Act.put, List.setIfInBounds_toArray, List.set_cons_zero, List.set_cons_succ])
  refine wpQuiet_nil ?_
  refine wpTree_pure _ _ _ (by rfl) (by rfl) ?_
  dsimp only [List.filterMap, List.getElem?_cons_zero, List.getElem?_cons_succ]
  repeat (go_big_quiet_step (fail))
  refine wpQuiet_nil ?_
  refine wpTree_one _ rfl ?_
  have dg := HH.out.1.2.1.at_ (s * 256 + a) (v := .int .u8 (iu8 x)) HH.out.2.2
  have fg := HH.out.1.2.1.frozen (s * 256 + a)
  go_wp2_with fail
  refine TreeQ.in_ ((Near.refl _ _).drew) ?_
  refine wpTree_pure _ _ _ (by rfl) (by rfl) ?_
  dsimp only [List.filterMap, List.getElem?_cons_zero, List.getElem?_cons_succ]
  repeat (go_big_quiet_step (fail))
  refine wpQuiet_nil ?_
  refine wpTree_one _ rfl ?_
  go_wp2_with fail
  clear dg fg d0 hc1 hc2 hc3 hc4
  rw [u8_xor_w]
  have hB : DiskB (w.setCell ⟨gl, s * 256 + a, none⟩ (.int .u8 (iu8 (x ^^^ m)))).drew gd gl gm N (L.set (s * 256 + a) (x ^^^ m)) es c out fz ops :=
    ⟨(HH.out.1.1.off HH.out.2.1.1 _).drew, ((HH.out.1.2.1.set_ (s * 256 + a) (.int .u8 (iu8 (x ^^^ m)))).sub (cell_set _)).drew, (HH.out.1.2.2.upd ((Upd.refl gl w).set (s * 256 + a) _) (fun e => HH.out.2.1.2.2 e.symm)).drew⟩
  have hnr : Near [gl] w (w.setCell ⟨gl, s * 256 + a, none⟩ (.int .u8 (iu8 (x ^^^ m)))).drew := (Near.upd ((Upd.refl gl w).set (s * 256 + a) _) (List.mem_singleton.2 rfl)).drew
  generalize (w.setCell ⟨gl, s * 256 + a, none⟩ (.int .u8 (iu8 (x ^^^ m)))).drew = w9 at hB hnr ⊢
  have HR := Lib.hid (And.intro hB hnr)
  refine TreeQ.in_ hnr ?_
  clear hB hnr
  refine wpTree_done ?_
  go_wp2
  go_ret
  exact ⟨rfl, HR.out⟩
end
end Go.Proofs.YtfoegmjpfkmggaaGreatDoor

/- Turn, Ops, of a disk that was made, in all cases. Conditions: the disk is whole. -/
namespace Go.Proofs.YtfoegmjpfkmggaaGreatDoor
open Go.RowKit
section
variable {w w' : World} {p : Pl} {gf : Option Nat} {d : Dsk} {f : Option Fus}
set_option maxRecDepth 100000 in
set_option maxHeartbeats 4000000 in
theorem turn_range (s a : Int) (m : Int) (hd : DskR w p gf d) (hr : s < 0 ∨ (d.N : Int) ≤ s ∨ a < 0 ∨ 256 ≤ a) :
    Calls Tryz.prog 12 #[.pointer (some ⟨p.gd, 0, none⟩), .int .i64 s, .int .i64 a, .int .u8 m] w fun e w' => e = .returned (.int .i64 5) ∧ w' = w := by
  obtain ⟨es, c, hdc, -⟩ := hd
  have hrd := none_made w hdc
  have d0 := hdc.1.at_ 0 (v := .slice (some ⟨p.gl, 0, none⟩) d.N d.N) rfl
  have HR := Lib.hid hr
  clear hdc hr
  obtain ⟨b1, hb1⟩ : ∃ b, b = decide (s < 0) := ⟨_, rfl⟩
  obtain ⟨b2, hb2⟩ : ∃ b, b = decide ((d.N : Int) ≤ s) := ⟨_, rfl⟩
  obtain ⟨b3, hb3⟩ : ∃ b, b = decide (a < 0) := ⟨_, rfl⟩
  obtain ⟨b4, hb4⟩ : ∃ b, b = decide (256 ≤ a) := ⟨_, rfl⟩
  have hor : b1 = true ∨ b2 = true ∨ b3 = true ∨ b4 = true := by
    have h := HR.out
    subst hb1 hb2 hb3 hb4
    simpa only [decide_eq_true_eq] using h
  have HB := Lib.hid hor
  clear hor HR
  replace hb1 := hb1.symm
  replace hb2 := hb2.symm
  replace hb3 := hb3.symm
  replace hb4 := hb4.symm
  cases b1 <;> cases b2 <;> cases b3 <;> cases b4
  case false.false.false.false => exact absurd HB.out (by simp)
  all_goals
    clear HB
    go_enter Tryz.func12, Tryz.ntmps12
    go_wp2_with fail
    refine hrd.mono ?_
    rintro e w4 ⟨rfl, hw⟩
    obtain rfl := hw.symm
    clear hw hrd
    go_wp2
    go_ret
    exact ⟨rfl, rfl⟩
theorem turn_all (s a : Int) (m : UInt8) (hd : DskR w p gf d) (hok : d.Ok) :
    Calls Tryz.prog 12 #[.pointer (some ⟨p.gd, 0, none⟩), .int .i64 s, .int .i64 a, .int .u8 (iu8 m)] w fun e w' => e = .returned (.int .i64 (d.turn s a m).1) ∧ DskR w' p gf (d.turn s a m).2 ∧ Near [p.gl] w w' := by
  by_cases hr : s < 0 ∨ (d.N : Int) ≤ s ∨ a < 0 ∨ 256 ≤ a
  · rw [show d.turn s a m = (5, d) from if_pos hr]
    refine (turn_range s a (iu8 m) hd hr).mono ?_
    rintro e w' ⟨rfl, rfl⟩
    exact ⟨rfl, hd, Near.refl _ _⟩
  · rw [show d.turn s a m = (0, { d with L := d.L.set (s.toNat * 256 + a.toNat) (d.L.getD (s.toNat * 256 + a.toNat) 0 ^^^ m) }) from if_neg hr]
    obtain ⟨x, rfl⟩ : ∃ x : Nat, s = (x : Int) := ⟨s.toNat, by omega⟩
    obtain ⟨y, rfl⟩ : ∃ y : Nat, a = (y : Int) := ⟨a.toNat, by omega⟩
    rw [Int.toNat_natCast, Int.toNat_natCast]
    have hap := hd.apart
    obtain ⟨es, c, hdc, ho⟩ := hd
    refine (turn_any x y m w hdc (by omega) (by omega) hok.len hap).mono ?_
    rintro e w' ⟨rfl, h1, h2⟩
    exact ⟨rfl, ⟨es, c, h1, ho⟩, h2⟩
end
end Go.Proofs.YtfoegmjpfkmggaaGreatDoor

/- A disk that is known; what calls that change it leave. Conditions: the disk is known. -/
namespace Go.Proofs.YtfoegmjpfkmggaaGreatDoor
open Go.RowKit
/-- A disk, known. -/
structure DkOk (w : World) (p : Pl) (gf : Option Nat) (d : Dsk) (f : Option Fus) : Prop where
  dr : DskR w p gf d
  fr : FusR w gf f
  ok : d.Ok
theorem DkOk.near {w w' : World} {p : Pl} {gf : Option Nat} {d : Dsk} {f : Option Fus} (h : DkOk w p gf d f) (k : Near [] w w') : DkOk w' p gf d f := ⟨h.dr.near k ⟨by simp, by simp, by simp⟩, h.fr.near k (fun _ _ => by simp), h.ok⟩
/-- What a call that changes the disk leaves. -/
def DkPost (w : World) (p : Pl) (gf : Option Nat) (r : Int × Dsk × Option Fus) (e : Ending) (w' : World) : Prop := e = .returned (.int .i64 r.1) ∧ DkOk w' p gf r.2.1 r.2.2 ∧ Near (p.all gf) w w'
theorem DkOk.lt {w : World} {p : Pl} {gf : Option Nat} {d : Dsk} {f : Option Fus} (h : DkOk w p gf d f) : ∀ x ∈ p.all gf, x < w.heap.size := fun x hx => by
  obtain ⟨h1, h2, h3⟩ := h.dr.lt
  unfold Pl.all at hx
  simp only [List.cons_append, List.nil_append, List.mem_cons, Option.mem_toList] at hx
  rcases hx with rfl | rfl | rfl | hx
  · exact h1
  · exact h2
  · exact h3
  · exact h.fr.lt hx
theorem write_ok' (at_ : Int) (n cap : Nat) (A : Option Addr) (b : List UInt8) (w : World) {p : Pl} {gf : Option Nat} {d : Dsk} {f : Option Fus} (hn : n = b.length) (hby : Bytes w A b) (hA : ∀ ad, A = some ad → ad.block ∉ p.all gf) (hcap : b.length ≤ cap) (hbl : b.length ≤ 140737488355328) (h : DkOk w p gf d f) :
    Calls Tryz.prog 34 #[.pointer (some ⟨p.gd, 0, none⟩), .int .i64 at_, .slice A n cap] w (DkPost w p gf (d.write f at_ b)) := by
  subst hn
  exact (write_all at_ cap A b hby hA hcap hbl h.dr h.ok h.fr).mono fun e w' ⟨h1, h2, h3, h4⟩ => ⟨h1, ⟨h2, h3, Dsk.write_ok h.ok⟩, h4⟩
theorem flush_ok' (w : World) {p : Pl} {gf : Option Nat} {d : Dsk} {f : Option Fus} (h : DkOk w p gf d f) : Calls Tryz.prog 36 #[.pointer (some ⟨p.gd, 0, none⟩)] w (DkPost w p gf (d.flush f)) :=
  (flush_all h.dr h.fr).mono fun _ _ ⟨h1, h2, h3, h4⟩ => ⟨h1, ⟨h2, h3, Dsk.flush_ok h.ok⟩, h4⟩
end Go.Proofs.YtfoegmjpfkmggaaGreatDoor

/- Sets of blocks as plain lists: 0 free, 1 taken, 2 let go; the words that hold one. Plain facts. Conditions: at most 512 blocks, each 0, 1 or 2, where a theorem says so. -/
namespace Go.Proofs.YtfoegmjpfkmggaaGreatDoor
open Go.RowKit
def tw (L : List Nat) (w : Nat) : Nat := wf (fun b => decide (0 < L.getD (64 * w + b) 0)) 64
def gw (L : List Nat) (w : Nat) : Nat := wf (fun b => decide (1 < L.getD (64 * w + b) 0)) 64
def setv (L : List Nat) (i : Nat) : Value := if i = 0 then .int .i64 (L.length : Nat) else if i < 9 then .int .u64 (tw L (i - 1) : Nat) else .int .u64 (gw L (i - 9) : Nat)
def setCells (L : List Nat) : Array Value := arr 17 (setv L)
structure SetOk (L : List Nat) : Prop where
  len : L.length ≤ 512
  le : ∀ i, L.getD i 0 ≤ 2
theorem tw_lt (L : List Nat) (w : Nat) : tw L w < 18446744073709551616 := wf_lt _ 64
theorem gw_lt (L : List Nat) (w : Nat) : gw L w < 18446744073709551616 := wf_lt _ 64
theorem getD_set (L : List Nat) (k v i : Nat) (hk : k < L.length) : (L.set k v).getD i 0 = if i = k then v else L.getD i 0 := by
  simp only [List.getD_eq_getElem?_getD, List.getElem?_set]
  by_cases h : k = i
  · subst h; simp [hk]
  · rw [if_neg h, if_neg (fun e => h e.symm)]
theorem SetOk.set_ {L : List Nat} (h : SetOk L) (k v : Nat) (hk : k < L.length) (hv : v ≤ 2) : SetOk (L.set k v) :=
  ⟨by rw [List.length_set]; exact h.len, fun i => by rw [getD_set _ _ _ _ hk]; split; · exact hv
                                                     · exact h.le i⟩
theorem tw_set (L : List Nat) (q r v : Nat) (hk : 64 * q + r < L.length) (hr : r < 64) (w : Nat) :
    tw (L.set (64 * q + r) v) w = if w = q then wf (at_ (fun b => decide (0 < L.getD (64 * q + b) 0)) r (decide (0 < v))) 64 else tw L w := by
  split
  · rename_i h; subst h
    refine wf_congr fun i hi => ?_
    rw [getD_set _ _ _ _ hk]
    unfold at_
    by_cases h : i = r
    · subst h; simp
    · rw [if_neg (by omega), if_neg h]
  · refine wf_congr fun i hi => ?_
    rw [getD_set _ _ _ _ hk, if_neg (by omega)]
theorem gw_set (L : List Nat) (q r v : Nat) (hk : 64 * q + r < L.length) (hr : r < 64) (w : Nat) :
    gw (L.set (64 * q + r) v) w = if w = q then wf (at_ (fun b => decide (1 < L.getD (64 * q + b) 0)) r (decide (1 < v))) 64 else gw L w := by
  split
  · rename_i h; subst h
    refine wf_congr fun i hi => ?_
    rw [getD_set _ _ _ _ hk]
    unfold at_
    by_cases h : i = r
    · subst h; simp
    · rw [if_neg (by omega), if_neg h]
  · refine wf_congr fun i hi => ?_
    rw [getD_set _ _ _ _ hk, if_neg (by omega)]
theorem at_at (f : Nat → Bool) (r : Nat) (a b : Bool) : at_ (at_ f r a) r b = at_ f r b := by funext i; unfold at_; split <;> rfl
/-- The cells behind a change of one block. -/
theorem setCells_set (L : List Nat) (q r v : Nat) (hk : 64 * q + r < L.length) (hr : r < 64) (hq : q < 8) (f : Nat → Value)
    (h1 : f (1 + q) = .int .u64 (wf (at_ (fun b => decide (0 < L.getD (64 * q + b) 0)) r (decide (0 < v))) 64 : Nat))
    (h2 : f (9 + q) = .int .u64 (wf (at_ (fun b => decide (1 < L.getD (64 * q + b) 0)) r (decide (1 < v))) 64 : Nat))
    (h3 : ∀ i, i ≠ 1 + q → i ≠ 9 + q → f i = setv L i) : arr 17 f = setCells (L.set (64 * q + r) v) := by
  unfold setCells
  refine arr_congr fun i hi => ?_
  unfold setv
  rw [List.length_set, tw_set _ _ _ _ hk hr, gw_set _ _ _ _ hk hr]
  by_cases e1 : i = 1 + q
  · subst e1
    rw [h1, if_neg (by omega), if_pos (by omega), if_pos (by omega)]
  · by_cases e2 : i = 9 + q
    · subst e2
      rw [h2, if_neg (by omega), if_neg (by omega), if_pos (by omega)]
    · rw [h3 i e1 e2]
      unfold setv
      by_cases c0 : i = 0
      · rw [if_pos c0, if_pos c0]
      · rw [if_neg c0, if_neg c0]
        by_cases c1 : i < 9
        · rw [if_pos c1, if_pos c1, if_neg (by omega)]
        · rw [if_neg c1, if_neg c1, if_neg (by omega)]
theorem setv_0 (L : List Nat) : setv L 0 = .int .i64 (L.length : Nat) := rfl
theorem setv_t (L : List Nat) (q : Nat) (hq : q < 8) : setv L (1 + q) = .int .u64 (tw L q : Nat) := by
  unfold setv; rw [if_neg (by omega), if_pos (by omega), Nat.add_sub_cancel_left]
theorem setv_g (L : List Nat) (q : Nat) : setv L (9 + q) = .int .u64 (gw L q : Nat) := by
  unfold setv; rw [if_neg (by omega), if_neg (by omega), Nat.add_sub_cancel_left]
theorem is_eq (L : List Nat) (h : SetOk L) (q r : Nat) (hr : r < 64) : tw L q / 2 ^ r % 2 + gw L q / 2 ^ r % 2 = L.getD (64 * q + r) 0 := by
  unfold tw gw
  rw [wf_get _ hr, wf_get _ hr]
  have := h.le (64 * q + r)
  generalize L.getD (64 * q + r) 0 = x at this ⊢
  have : x = 0 ∨ x = 1 ∨ x = 2 := by omega
  rcases this with rfl | rfl | rfl <;> rfl
theorem u64_clear (x : Nat) (r : Nat) (hx : x < 18446744073709551616) (hr : r < 64) : bits .andNot .u64 (x : Int) (2 ^ r : Nat) = ((x &&& (18446744073709551615 - 2 ^ r) : Nat) : Int) :=
  u64_andNot_nat x (2 ^ r) hx (Nat.pow_lt_pow_right (by omega) hr)
theorem u64_set (x : Nat) (r : Nat) (hx : x < 18446744073709551616) (hr : r < 64) : bits .or .u64 (x : Int) (2 ^ r : Nat) = ((x ||| 2 ^ r : Nat) : Int) :=
  u64_or_nat x (2 ^ r) hx (Nat.pow_lt_pow_right (by omega) hr)
end Go.Proofs.YtfoegmjpfkmggaaGreatDoor

/- The program's set of blocks: what its smallest functions do. Conditions: the set's block is known. -/
namespace Go.Proofs.YtfoegmjpfkmggaaGreatDoor
open Go.RowKit
theorem Upd.drew {g : Nat} {a b : World} (h : Upd g a b) : Upd g a b.drew := ⟨h.os, h.tape, h.output, h.size, h.block⟩
theorem arr_set_at (cs : Array Value) (i j : Nat) (v : Value) (h : i ≠ j) : (cs.setIfInBounds i v)[j]? = cs[j]? := by rw [Array.getElem?_setIfInBounds_ne h]
theorem arr_set_self (cs : Array Value) (i : Nat) (v : Value) (h : i < cs.size) : (cs.setIfInBounds i v)[i]? = some v := Array.getElem?_setIfInBounds_self_of_lt h
theorem cells4 (L : List Nat) (q r v : Nat) (hk : 64 * q + r < L.length) (hr : r < 64) (hq : q < 8) :
    (v = 0 → ((setCells L).setIfInBounds (1 + q) (.int .u64 (wf (at_ (fun b => decide (0 < L.getD (64 * q + b) 0)) r false) 64 : Nat))).setIfInBounds (9 + q) (.int .u64 (wf (at_ (fun b => decide (1 < L.getD (64 * q + b) 0)) r false) 64 : Nat)) = setCells (L.set (64 * q + r) v)) ∧
    (v = 1 → (((setCells L).setIfInBounds (1 + q) (.int .u64 (wf (at_ (fun b => decide (0 < L.getD (64 * q + b) 0)) r false) 64 : Nat))).setIfInBounds (9 + q) (.int .u64 (wf (at_ (fun b => decide (1 < L.getD (64 * q + b) 0)) r false) 64 : Nat))).setIfInBounds (1 + q) (.int .u64 (wf (at_ (fun b => decide (0 < L.getD (64 * q + b) 0)) r true) 64 : Nat)) = setCells (L.set (64 * q + r) v)) ∧
    (v = 2 → ((((setCells L).setIfInBounds (1 + q) (.int .u64 (wf (at_ (fun b => decide (0 < L.getD (64 * q + b) 0)) r false) 64 : Nat))).setIfInBounds (9 + q) (.int .u64 (wf (at_ (fun b => decide (1 < L.getD (64 * q + b) 0)) r false) 64 : Nat))).setIfInBounds (1 + q) (.int .u64 (wf (at_ (fun b => decide (0 < L.getD (64 * q + b) 0)) r true) 64 : Nat))).setIfInBounds (9 + q) (.int .u64 (wf (at_ (fun b => decide (1 < L.getD (64 * q + b) 0)) r true) 64 : Nat)) = setCells (L.set (64 * q + r) v)) := by
  refine ⟨fun h0 => ?_, fun h0 => ?_, fun h0 => ?_⟩
  all_goals
    subst h0
    rw [show setCells L = arr 17 (setv L) from rfl]
    simp only [arr_set]
    refine setCells_set L q r _ hk hr hq _ ?_ ?_ ?_
  all_goals first
    | (intro i e1 e2; simp [e1, e2]; done)
    | (simp; done)
    | (simp; omega)
set_option maxHeartbeats 1000000 in
theorem set_any (L : List Nat) (g k v : Nat) (hv : v ≤ 2) (hk : k < L.length) (hl : L.length ≤ 512) (w : World) (h : Blk w g 220 (setCells L)) :
    Calls Tryz.prog 172 #[.pointer (some ⟨g, 0, none⟩), .int .i64 ((k : Int) + 1), .int .i64 (v : Int)] w fun e w' => e = .returned (.tuple #[]) ∧ Blk w' g 220 (setCells (L.set k v)) ∧ Upd g w w' := by
  obtain ⟨q, r, hr, rfl⟩ : ∃ q r, r < 64 ∧ k = 64 * q + r := ⟨k / 64, k % 64, Nat.mod_lt _ (by omega), by omega⟩
  have hq : q < 8 := by omega
  have hT := tw_lt L q
  have hG := gw_lt L q
  have c1 := u64_clear (tw L q) r hT hr
  have c2 := u64_clear (gw L q) r hG hr
  have c3 := u64_set (tw L q &&& (18446744073709551615 - 2 ^ r)) r (Nat.lt_of_le_of_lt Nat.and_le_left hT) hr
  have c4 := u64_set (gw L q &&& (18446744073709551615 - 2 ^ r)) r (Nat.lt_of_le_of_lt Nat.and_le_left hG) hr
  have n1 : tw L q &&& (18446744073709551615 - 2 ^ r) = wf (at_ (fun b => decide (0 < L.getD (64 * q + b) 0)) r false) 64 := wf_clear _ hr
  have n2 : gw L q &&& (18446744073709551615 - 2 ^ r) = wf (at_ (fun b => decide (1 < L.getD (64 * q + b) 0)) r false) 64 := wf_clear _ hr
  have n3 : (tw L q &&& (18446744073709551615 - 2 ^ r)) ||| 2 ^ r = wf (at_ (fun b => decide (0 < L.getD (64 * q + b) 0)) r true) 64 := by rw [n1, wf_set _ hr, at_at]
  have n4 : (gw L q &&& (18446744073709551615 - 2 ^ r)) ||| 2 ^ r = wf (at_ (fun b => decide (1 < L.getD (64 * q + b) 0)) r true) 64 := by rw [n2, wf_set _ hr, at_at]
  have hg0 : (setCells L)[9 + q]? = some (.int .u64 (gw L q : Nat)) := by rw [setCells, arr_at _ (by omega), setv_g]
  have d1 : w.cell? ⟨g, 1 + q, none⟩ = some (.int .u64 (tw L q : Nat)) := h.at_ (1 + q) (by rw [setCells, arr_at _ (by omega), setv_t _ _ hq])
  have d2 : w.cell? ⟨g, 9 + q, none⟩ = some (.int .u64 (gw L q : Nat)) := h.at_ (9 + q) (by rw [setCells, arr_at _ (by omega), setv_g])
  have e1 : (64 * (q : Int) + r) / 64 = q := by omega
  have e2 : IntKind.u64.wrap (2 ^ (r % 64)) = ((2 ^ r : Nat) : Int) := by
    have : 2 ^ r < 2 ^ 64 := Nat.pow_lt_pow_right (by omega) hr
    rw [IntKind.wrap_u64, Nat.mod_eq_of_lt hr]
    have e : ((2 ^ r : Nat) : Int) = 2 ^ r := by simp
    rw [← e]
    generalize (2 ^ r : Nat) = P at this ⊢
    omega
  rw [n1] at c1 c3
  rw [n2] at c2 c4
  rw [n1] at n3
  rw [n2] at n4
  rw [n3] at c3
  rw [n4] at c4
  clear n1 n2 n3 n4
  have hcs := cells4 L q r v hk hr hq
  generalize (2 ^ r : Nat) = P at c1 c2 c3 c4 e2
  generalize tw L q = T at hT c1 d1
  generalize gw L q = G at hG c2 d2 hg0
  generalize wf (at_ (fun b => decide (0 < L.getD (64 * q + b) 0)) r false) 64 = T0 at c1 c3 hcs
  generalize wf (at_ (fun b => decide (1 < L.getD (64 * q + b) 0)) r false) 64 = G0 at c2 c4 hcs
  generalize wf (at_ (fun b => decide (0 < L.getD (64 * q + b) 0)) r true) 64 = T1 at c3 hcs
  generalize wf (at_ (fun b => decide (1 < L.getD (64 * q + b) 0)) r true) 64 = G1 at c4 hcs
  have HC := Lib.hid hcs
  clear hcs
  have f1 := h.frozen (1 + q)
  have f2 := h.frozen (9 + q)
  go_enter Tryz.func172, Tryz.ntmps172
  go_wp2
  clear d2 f2
  go_region
  go_wp2
  have h1 := (h.set_ (1 + q) (.int .u64 (T0 : Int))).drew
  have hU1 := Lib.hid (Upd.drew ((Upd.refl g w).set (1 + q) (.int .u64 (T0 : Int))))
  generalize (World.setCell w _ _).drew = w1 at h1 hU1 ⊢
  clear d1 f1 h
  have d2 : w1.cell? ⟨g, 9 + q, none⟩ = some (.int .u64 (G : Int)) := h1.at_ (9 + q) (by rw [arr_set_at _ _ _ _ (by omega)]; exact hg0)
  have f2 := h1.frozen (9 + q)
  go_region
  have h2 := (h1.set_ (9 + q) (.int .u64 (G0 : Int))).drew
  have hU2 := Lib.hid (hU1.out.trans (Upd.drew ((Upd.refl g w1).set (9 + q) (.int .u64 (G0 : Int)))))
  generalize (World.setCell w1 _ _).drew = w2 at h2 hU2 ⊢
  clear d2 f2 h1 hU1
  by_cases v0 : v = 0
  · subst v0
    go_wp2
    refine bodyPost_end (v := .tuple #[]) (by simp [results]) rfl ⟨rfl, h2.sub (HC.out.1 (by trivial)), hU2.out⟩
  have d1 : w2.cell? ⟨g, 1 + q, none⟩ = some (.int .u64 (T0 : Int)) := h2.at_ (1 + q) (by rw [arr_set_at _ _ _ _ (by omega)]; exact arr_set_self _ _ _ (by simp [setCells, arr_size]; omega))
  have f1 := h2.frozen (1 + q)
  have hv1 : 0 < v := by omega
  go_wp2
  go_region
  have h3 := (h2.set_ (1 + q) (.int .u64 (T1 : Int))).drew
  have hU3 := Lib.hid (hU2.out.trans (Upd.drew ((Upd.refl g w2).set (1 + q) (.int .u64 (T1 : Int)))))
  generalize (World.setCell w2 _ _).drew = w3 at h3 hU3 ⊢
  clear d1 f1 h2 hU2
  by_cases v1 : v = 1
  · subst v1
    go_wp2
    refine bodyPost_end (v := .tuple #[]) (by simp [results]) rfl ⟨rfl, h3.sub (HC.out.2.1 (by trivial)), hU3.out⟩
  obtain rfl : v = 2 := by omega
  have d2 : w3.cell? ⟨g, 9 + q, none⟩ = some (.int .u64 (G0 : Int)) := h3.at_ (9 + q) (by rw [arr_set_at _ _ _ _ (by omega)]; exact arr_set_self _ _ _ (by simp [setCells, arr_size]; omega))
  have f2 := h3.frozen (9 + q)
  go_wp2
  go_region
  have h4 := (h3.set_ (9 + q) (.int .u64 (G1 : Int))).drew
  have hU4 := Lib.hid (hU3.out.trans (Upd.drew ((Upd.refl g w3).set (9 + q) (.int .u64 (G1 : Int)))))
  generalize (World.setCell w3 _ _).drew = w4 at h4 hU4 ⊢
  go_wp2
  refine bodyPost_end (v := .tuple #[]) (by simp [results]) rfl ⟨rfl, h4.sub (HC.out.2.2 (by trivial)), hU4.out⟩
end Go.Proofs.YtfoegmjpfkmggaaGreatDoor
