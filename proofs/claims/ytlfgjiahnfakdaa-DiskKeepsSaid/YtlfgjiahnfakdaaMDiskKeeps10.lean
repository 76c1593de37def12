/- DiskFuse: the law answers true. Condition: the list can be read. -/
import Derived.Test.YtlfgjiahnfakdaaMDiskKeeps9
namespace Go.Proofs.Ytlfgjiahnfakdaa
open Go.RowKit
def Pl.ptr (p : Pl) : Value := .pointer (some ⟨p.gd, 0, none⟩)
/-- What a round of the making finds. -/
def MkRel (w : World) (D : Nat) (v8 v9 : Value) (wr : World) : Prop :=
  ∃ (i : Nat) (ps : List Pl) (sp : List Value), i ≤ D ∧ v9 = .int .i64 (i : Int) ∧ OwnsC 27 1 wr w.heap.size v8 i (ps.map Pl.ptr) sp ∧ ps.length = i ∧ (∀ p ∈ ps, DskR wr p none (Dsk.new 2)) ∧ ps.Pairwise Pl.apart ∧ (∀ p ∈ ps, w.heap.size ≤ p.gd ∧ w.heap.size ≤ p.gl ∧ w.heap.size ≤ p.gm) ∧ Below w.heap.size w wr
/-- What a round of the writing finds. -/
def WfRel (w1 : World) (ps : List Pl) (g g8 : Nat) (cs : Array Value) (n : Int) (L : Nat) (v12 : Value) (wr : World) : Prop :=
  ∃ (j : Nat) (l : List (Pl × Dsk)), j ≤ L ∧ v12 = .int .i64 (j : Int) ∧ l.map (·.1) = ps ∧ AllR wr g (fz n j) l ∧ (∀ x ∈ l, x.2.Ok ∧ x.2.out = false ∧ x.2.N = 2 ∧ 0 ≤ x.2.ops ∧ x.2.ops ≤ j) ∧ sumOps l = (if n ≤ (j : Int) then n else j) ∧ Below w1.heap.size w1 wr ∧ Blk wr g8 27 cs
theorem sumOps_le : ∀ (l : List (Pl × Dsk)), (∀ x ∈ l, 0 ≤ x.2.ops ∧ x.2.ops ≤ 60) → 0 ≤ sumOps l ∧ sumOps l ≤ 60 * (l.length : Int)
  | [], _ => ⟨Int.le_refl _, Int.le_refl _⟩
  | x :: l, h => by
    have h1 := h x (.head _)
    have h2 := sumOps_le l fun y hy => h y (.tail _ hy)
    show 0 ≤ x.2.ops + sumOps l ∧ x.2.ops + sumOps l ≤ 60 * ((l.length + 1 : Nat) : Int)
    omega
/-- What a round of the sum finds. -/
def SmRel (w4 : World) (l : List (Pl × Dsk)) (v14 v15 : Value) (wr : World) : Prop := ∃ q : Nat, q ≤ l.length ∧ v15 = .int .i64 (q : Int) ∧ v14 = .int .i64 (sumOps (l.take q)) ∧ wr = w4
theorem sumOps_new (ps : List Pl) : sumOps (ps.map fun p => (p, Dsk.new 2)) = 0 := by
  induction ps with
  | nil => rfl
  | cons p ps ih => rw [List.map_cons]; show (0 : Int) + sumOps _ = 0; rw [ih]; rfl
theorem OwnsC.apartOf {t : TypeId} {w : World} {base n : Nat} {v : Value} {xs sp : List Value} {p : Pl} {gf : Option Nat} {d : Dsk} (h : OwnsC t 1 w base v n xs sp) (hd : DskR w p gf d) (ht : t ≠ 32 ∧ t ≠ 113) {k : Nat} (hk : v.ownBlock = some k) : p.gd ≠ k ∧ p.gl ≠ k ∧ p.gm ≠ k := by
  obtain ⟨es, c, ⟨k1, k2, k3⟩, _⟩ := hd
  rcases h with ⟨rfl, _⟩ | ⟨g, cap, rfl, _, hb, _⟩
  · cases hk
  · injection hk with hk
    have hk : g = k := hk
    subst hk
    exact ⟨k1.apart hb (fun e => ht.1 e.symm), k2.apart hb (fun e => ht.2 e.symm), fun e => (hb.offMap k3) e.symm⟩
theorem ptrInfo : (Try.prog.info? 27).map (fun i => (i.zero, i.size, i.bytes)) = some (some (.pointer none), 1, 8) := by kernel_rfl
set_option maxRecDepth 100000 in
set_option maxHeartbeats 8000000 in
theorem fuse05_any (disks n : Int) (A : Option Addr) (c : Nat) (who : List Int) (w : World) (hn63 : n ≤ 9223372036854775807) (hw : Reads w A (who.map iv)) :
    Calls Try.prog 10 #[.int .i64 disks, .int .i64 n, .slice A who.length c] w fun e w' => e = .returned (.bool true) ∧ Below w.heap.size w w' := by
  have H0 := Lib.hid hw
  clear hw
  by_cases hbad : disks < 1 ∨ disks > 5 ∨ n < 0 ∨ (who.length : Int) > 60
  · obtain ⟨b1, hb1⟩ : ∃ b, decide (disks < 1) = b := ⟨_, rfl⟩
    obtain ⟨b2, hb2⟩ : ∃ b, decide (disks > 5) = b := ⟨_, rfl⟩
    obtain ⟨b3, hb3⟩ : ∃ b, decide (n < 0) = b := ⟨_, rfl⟩
    obtain ⟨b4, hb4⟩ : ∃ b, decide ((who.length : Int) > 60) = b := ⟨_, rfl⟩
    have hor : b1 = true ∨ b2 = true ∨ b3 = true ∨ b4 = true := by subst hb1 hb2 hb3 hb4; simpa only [decide_eq_true_eq] using hbad
    have HB := Lib.hid hor
    clear hor hbad H0 hn63
    cases b1 <;> cases b2 <;> cases b3 <;> cases b4
    case false.false.false.false => exact absurd HB.out (by simp)
    all_goals
      clear HB
      go_enter Try.func10, Try.ntmps10
      go_wp2_with fail
      refine (known05_any w).mono ?_
      rintro e w1 ⟨rfl, hb⟩
      have HR := Lib.hid hb
      clear hb
      go_wp2
      go_ret
      exact ⟨rfl, HR.out⟩
  obtain ⟨D, rfl⟩ : ∃ D : Nat, disks = (D : Int) := ⟨disks.toNat, by omega⟩
  have hb1 : decide ((D : Int) < 1) = false := by simp; omega
  have hb2 : decide ((D : Int) > 5) = false := by simp; omega
  have hb3 : decide (n < 0) = false := by simp; omega
  have hb4 : decide ((who.length : Int) > 60) = false := by simp; omega
  have hD : 1 ≤ D ∧ D ≤ 5 := by omega
  have hwl : who.length ≤ 60 := by omega
  have HN := Lib.hid (show 0 ≤ n ∧ n ≤ 9223372036854775807 by omega)
  clear hbad hn63
  go_enter Try.func10, Try.ntmps10
  go_wp2_with fail
  refine (known05_any w).mono ?_
  rintro e w1 ⟨rfl, hb⟩
  have HB1 := Lib.hid hb
  clear hb
  go_wp2_with fail
  clear hb1 hb2 hb3 hb4
  go_loopw [8, 9] (fun v8 v9 wr => MkRel w1 D v8 v9 wr) (fun _ v _ => D - (intOf v).toNat)
  case atStart => exact ⟨0, [], [], Nat.zero_le _, rfl, OwnsC.nil _ _ _ _, rfl, (fun p hp => absurd hp (by simp)), List.Pairwise.nil, (fun p hp => absurd hp (by simp)), Below.refl _ _⟩
  case round =>
    obtain ⟨i, ps, sp, hi, rfl, hown, hpl, hps, hpa, hpb, hB⟩ := hrel
    obtain ⟨A8, c8, rfl, -, -, -, -⟩ := hown.reads
    by_cases hlt : i < D
    case neg =>
      obtain rfl : i = D := by omega
      rcases hown with ⟨_, h0, _⟩ | ⟨g8, cap8, he8, hg8, hb8, hc8⟩
      · omega
      injection he8 with e1 _ e2
      subst e1 e2
      have hl : ∀ s ∈ ps.map (fun p => (⟨p, none, Dsk.new 2, none⟩ : DS)), s.ok wr := fun s hs => by
        obtain ⟨p, hp, rfl⟩ := List.mem_map.1 hs
        exact ⟨hps p hp, trivial⟩
      have hr8 : Reads wr (some ⟨g8, 0, none⟩) ((ps.map (fun p => (⟨p, none, Dsk.new 2, none⟩ : DS))).map DS.ptr) := fun _ => ⟨g8, 0, rfl, fun j v hv => by
        rw [List.map_map] at hv
        have hv2 : (ps.map Pl.ptr)[j]? = some v := hv
        rw [Nat.zero_add]
        exact hb8.at_ j (by rw [List.getElem?_toArray]; exact List.getElem?_append_left (List.getElem?_eq_some_iff.1 hv2).1 ▸ hv2)⟩
      have hX8 : ∀ ad, (some ⟨g8, 0, none⟩ : Option Addr) = some ad → ad.block ∉ (ps.map (fun p => (⟨p, none, Dsk.new 2, none⟩ : DS))).map DS.gd := fun ad e hm => by
        cases e
        rw [List.map_map] at hm
        obtain ⟨p, hp, hpe⟩ := List.mem_map.1 hm
        obtain ⟨es, c, ⟨k1, _, _⟩, _⟩ := hps p hp
        exact k1.apart hb8 (by decide) hpe
      have hnd : ((ps.map (fun p => (⟨p, none, Dsk.new 2, none⟩ : DS))).map DS.gd).Nodup := by
        rw [List.map_map]
        unfold List.Nodup
        rw [List.pairwise_map]
        exact hpa.imp fun {a b} h => h.1
      have hF := fuse_go (c := c8) n hr8 hX8 hl hnd (by rw [List.length_map]; omega) HN.out.1
      rw [List.length_map, hpl] at hF
      have HE := Lib.hid (And.intro hps (And.intro hpa (And.intro hpb (And.intro hB (And.intro hb8 (And.intro hg8 hpl))))))
      have HFz := Lib.hid hF
      clear hF hl hr8 hX8 hnd hps hpa hpb hB hb8 hc8 hg8 hpl hi hlt
      go_wp2_with fail
      refine HFz.out.mono ?_
      rintro e w3 ⟨rfl, g, hg, hok, hn3⟩
      have hpsz : ∀ p ∈ ps, p.gd < wr.heap.size ∧ p.gl < wr.heap.size ∧ p.gm < wr.heap.size := fun p hp => (HE.out.1 p hp).lt
      have hall : AllR w3 g (fz n 0) (ps.map fun p => (p, Dsk.new 2)) := by
        have e0 : fz n 0 = ⟨n, false⟩ := by
          unfold fz
          rw [if_pos (by have := HN.out; omega), decide_eq_false (by have := HN.out; omega)]
          rw [show n - ((0 : Nat) : Int) = n by omega]
        rw [e0]
        refine ⟨fun x hx => ?_, ?_⟩
        · obtain ⟨p, hp, rfl⟩ := List.mem_map.1 hx
          exact (hok _ (List.mem_map.2 ⟨p, hp, rfl⟩)).1
        · match ps, HE.out.2.2.2.2.2.2, hD with
          | [], h, hD => rw [← h] at hD; exact absurd hD.1 (by decide)
          | p :: _, _, _ => exact (hok _ (.head _)).2
      have hg1 : w1.heap.size ≤ g := Nat.le_trans HE.out.2.2.2.1.size hg
      have hB3 : Below w1.heap.size w1 w3 := below_near HE.out.2.2.2.1 hn3 (fun x hx => by
        rw [List.map_map] at hx
        obtain ⟨p, hp, rfl⟩ := List.mem_map.1 hx
        exact (HE.out.2.2.1 p hp).1) HE.out.2.2.2.1.size
      have hb83 := HE.out.2.2.2.2.1.near hn3 (fun hx => by
        rw [List.map_map] at hx
        obtain ⟨p, hp, hpe⟩ := List.mem_map.1 hx
        obtain ⟨es, c, ⟨k1, _, _⟩, _⟩ := HE.out.1 p hp
        exact k1.apart HE.out.2.2.2.2.1 (by decide) hpe)
      have hS : WfRel w1 ps g g8 (ps.map Pl.ptr ++ sp).toArray n who.length (.int .i64 0) w3 := ⟨0, _, Nat.zero_le _, rfl, by rw [List.map_map]; exact List.map_id _, hall, fun x hx => by
        obtain ⟨p, hp, rfl⟩ := List.mem_map.1 hx
        exact ⟨Dsk.Ok.new (by omega), rfl, rfl, Int.le_refl _, Int.le_refl _⟩, by rw [sumOps_new]; split <;> (have := HN.out; omega), hB3, hb83⟩
      have HP := Lib.hid (And.intro HE.out.2.1 (And.intro HE.out.2.2.1 (And.intro hg1 HE.out.2.2.2.2.2)))
      clear hg hok hn3 hpsz hall hg1 hB3 hb83 HE HFz
      go_wp2_with fail
      go_loopw [12] (fun v wr => WfRel w1 ps g g8 (ps.map Pl.ptr ++ sp).toArray n who.length v wr) (fun v _ => who.length - (intOf v).toNat)
      case atStart => exact hS
      case round =>
        clear hS
        obtain ⟨j, l, hj, rfl, hlp, hall, hds, hsum, hB, hb8⟩ := hrel
        by_cases hlt : j < who.length
        case neg =>
          obtain rfl : j = who.length := by omega
          have hll : l.length = i := by rw [← HP.out.2.2.2.2, ← hlp, List.length_map]
          obtain ⟨u, hu⟩ : ∃ u, decide ((who.length : Int) ≤ n) = u := ⟨_, rfl⟩
          have hup : ∀ x ∈ l, Calls Try.prog 44 #[.pointer (some ⟨x.1.gd, 0, none⟩)] wr fun e w' => e = .returned (.bool u) ∧ w' = wr := fun x hx => by
            have h := up_all (hall.1 x hx) hall.2
            have e : (!x.2.isOut (some (fz n who.length))) = u := by
              have h1 := (hds x hx).2.1
              unfold Dsk.isOut fz
              rw [h1, ← hu]
              by_cases hc : (who.length : Int) ≤ n
              · rw [decide_eq_true hc]; simp; omega
              · rw [decide_eq_false hc]; simp; omega
            rw [e] at h
            exact h
          have hop : ∀ x ∈ l, Calls Try.prog 48 #[.pointer (some ⟨x.1.gd, 0, none⟩)] wr fun e w' => e = .returned (.int .i64 x.2.ops) ∧ w' = wr := fun x hx => ops_all (hall.1 x hx)
          have hbd : ∀ x ∈ l, 0 ≤ x.2.ops ∧ x.2.ops ≤ 60 := fun x hx => by have h := (hds x hx).2.2.2; omega
          have hpt : ∀ (k : Nat) (x : Pl × Dsk), l[k]? = some x → wr.cell? ⟨g8, k, none⟩ = some (.pointer (some ⟨x.1.gd, 0, none⟩)) := fun k x hx => hb8.at_ k (by
            have hxp : ps[k]? = some x.1 := by rw [← hlp, List.getElem?_map, hx]; rfl
            rw [List.getElem?_toArray, List.getElem?_append_left (by rw [List.length_map]; exact (List.getElem?_eq_some_iff.1 hxp).1), List.getElem?_map, hxp]; rfl)
          have HR := Lib.hid (And.intro hll (And.intro hup (And.intro hop (And.intro hbd (And.intro hpt (And.intro hsum hB))))))
          have HU := Lib.hid hu
          clear hlp hall hds hsum hB hb8 hj hlt hll hup hop hbd hpt hu
          go_wp2_with fail
          go_loopw [14, 15] (fun v14 v15 wv => SmRel wr l v14 v15 wv) (fun _ v _ => i - (intOf v).toNat)
          case atStart => exact ⟨0, Nat.zero_le _, rfl, rfl, rfl⟩
          case round =>
            obtain ⟨q, hq, rfl, rfl, rfl⟩ := hrel
            have hqi : q ≤ i := by rw [← HR.out.1]; exact hq
            by_cases hlt : q < i
            case neg =>
              have hqe : q = l.length := by have := HR.out.1; omega
              have hse : sumOps (l.take q) = if n ≤ (who.length : Int) then n else who.length := by rw [hqe, List.take_length]; exact HR.out.2.2.2.2.2.1
              have HZ := Lib.hid hse
              generalize sumOps (l.take q) = S at HZ ⊢
              clear hq hqe hse
              have hS : (S == min n (who.length : Int)) = true := by rw [HZ.out]; simp only [beq_iff_eq]; split <;> omega
              have HBB := Lib.hid (HB1.out.trans (HR.out.2.2.2.2.2.2.mono HB1.out.size))
              clear HZ
              go_wp2
              go_ret
              exact ⟨rfl, HBB.out⟩
            obtain ⟨x, hx⟩ : ∃ x, l[q]? = some x := ⟨_, List.getElem?_eq_getElem (by have := HR.out.1; omega)⟩
            have hxm := List.mem_of_getElem? hx
            have dP := HR.out.2.2.2.2.1 q x hx
            have hS := sumOps_le (l.take q) (fun y hy => HR.out.2.2.2.1 y (List.mem_of_mem_take hy))
            have hSn := sumOps_take l q x hx
            have hxb := HR.out.2.2.2.1 x hxm
            have hlen : (l.take q).length ≤ 5 := by rw [List.length_take]; omega
            have hw : wrap64 (sumOps (l.take q) + x.2.ops) = sumOps (l.take (q + 1)) := by rw [hSn]; unfold wrap64; omega
            have HF := Lib.hid (show SmRel wr l (.int .i64 (sumOps (l.take (q + 1)))) (.int .i64 ((q + 1 : Nat) : Int)) wr from ⟨q + 1, by have := HR.out.1; omega, rfl, rfl, rfl⟩)
            have HW := Lib.hid hw
            generalize sumOps (l.take q) = S at HW hS hSn ⊢
            generalize sumOps (l.take (q + 1)) = S1 at HW HF hSn
            have HO := Lib.hid (And.intro (HR.out.2.2.1 x hxm) (HR.out.2.1 x hxm))
            clear hx hxm hS hSn hxb hlen hw hq
            have hw2 := HW.out
            have hu2 := HU.out
            go_wp2_with fail
            refine HO.out.1.mono ?_
            rintro e wq ⟨rfl, hw⟩
            obtain rfl := hw.symm
            clear hw
            go_wp2_with fail
            refine HO.out.2.mono ?_
            rintro e wq ⟨rfl, hw⟩
            obtain rfl := hw.symm
            clear hw dP
            cases u
            all_goals
              go_wp2
              go_roundw
              case rel => exact HF.out
              case measure => simp [intOf]; omega
        obtain ⟨z, hz⟩ : ∃ z, z = who[j] := ⟨_, rfl⟩
        obtain ⟨b, off, rfl, hcz⟩ := H0.out (by intro e; have e2 := congrArg List.length e; rw [List.length_map, List.length_nil] at e2; omega)
        have hcz2 : w.cell? ⟨b, off + j, none⟩ = some (.int .i64 z) := hcz j _ (by rw [List.getElem?_map, List.getElem?_eq_getElem hlt, ← hz]; rfl)
        have hbw : b < w.heap.size := World.block_lt_of_cell? w ⟨b, off + j, none⟩ hcz2
        have dZ : wr.cell? ⟨b, off + j, none⟩ = some (.int .i64 z) := (hB.cell (p := ⟨b, off + j, none⟩) (Nat.lt_of_lt_of_le hbw HB1.out.size)).trans ((HB1.out.cell (p := ⟨b, off + j, none⟩) hbw).trans hcz2)
        have hk0 := pickN_lt z (i : Int) (by omega)
        have hP := fun w => pick_any z (i : Int) (by omega) (by omega) w
        obtain ⟨k, hk⟩ : ∃ k, k = pickN z (i : Int) := ⟨_, rfl⟩
        rw [← hk] at hk0 hP
        have hki : k < i := by omega
        have hll : l.length = i := by rw [← HP.out.2.2.2.2, ← hlp, List.length_map]
        obtain ⟨x, hx⟩ : ∃ x, l[k]? = some x := ⟨_, List.getElem?_eq_getElem (by omega)⟩
        have hxm := List.mem_of_getElem? hx
        have hxp : ps[k]? = some x.1 := by rw [← hlp, List.getElem?_map, hx]; rfl
        have dP : wr.cell? ⟨g8, k, none⟩ = some (.pointer (some ⟨x.1.gd, 0, none⟩)) := hb8.at_ k (by
          rw [List.getElem?_toArray, List.getElem?_append_left (by rw [List.length_map]; exact (List.getElem?_eq_some_iff.1 hxp).1), List.getElem?_map, hxp]; rfl)
        have hxd := hall.1 x hxm
        have hg8X : g8 ∉ x.1.all (some g) := hxd.blk hall.2 hb8 (by decide)
        have hxb := HP.out.2.1 x.1 (by rw [← hlp]; exact List.mem_map.2 ⟨x, hxm, rfl⟩)
        have hbX : b ∉ x.1.all (some g) := by have h1 := HB1.out.size; have h2 := HP.out.2.2.1; simp [Pl.all]; omega
        have HR := Lib.hid (And.intro hlp (And.intro hall (And.intro hds (And.intro hsum (And.intro hB (And.intro hb8 (And.intro hx (And.intro hxm (And.intro hxb (And.intro hg8X hbX))))))))))
        have hP := Lib.hid hP
        have hgs := Lib.hid hb8.lt
        clear hlp hall hds hsum hB hb8 hx hxm hxb hxd hxp hz hcz hcz2 hk hk0 hll hj
        go_wp2_with fail
        refine wp_region_tree (Near (x.1.all (some g)) wr) [] (PlanT.takes [0, 1, 2, 3, 5] (PlanT.takes [4] (.opt 6 (PlanT.takes [7] (PlanT.takes [8] (.opt 9 (.opt 10 (PlanT.takes [11] .done) .no) .no))) .no))) (by kernel_rfl) (by kernel_rfl) ((Near.refl _ _).drew) ?_
        refine wpTree_pure _ _ _ (by rfl) (by rfl) ?_
        dsimp only [List.filterMap, List.getElem?_cons_zero, List.getElem?_cons_succ]
        repeat (go_big_quiet_step (fail))
        refine wpQuiet_nil ?_
        refine wpTree_takeL _ _ _ (by rfl) (by rfl) ((Near.refl _ _).drew) ?_
        dsimp only [List.filterMap, List.getElem?_cons_zero, List.getElem?_cons_succ]
        (refine wpQuiet_load_cell (fun w' hw' => (hw'.cell (p := ⟨b, off + j, none⟩) (World.block_lt_of_cell? wr _ dZ) hbX).trans dZ) (by rfl) _ _ (by rfl) (by rfl) _ Try.underlying3 (by rfl) ?_; simp only [Act.put, List.setIfInBounds_toArray, List.set_cons_zero, List.set_cons_succ])
        refine wpQuiet_nil ?_
        refine wpTree_one _ rfl ?_
        go_wp2_with fail
        refine (hP.out _).mono ?_
        rintro e w5 ⟨rfl, hw⟩
        obtain rfl := hw.symm
        clear hw
        go_wp2_with fail
        refine TreeQ.in_ (Near.refl _ _).drew ?_
        refine wpTree_pure _ _ _ (by rfl) (by rfl) ?_
        dsimp only [List.filterMap, List.getElem?_cons_zero, List.getElem?_cons_succ]
        repeat (go_big_quiet_step (fail))
        refine wpQuiet_nil ?_
        refine wpTree_takeL _ _ _ (by rfl) (by rfl) ((Near.refl _ _).drew) ?_
        dsimp only [List.filterMap, List.getElem?_cons_zero, List.getElem?_cons_succ]
        (refine wpQuiet_load_cell (fun w' hw' => (hw'.cell (p := ⟨g8, k, none⟩) hgs.out hg8X).trans dP) (by rfl) _ _ (by rfl) (by rfl) _ Try.underlying27 (by rfl) ?_; simp only [Act.put, List.setIfInBounds_toArray, List.set_cons_zero, List.set_cons_succ])
        refine wpQuiet_nil ?_
        obtain ⟨r, d', hres, hcase⟩ : ∃ r d', x.2.write (some (fz n j)) 0 (rep 1) = (r, d', some (fz n (j + 1))) ∧ (((j : Int) < n ∧ r = 0 ∧ d' = x.2.tick.put 0 (rep 1)) ∨ (¬ (j : Int) < n ∧ r = 11 ∧ d' = x.2)) := by
          have h := HR.out.2.2.1 x HR.out.2.2.2.2.2.2.2.1
          have e := fz_write h.2.1 h.2.2.1 HN.out j
          by_cases hjn : (j : Int) < n
          · rw [if_pos hjn] at e; exact ⟨_, _, e, .inl ⟨hjn, rfl, rfl⟩⟩
          · rw [if_neg hjn] at e; exact ⟨_, _, e, .inr ⟨hjn, rfl, rfl⟩⟩
        have HC := Lib.hid (And.intro hres hcase)
        clear hres hcase dZ dP
        refine wpTree_one _ rfl ?_
        go_wp2_with fail
        refine (sector_any 1 _).mono ?_
        rintro e w6 ⟨g6, rfl, h6, hg6, hb6⟩
        have hb6 : Below wr.heap.size wr w6 := (Below.drew (Below.refl wr.heap.size wr)).trans hb6
        have hall6 := HR.out.2.1.near (Near.below (X := []) hb6)
        have hxo := HR.out.2.2.1 x HR.out.2.2.2.2.2.2.2.1
        have hlx := (HR.out.2.1.1 x HR.out.2.2.2.2.2.2.2.1).lt
        have hlg := HR.out.2.1.2.lt rfl
        have hW := write_all (f := some (fz n j)) 0 256 (some ⟨g6, 0, none⟩) (rep 1) h6.bytes (fun ad e => by cases e; have h : wr.heap.size ≤ g6 := hg6; simp [Pl.all]; omega) (by simp) (by simp) (hall6.1 x HR.out.2.2.2.2.2.2.2.1) hxo.1 hall6.2
        rw [HC.out.1, show (rep 1).length = 256 by simp] at hW
        have HW := Lib.hid (And.intro hW hb6)
        clear hW h6 hg6 hb6 hall6 hxo hlx hlg
        go_wp2_with fail
        refine TreeQ.in_ (Near.below HW.out.2) ?_
        refine wpTree_one _ rfl ?_
        go_wp2_with fail
        refine HW.out.1.mono ?_
        rintro e w7 ⟨rfl, hd7, hf7, hn7⟩
        have hn67 := (Near.below (X := x.1.all (some g)) HW.out.2).trans hn7
        have hall7 : AllR w7 g (fz n (j + 1)) (l.set k (x.1, d')) := AllR.step HR.out.2.1 (by rw [HR.out.1]; exact HP.out.1) HR.out.2.2.2.2.2.2.1 hd7 hf7 hn67
        have hF : WfRel w1 ps g g8 (ps.map Pl.ptr ++ sp).toArray n who.length (.int .i64 ((j + 1 : Nat) : Int)) w7 := by
          refine ⟨j + 1, l.set k (x.1, d'), hlt, rfl, ?_, hall7, fun y hy => ?_, ?_, ?_, ?_⟩
          · rw [List.map_set, ← HR.out.1]
            have e1 : (l.map (·.1))[k]? = some x.1 := by rw [List.getElem?_map, HR.out.2.2.2.2.2.2.1]; rfl
            apply List.ext_getElem?
            intro q
            rw [List.getElem?_set]
            split
            · rename_i hq; subst hq; rw [e1]; split
              · rfl
              · rename_i h; exact absurd ((List.getElem?_eq_some_iff.1 e1).1) h
            · rfl
          · rcases List.mem_or_eq_of_mem_set hy with h | h
            · obtain ⟨a1, a2, a3, a4, a5⟩ := HR.out.2.2.1 y h
              exact ⟨a1, a2, a3, a4, by omega⟩
            · subst h
              obtain ⟨a1, a2, a3, a4, a5⟩ := HR.out.2.2.1 x HR.out.2.2.2.2.2.2.2.1
              have hok' : d'.Ok := by
                have := Dsk.write_ok (f := some (fz n j)) (at_ := 0) (b := rep 1) a1
                rw [HC.out.1] at this
                exact this
              rcases HC.out.2 with ⟨_, _, e⟩ | ⟨_, _, e⟩
              · have eo : d'.ops = x.2.ops + 1 := by rw [e]; show wrap64 (x.2.ops + 1) = _; unfold wrap64; omega
                exact ⟨hok', by rw [e]; exact a2, by rw [e]; exact a3, by show 0 ≤ d'.ops; omega, by show d'.ops ≤ _; omega⟩
              · have eo : d'.ops = x.2.ops := by rw [e]
                exact ⟨hok', by rw [e]; exact a2, by rw [e]; exact a3, by show 0 ≤ d'.ops; omega, by show d'.ops ≤ _; omega⟩
          · rw [sumOps_set l k x _ HR.out.2.2.2.2.2.2.1, HR.out.2.2.2.1]
            obtain ⟨a1, a2, a3, a4, a5⟩ := HR.out.2.2.1 x HR.out.2.2.2.2.2.2.2.1
            rcases HC.out.2 with ⟨h1, _, e⟩ | ⟨h1, _, e⟩
            · have eo : d'.ops = x.2.ops + 1 := by rw [e]; show wrap64 (x.2.ops + 1) = _; unfold wrap64; omega
              show _ - x.2.ops + d'.ops = _
              rw [eo, if_neg (by omega)]
              split <;> omega
            · have eo : d'.ops = x.2.ops := by rw [e]
              show _ - x.2.ops + d'.ops = _
              rw [eo, if_pos (by omega), if_pos (by omega)]
              omega
          · exact below_near HR.out.2.2.2.2.1 hn67 (fun y hy => by have h1 := HR.out.2.2.2.2.2.2.2.2.1; have h2 := HP.out.2.2.1; simp [Pl.all] at hy; omega) HR.out.2.2.2.2.1.size
          · exact HR.out.2.2.2.2.2.1.near hn67 HR.out.2.2.2.2.2.2.2.2.2.1
        have HF := Lib.hid (And.intro hF hn67)
        clear hd7 hf7 hn7 hn67 hall7 hF
        go_wp2_with fail
        refine TreeQ.in_ HF.out.2 ?_
        refine wpTree_pure _ _ _ (by rfl) (by rfl) ?_
        dsimp only [List.filterMap, List.getElem?_cons_zero, List.getElem?_cons_succ]
        repeat (go_big_quiet_step (fail))
        refine wpQuiet_nil ?_
        refine wpTree_done ?_
        rcases HC.out.2 with ⟨h1, rfl, -⟩ | ⟨h1, rfl, -⟩
        · have h2 : decide ((j : Int) < n) = true := by simp [h1]
          clear HC h1
          go_wp2
          go_roundw
          case rel => exact HF.out.1
          case measure => simp [intOf]; omega
        · have h2 : decide ((j : Int) < n) = false := by simp [h1]
          clear HC h1
          go_wp2
          go_roundw
          case rel => exact HF.out.1
          case measure => simp [intOf]; omega
    have hsz : w1.heap.size ≤ wr.heap.size := hB.size
    have HE := Lib.hid (And.intro hown (And.intro hpl (And.intro hps (And.intro hpa (And.intro hpb hB)))))
    clear hown hpl hps hpa hpb hB
    go_wp2_with fail
    refine (new_all 2 (by omega) _).mono ?_
    rintro e w2 ⟨p, rfl, hd2, hp2, hb2⟩
    have hown2 := HE.out.1.ownBelow hb2
    have hps2 : ∀ x ∈ ps, DskR w2 x none (Dsk.new 2) := fun x hx => (HE.out.2.2.1 x hx).near (Near.below (X := []) hb2) (by simp)
    have hpx : ∀ x ∈ ps, x.apart p := fun x hx => by have h := (HE.out.2.2.1 x hx).lt; unfold Pl.apart; omega
    have HF := Lib.hid (And.intro hown2 (And.intro hps2 (And.intro hpx (And.intro hd2 (And.intro hp2 hb2)))))
    clear hown2 hps2 hpx hd2 hp2 hb2
    have hba := (Below.refl w2.heap.size w2).alloc (Nat.le_refl _) (.cells #[Pl.ptr p] 27)
    have hoa := HF.out.1.alloc (.cells #[Pl.ptr p] 27)
    have hra := reads_new w2 27 [Pl.ptr p]
    have hsa : w1.heap.size ≤ (w2.alloc (.cells #[Pl.ptr p] 27)).heap.size := Nat.le_trans hsz (Nat.le_trans HF.out.2.2.2.2.2.size hba.size)
    go_wp2_with (first
      | ((with_reducible show wpList _ _ _ ((⟨some 51, _, _, _, _, _⟩ : Oper) :: _) _ _); refine wpList_append_vals (o := ⟨some 51, _, _, _, _, _⟩) (by rfl) _ _ _ (by rfl) w1.heap.size 27 (.pointer none) 1 8 Try.underlying33 ptrInfo (by rfl) (by omega) (.slice A8 i c8) i (ps.map Pl.ptr) sp (by rfl) hoa (some ⟨w2.heap.size, 0, none⟩) 1 1 [Pl.ptr p] (by rfl) (by rfl) hra (by simp [Pl.ptr, Value.oneCell']) (by simp only [maxLen]; omega) (by omega) hsa ?_; intro v3 w3 sp3 ho3 hg3 hv3 hn3)
      | fail)
    have hnx : Near (Value.slice A8 i c8).ownBlock.toList w2 w3 := (Near.below hba).trans (Near.grown hg3 (fun k hk => by rw [hk]; simp))
    have hoff : ∀ x, DskR w2 x none (Dsk.new 2) → DskR w3 x none (Dsk.new 2) := fun x hx => by
      refine hx.near hnx ?_
      cases hv : (Value.slice A8 i c8).ownBlock with
      | none => simp
      | some k =>
        have h := OwnsC.apartOf HF.out.1 hx (by decide) hv
        simp
        exact h
    have hbl : ∀ k, (Value.slice A8 i c8).ownBlock = some k → w1.heap.size ≤ k := fun k hk => (OwnsC.lt HF.out.1 k hk).1
    have hBB : Below w1.heap.size w1 w3 := ((HE.out.2.2.2.2.2.trans (HF.out.2.2.2.2.2.mono hsz)).trans (hba.mono (Nat.le_trans hsz HF.out.2.2.2.2.2.size))).grown hg3 hsa hbl
    have HZ := Lib.hid (show MkRel w1 D v3 (.int .i64 ((i + 1 : Nat) : Int)) w3 from ⟨i + 1, ps ++ [p], sp3, by omega, rfl, by rw [List.map_append]; exact ho3, by rw [List.length_append, HE.out.2.1]; rfl,
      fun x hx => by
        rcases List.mem_append.1 hx with h | h
        · exact hoff x (HF.out.2.1 x h)
        · rw [List.mem_singleton.1 h]; exact hoff p HF.out.2.2.2.1,
      List.pairwise_append.2 ⟨HE.out.2.2.2.1, List.pairwise_singleton _ _, fun x hx y hy => by rw [List.mem_singleton.1 hy]; exact HF.out.2.2.1 x hx⟩,
      fun x hx => by
        rcases List.mem_append.1 hx with h | h
        · exact HE.out.2.2.2.2.1 x h
        · rw [List.mem_singleton.1 h]; have h2 := HF.out.2.2.2.2.1; omega, hBB⟩)
    clear hba hoa hra hsa ho3 hg3 hv3 hn3 hnx hoff hbl hBB hi
    go_wp2
    go_roundw
    case rel => exact HZ.out
    case measure => simp [intOf]; omega
end Go.Proofs.Ytlfgjiahnfakdaa

/- Bytes copied. Condition: the list can be read. -/
namespace Go
open Go.RowKit
namespace Proofs.Ytlfgjiahnfakdaa
theorem copyBytes_any (A : Option Addr) (n c : Nat) (l : List UInt8) (hn : n = l.length) (hl : l.length ≤ 140737488351300) (w : World) (h : Bytes w A l) :
    Calls Try.prog 45 #[.slice A n c] w fun e w' => ∃ v sp, e = .returned v ∧ OwnB 5 w' w.heap.size v l sp ∧ Below w.heap.size w w' := by
  subst hn
  have hb1 : Bytes (w.alloc (.cells #[] 5)) A l := h.below ((Below.refl _ _).alloc (Nat.le_refl _) _)
  have ho0 : OwnB 5 (w.alloc (.cells #[] 5)) w.heap.size (.slice (some ⟨w.heap.size, 0, none⟩) 0 0) [] [] := by
    have := OwnsC.lit (e := 5) (size := 1) (base := w.heap.size) w #[] 0 (by simp) (by simp) (by simp)
    unfold OwnB; simpa using this
  go_enter Try.func45, Try.ntmps45
  go_wp2_with (show wpList _ _ _ ((⟨some 5, _, _, _, _, _⟩ : Oper) :: _) _ _; refine wpList_append_bytes (o := ⟨some 5, _, _, _, _, _⟩) (by rfl) _ _ _ (by rfl) w.heap.size _ Try.underlying43 u8info (.slice (some ⟨w.heap.size, 0, none⟩) 0 0) [] [] (by rfl) ho0 A c l (by rfl) hb1 (by simp; omega) (by simp) ?_; intro v1 w1 sp1 ho1 hg1 _ _; have hbz := ((Below.refl w.heap.size w).alloc (Nat.le_refl _) (.cells #[] 5)).grown hg1 (by simp) (fun k hk => by have := (OwnsC.lt ho0 k hk).1; omega); clear hb1 ho0 hg1)
  go_ret
  exact ⟨_, sp1, rfl, by simpa using ho1, hbz⟩
end Proofs.Ytlfgjiahnfakdaa
end Go
