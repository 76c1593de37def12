/- The statement that a block whose bytes are turned is told, as a call: it answers true and writes nothing that was there. Condition: the arguments can be read. -/
import Derived.Test.YtfpcldnefpmgcaaBack10
import Derived.Test.YtfpcldnefpmgcaaTurned
namespace Go
open Go.RowKit
/-- The end of an own row of bytes reads. -/
theorem Blk.bytesFrom {w : World} {g : Nat} {t : TypeId} {l : List UInt8} (h : Blk w g t (l.map u8v).toArray) (K : Nat) : Bytes w (some ⟨g, K, none⟩) (l.drop K) := fun _ => ⟨g, K, rfl, fun j u hu => by
  rw [h.cell, List.getElem?_toArray]
  rw [List.map_drop, List.getElem?_drop] at hu
  exact hu⟩
end Go
namespace Go.Proofs.Ytfpcldnefpmgcaa
open Go.RowKit
theorem zero16_list : zero16 = ((List.replicate 16 (0 : UInt8)).map u8v).toArray := by rw [List.map_replicate]; exact arr_const 16 _
theorem GB.read_unsealed (raw : List UInt8) (h : raw.length = 1024) (h2 : Sha.sum (raw.drop 16) ≠ raw.take 16) : (GB.read raw).1 = 12 := by
  unfold GB.read; rw [if_neg (by omega), if_pos h2]
/-- Ahead of each turn. -/
def TurnRel10 (w : World) (n : Nat) (g g3 : Nat) (was : List UInt8) (v : Value) (wr : World) : Prop :=
  ∃ (i : Nat) (cur : List UInt8), i ≤ n ∧ v = .int .i64 (i : Int) ∧ cur.length = 1024 ∧ Blk wr g 72 (cur.map u8v).toArray ∧ Blk wr g3 5 (was.map u8v).toArray ∧ Below w.heap.size w wr
set_option maxHeartbeats 2000000 in
theorem turned10_any (k a s : Int) (A B R : Option Addr) (c d nR rc : Nat) (l : List RefT) (m : List UInt8) (ts : TurnsT) (hnR : nR = ts.length) (w : World) (hr : Refs w A l) (hb : Bytes w B m) (hR : Turns w R ts) :
    Calls Try.prog 12 #[.agg #[.int .i64 k, .int .i64 a, .int .i64 s, .slice A l.length c, .slice B m.length d], .slice R nR rc] w fun e w' => e = .returned (.bool true) ∧ Below w.heap.size w w' := by
  subst hnR
  have hB := (Below.refl w.heap.size w).alloc (Nat.le_refl _) (.cells #[.int .i64 k, .int .i64 a, .int .i64 s, .slice A l.length c, .slice B m.length d] 45)
  have hx := Blk.new w 45 #[.int .i64 k, .int .i64 a, .int .i64 s, .slice A l.length c, .slice B m.length d]
  replace hr := hr.below hB
  replace hb := Bytes.below hb hB
  go_enter Try.func12, Try.ntmps12
  go_wp2_with fail
  refine (known10_any _).mono ?_
  rintro e w1 ⟨rfl, hbx⟩
  (replace hx := keep hbx hx; replace hr := keep hbx hr; replace hb := keep hbx hb; replace hB := hB.trans (hbx.mono hB.size); clear hbx)
  have d3 : w1.cell? ⟨w.heap.size, 3, none⟩ = some (.slice A l.length c) := hx.at_ 3 rfl
  have d4 : w1.cell? ⟨w.heap.size, 4, none⟩ = some (.slice B m.length d) := hx.at_ 4 rfl
  by_cases h1 : 40 < l.length
  · go_wp2
    go_ret
    exact ⟨rfl, hB⟩
  by_cases h2 : 2000 < m.length
  · go_wp2
    go_ret
    exact ⟨rfl, hB⟩
  by_cases h3 : 40 < ts.length
  · go_wp2
    go_ret
    exact ⟨rfl, hB⟩
  go_wp2_with (first | (show wpList _ _ _ ((⟨some 32, _, _, _, _, _⟩ : Oper) :: _) _ _; refine wpList_load_blk (o := ⟨some 32, _, _, _, _, _⟩) (hx) (by rfl) _ _ (by rfl) (by rfl) _ Try.underlying45 (by rfl) (sizeGB) (by rfl) ?_) | fail)
  clear d3 d4
  rcases hok : GB.ok (k, (a, s, ()), l, m, ()) with _ | _
  · refine (bytes_no k a s A B c d l m (by omega) (by omega) hok w1 hr).mono ?_
    clear hok
    rintro e w2 ⟨rfl, hbx⟩
    (replace hB := hB.trans (hbx.mono hB.size); clear hbx hx)
    go_wp2
    go_ret
    exact ⟨rfl, hB⟩
  have hlen : (GB.bytes (k, (a, s, ()), l, m, ())).length = 1024 := by obtain ⟨h1, h2⟩ := GB.lens hok; exact GB.bytes_length _ h1 h2
  have hread := GB.read_bytes _ hok
  have hs1 := hB.size
  have hs0 := hx.lt
  refine (bytes_ok k a s A B c d l m hok w1 hr hb).mono ?_
  clear hok
  rintro e w2 ⟨g, rfl, hge, hg, hbx⟩
  (replace hB := hB.trans (hbx.mono hB.size); clear hbx hr hb hx)
  have hge0 : w.heap.size ≤ g := by omega
  clear hge hs1 hs0
  generalize GB.bytes (k, (a, s, ()), l, m, ()) = cur0 at hlen hread hg
  have HLEN := Lib.hid hlen
  have HREAD := Lib.hid hread
  clear hlen hread
  have hglt := hg.lt
  go_wp2_with fail
  refine (copyBytes_any (some ⟨g, 0, none⟩) 1024 1024 cur0 HLEN.out.symm (by rw [HLEN.out]; omega) w2 hg.bytes).mono ?_
  rintro e w3 ⟨v3, sp3, rfl, ho3, hbx⟩
  (replace hg := keep hbx hg; replace hB := hB.trans (hbx.mono hB.size); clear hbx)
  obtain ⟨g3, cap3, rfl, hge3, hg3, hcap31, hcap32, hspl3⟩ := OwnB.at_ ho3 (by rw [HLEN.out]; omega)
  clear ho3
  rw [HLEN.out]
  go_wp2
  go_loopw [9] (fun v wr => TurnRel10 w ts.length g g3 (cur0 ++ sp3) v wr) (fun v _ => ts.length - (intOf v).toNat)
  case atStart => exact ⟨0, cur0, by omega, rfl, HLEN.out, hg, hg3, hB⟩
  case round =>
    obtain ⟨i, cur, hi, rfl, hcl, hgr, hg3r, hBr⟩ := hrel
    have hkr := hR.below hBr
    clear hg hg3 hB
    have HCL := Lib.hid hcl
    clear hcl
    by_cases hlt : i < ts.length
    · obtain ⟨b, off, rfl, hcells⟩ := hkr.2 (by omega)
      obtain ⟨d1, d2⟩ := hcells i hlt
      have hb1 := hkr.1 i hlt
      generalize ts[i].1 = P at d1 hb1
      generalize ts[i].2.1 = M at d2
      rw [Nat.mul_comm] at d1
      rw [show off + (2 * i + 1) = off + i * 2 + 1 by omega] at d2
      clear hcells
      go_wp2_with fail
      refine (pick_any P 1024 (by omega) (by omega) wr).mono ?_
      rintro e wr ⟨rfl, rfl⟩
      have hat := pickN_lt P (1024 : Int) (by omega)
      generalize pickN P (1024 : Int) = at_ at hat
      have hatl : at_ < cur.length := by have := HCL.out; omega
      have dc : wr.cell? ⟨g, at_, none⟩ = some (.int .u8 (iu8 cur[at_])) := by rw [hgr.cell, List.getElem?_toArray, List.getElem?_map, List.getElem?_eq_getElem hatl]; rfl
      have fc := hgr.frozen at_
      go_wp2_with fail
      refine wp_region_tail 13 (by kernel_rfl) (by kernel_rfl) ?_
      dsimp only [List.take_succ_cons, List.take_zero, List.drop_succ_cons, List.drop_zero]
      repeat (go_big_quiet_step (fail))
      refine wpQuiet_nil ?_
      have ho := (hgr.set_ at_ (.int .u8 (iu8 (cur[at_] ^^^ M)))).drew
      have ho3 := (hg3r.off (show g3 ≠ g by omega) (i := at_) (.int .u8 (iu8 (cur[at_] ^^^ M)))).drew
      have hb3 := (hBr.set_ (c := g) (i := at_) hge0 (.int .u8 (iu8 (cur[at_] ^^^ M)))).drew
      replace ho := ho.sub (show _ = ((cur.set at_ (cur[at_] ^^^ M)).map u8v).toArray by
        apply Array.ext'
        simp only [List.setIfInBounds_toArray]
        rw [List.map_set]; rfl)
      have HO := Lib.hid ho
      clear ho
      go_wp2
      rw [u8_xor_w]
      go_roundw
      case rel => exact ⟨i + 1, cur.set at_ (cur[at_] ^^^ M), by omega, by go_num, by rw [List.length_set]; exact HCL.out, HO.out, ho3, hb3⟩
      case measure => simp [intOf]; omega
    · obtain rfl : i = ts.length := by omega
      clear hkr
      have hrd := read_any (some ⟨g, 0, none⟩) 1024 1024 cur HCL.out.symm (by omega) (by omega) wr hgr.bytes
      obtain ⟨q, hq⟩ : ∃ q, q = GB.read cur := ⟨_, rfl⟩
      rw [← hq] at hrd
      obtain ⟨code, k7, ⟨a7, s7, u7⟩, l7, m7, v7⟩ := q
      have HQ := Lib.hid hq
      clear hq
      have a16 := alloc16
      go_wp2_with fail
      refine hrd.mono ?_
      clear hrd
      rintro e w4 ⟨A4, c4, B4, d4, rfl, _, _, _, _, _, hbx⟩
      (replace hgr := keep hbx hgr; replace hg3r := keep hbx hg3r; replace hBr := hBr.trans (hbx.mono hBr.size); clear hbx)
      dsimp only
      go_wp2_with (first
        | (show wpList _ _ _ ((⟨none, _, _, _, _, _⟩ : Oper) :: _) _ _; refine wpList_store_blk (o := ⟨none, _, _, _, _, _⟩) (Blk.new w4 45 zeroGB) (by rfl) _ _ _ (by rfl) (by rfl) (#[.int .i64 k7, .int .i64 a7, .int .i64 s7, .slice A4 l7.length c4, .slice B4 m7.length d4]) (by rfl) (sizeGB) (by rfl) (by rfl) (by simp [Value.oneCell']) ?_; intro w5 hy hu; have hbx := ((Below.refl w4.heap.size w4).alloc (Nat.le_refl _) (.cells zeroGB 45)).upd hu (Nat.le_refl _); (replace hgr := keep hbx hgr; replace hg3r := keep hbx hg3r; replace hBr := hBr.trans (hbx.mono hBr.size)); clear hbx hu hy)
        | fail)
      have hz := (Blk.new w5 23 zero16).sub zero16_list
      have hbx := (Below.refl w5.heap.size w5).alloc (Nat.le_refl _) (.cells zero16 23)
      have hglt5 := hgr.lt
      have hglt35 := hg3r.lt
      have hltw5 := hBr.size
      (replace hgr := keep hbx hgr; replace hg3r := keep hbx hg3r; replace hBr := hBr.trans (hbx.mono hBr.size); clear hbx)
      generalize w5.alloc (.cells zero16 23) = w6 at hz hBr hgr hg3r ⊢
      refine wp_region_plan (fun _ => True) [] [(true, 0), (true, 1), (true, 2), (false, 3)] (by kernel_rfl) (by kernel_rfl) (fun c a a' w h q => ⟨h ▸ q.1, q.2⟩) trivial ?_
      refine wpPlan_pure [0, 1, 2] [(false, 3)] _ (by rfl) (by rfl) ?_
      dsimp only [List.filterMap, List.getElem?_cons_zero, List.getElem?_cons_succ]
      repeat (go_big_quiet_step (fail))
      refine wpQuiet_nil ?_
      refine wpPlan_forceL _ rfl ?_
      have h16 : (cur.take 16).length = 16 := by rw [List.length_take, HCL.out]; rfl
      refine wpList_copy_at (by rfl) _ _ _ _ (by rfl) 5 Try.underlying22 size1 w5.heap.size 0 16 16 (some ⟨g, 0, none⟩) 16 1024 (by rfl) (by rfl) (List.replicate 16 0) (cur.take 16) 23 hz.drew h16 (hgr.drew.bytes.take 16) (by rw [h16]; decide) (by rw [h16]; decide) ?_
      intro w7 hs7 hu7
      replace hs7 := hs7.sub (show _ = ((cur.take 16).map u8v).toArray by rw [h16]; simp)
      have hgr7 := hgr.drew.upd hu7 (Nat.ne_of_lt hglt5)
      have hg37 := hg3r.drew.upd hu7 (Nat.ne_of_lt hglt35)
      have hB7 := hBr.drew.upd hu7 hltw5
      obtain ⟨S, hS⟩ : ∃ S, S = cur.take 16 := ⟨_, rfl⟩
      rw [← hS] at hs7 h16 ⊢
      have H16 := Lib.hid h16
      have HS := Lib.hid hS
      clear hz hu7 hgr hg3r hBr h16 hS
      go_wp2_with fail
      refine PlanQ.in_ trivial ?_
      refine wpPlan_nil ?_
      go_wp2_with fail
      refine wp_region_plan (fun w' => Blk w' w5.heap.size 23 (S.map u8v).toArray) [] [(true, 0), (true, 1), (true, 2), (false, 3)] (by kernel_rfl) (by kernel_rfl) (fun c a a' w h q => ⟨h ▸ q.1, q.2⟩) hs7.drew ?_
      refine wpPlan_pure [0, 1] [(true, 2), (false, 3)] _ (by rfl) (by rfl) ?_
      dsimp only [List.filterMap, List.getElem?_cons_zero, List.getElem?_cons_succ]
      repeat (go_big_quiet_step (fail))
      refine wpQuiet_nil ?_
      refine wpPlan_takeL [2] [(false, 3)] _ (by rfl) (by rfl) hs7.drew ?_
      dsimp only [List.filterMap, List.getElem?_cons_zero, List.getElem?_cons_succ]
      refine wpQuiet_load_blk (fun w' hw' => hw') (by rfl) _ _ (by rfl) (by rfl) _ Try.underlying23 (by rfl) size16 (by simp [H16.out]) ?_
      simp only [Act.put, List.setIfInBounds_toArray, List.set_cons_zero, List.set_cons_succ]
      refine wpQuiet_nil ?_
      refine wpPlan_forceL _ rfl ?_
      go_wp2_with fail
      have hdl : (cur.drop 16).length = 1008 := by rw [List.length_drop, HCL.out]
      refine (right_seal_any (some ⟨g, 16, none⟩) 1008 1008 (cur.drop 16) S hdl.symm (by rw [hdl]; omega) (by rw [hdl]; omega) H16.out _ (hgr7.drew.bytesFrom 16)).mono ?_
      clear hdl
      rintro e w8 ⟨rfl, hbx⟩
      replace hgr7 := hgr7.drew.below hbx hgr7.lt
      replace hg37 := hg37.drew.below hbx hg37.lt
      replace hs7 := hs7.drew.below hbx hs7.lt
      replace hB7 := hB7.drew.trans (hbx.mono hB7.size)
      clear hbx
      obtain ⟨sealed, hsealed⟩ : ∃ b : Bool, b = decide (Sha.sum (cur.drop 16) = S) := ⟨_, rfl⟩
      rw [← hsealed]
      have HSE := Lib.hid hsealed
      clear hsealed
      go_wp2_with fail
      refine PlanQ.in_ hs7 ?_
      refine wpPlan_nil ?_
      clear hs7
      cases sealed with
      | true =>
        go_wp2_with fail
        refine (sameBytes_any (some ⟨g, 0, none⟩) (some ⟨g3, 0, none⟩) 1024 1024 1024 cap3 cur cur0 HCL.out.symm HLEN.out.symm w8 hgr7.bytes (by have := hg37.bytes.take cur0.length; rwa [List.take_left] at this)).mono ?_
        rintro e w9 ⟨rfl, rfl⟩
        by_cases hc : cur = cur0
        · obtain rfl : code = 0 := by have := HQ.out; rw [hc, HREAD.out] at this; exact (Prod.mk.inj this).1
          rw [decide_eq_true hc]
          clear hc
          go_wp2
          go_ret
          exact ⟨rfl, hB7⟩
        · rw [decide_eq_false hc]
          clear hc
          go_wp2
          go_ret
          exact ⟨rfl, hB7⟩
      | false =>
        obtain rfl : code = 12 := by
          have h1 := GB.read_unsealed cur HCL.out (by have h2 := of_decide_eq_false HSE.out.symm; rwa [HS.out] at h2)
          rw [← HQ.out] at h1; exact h1
        go_wp2
        go_ret
        exact ⟨rfl, hB7⟩
end Go.Proofs.Ytfpcldnefpmgcaa
