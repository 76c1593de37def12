/- The statement that turned bytes are told, as a call: it answers true and writes nothing that was there. Condition: the bytes and the turns can be read. -/
import Derived.Test.YtfpcldnefpmgcaaBack
import Derived.Test.YtfpcldnefpmgcaaPick
namespace Go.Proofs.Ytfpcldnefpmgcaa
open Go.RowKit
/-- A list of turns: a place and a mask each. -/
abbrev TurnsT := List (Int × UInt8 × Unit)
/-- The turns can be read. -/
def Turns (w : World) (B : Option Addr) (ts : TurnsT) : Prop :=
  (∀ i, (h : i < ts.length) → -9223372036854775808 ≤ ts[i].1 ∧ ts[i].1 ≤ 9223372036854775807) ∧
  (0 < ts.length → ∃ b off, B = some ⟨b, off, none⟩ ∧ ∀ i, (h : i < ts.length) → w.cell? ⟨b, off + 2 * i, none⟩ = some (.int .i64 ts[i].1) ∧ w.cell? ⟨b, off + (2 * i + 1), none⟩ = some (.int .u8 (iu8 ts[i].2.1)))
theorem Turns.below {w w' : World} {B : Option Addr} {ts : TurnsT} (h : Turns w B ts) (hb : Below w.heap.size w w') : Turns w' B ts := by
  refine ⟨h.1, fun hp => ?_⟩
  obtain ⟨b, off, e, hc⟩ := h.2 hp
  have hlt := World.block_lt_of_cell? w _ (hc 0 hp).1
  exact ⟨b, off, e, fun i hi => ⟨(hb.cell (p := ⟨b, off + 2 * i, none⟩) hlt).trans (hc i hi).1, (hb.cell (p := ⟨b, off + (2 * i + 1), none⟩) hlt).trans (hc i hi).2⟩⟩
instance {w w' : World} {B : Option Addr} {ts : TurnsT} : KeepsTo w w' (Turns w B ts) (Turns w' B ts) := ⟨fun hb h => h.below hb⟩
def turnSh : Sh := .cons (.int .i64) (.cons .byte .nil)
theorem Turns.of {w : World} {B : Option Addr} {ts : TurnsT} {rows : List (List Value)} (h : Both (fun (d : turnSh.T) r => r.length = turnSh.size ∧ Sh.Is w turnSh d r) ts rows) (hr : Reads w B rows.flatten) : Turns w B ts := by
  have hat : ∀ i, (hi : i < ts.length) → (-9223372036854775808 ≤ ts[i].1 ∧ ts[i].1 ≤ 9223372036854775807) ∧ rows.flatten[2 * i]? = some (.int .i64 ts[i].1) ∧ rows.flatten[2 * i + 1]? = some (.int .u8 (iu8 ts[i].2.1)) := by
    intro i hi
    obtain ⟨r, h1, h2, h3⟩ := both_at h i hi
    obtain ⟨c1, c2, rfl, _, hx, c3, c4, rfl, _, hy, hz⟩ := h2
    obtain ⟨rfl, hlo, hhi⟩ := hx
    have hy : c3 = [u8v ts[i].2.1] := hy
    have hz : c4 = [] := hz
    subst hy hz
    refine ⟨⟨hlo, hhi⟩, ?_, ?_⟩
    · have := h3 0 (by decide)
      rw [show i * turnSh.size + 0 = 2 * i by simp [turnSh, Sh.size]; omega] at this
      rw [this]; rfl
    · have := h3 1 (by decide)
      rw [show i * turnSh.size + 1 = 2 * i + 1 by simp [turnSh, Sh.size]; omega] at this
      rw [this]; rfl
  refine ⟨fun i hi => (hat i hi).1, fun hp => ?_⟩
  have hne : rows.flatten ≠ [] := by intro e; have := (hat 0 hp).2.1; rw [e] at this; simp at this
  obtain ⟨b, off, e, hc⟩ := hr hne
  exact ⟨b, off, e, fun i hi => ⟨hc _ _ (hat i hi).2.1, hc _ _ (hat i hi).2.2⟩⟩
theorem opened_turned (l cur : List UInt8) (h16 : 16 ≤ cur.length) (h : Sha.sum (cur.drop 16) ≠ cur.take 16) : Sha.opened cur = (12, []) ∧ cur ≠ Sha.seal_ l := by
  refine ⟨by unfold Sha.opened; rw [if_neg (by omega), if_neg h], fun e => h ?_⟩
  subst e
  unfold Sha.seal_
  have hs := Sha.sum_length l
  rw [List.drop_append_of_le_length (by omega), List.drop_of_length_le (by omega), List.nil_append, List.take_append_of_le_length (by omega), List.take_of_length_le (by omega)]
/-- Ahead of each turn. -/
def TurnRel (w : World) (n : Nat) (g g3 L : Nat) (sp was : List UInt8) (v : Value) (wr : World) : Prop :=
  ∃ (i : Nat) (cur : List UInt8), i ≤ n ∧ v = .int .i64 (i : Int) ∧ cur.length = L ∧ Blk wr g 5 ((cur ++ sp).map u8v).toArray ∧ Blk wr g3 5 (was.map u8v).toArray ∧ Below w.heap.size w wr
set_option maxHeartbeats 1000000 in
set_option maxRecDepth 100000 in
theorem cturned_any (A B : Option Addr) (n m c d : Nat) (l : List UInt8) (ts : TurnsT) (hn : n = l.length) (hm : m = ts.length) (hc : l.length ≤ c) (hd : ts.length ≤ d) (hc3 : c ≤ 9223372036854775807) (hd3 : d ≤ 9223372036854775807) (w : World) (hl : Bytes w A l) (hk : Turns w B ts) :
    Calls Try.prog 7 #[.slice A n c, .slice B m d] w fun e w' => e = .returned (.bool true) ∧ Below w.heap.size w w' := by
  subst hn hm
  by_cases h1 : 2000 < l.length
  · go_enter Try.func7, Try.ntmps7
    go_wp2_with fail
    refine (known_any w).mono ?_
    rintro e w1 ⟨rfl, hB⟩
    go_wp2
    go_ret
    exact ⟨rfl, hB⟩
  by_cases h2 : 40 < ts.length
  · go_enter Try.func7, Try.ntmps7
    go_wp2_with fail
    refine (known_any w).mono ?_
    rintro e w1 ⟨rfl, hB⟩
    go_wp2
    go_ret
    exact ⟨rfl, hB⟩
  have hsl : (Sha.seal_ l).length = l.length + 16 := by unfold Sha.seal_; rw [List.length_append, Sha.sum_length]; omega
  go_enter Try.func7, Try.ntmps7
  go_wp2_with fail
  refine (known_any w).mono ?_
  rintro e w1 ⟨rfl, hB⟩
  replace hl := keep hB hl
  have hsz1 := hB.size
  go_wp2_with fail
  refine (seal_any A _ c l rfl hc ⟨by omega, hc3⟩ w1 hl).mono ?_
  rintro e w2 ⟨v2, sp2, rfl, ho2, hbx⟩
  (replace hB := hB.trans (hbx.mono hB.size); clear hbx)
  obtain ⟨g, cap, rfl, hge, hg, hcap1, hcap2, hspl⟩ := OwnB.at_ ho2 (by omega)
  rw [hsl] at hcap1 ⊢
  have HSL := Lib.hid hsl
  have hge0 : w.heap.size ≤ g := by omega
  clear ho2 hl hsl
  generalize hcur : Sha.seal_ l = cur0 at hg HSL
  have HC := Lib.hid hcur
  clear hcur
  have hs2 : Bytes w2 (some ⟨g, 0, none⟩) cur0 := by have := hg.bytes.take cur0.length; rwa [List.take_left] at this
  have H1 : ((l.length : Int) + 16 != (l.length : Int) + 16) = false := by simp
  unfold maxLen at hcap2
  have hs2lt := hg.lt
  go_wp2_with fail
  refine (copyBytes_any (some ⟨g, 0, none⟩) (l.length + 16) cap cur0 HSL.out.symm (by have := HSL.out; omega) w2 hs2).mono ?_
  rintro e w3 ⟨v3, sp3, rfl, ho3, hbx⟩
  (replace hg := keep hbx hg; replace hB := hB.trans (hbx.mono hB.size); clear hbx)
  have hglt := hs2lt
  obtain ⟨g3, cap3, rfl, hge3, hg3, hcap31, hcap32, hspl3⟩ := OwnB.at_ ho3 (by have := HSL.out; omega)
  unfold maxLen at hcap32
  clear ho3 hs2
  go_wp2
  go_loopw [8] (fun v wr => TurnRel w ts.length g g3 (l.length + 16) sp2 (cur0 ++ sp3) v wr) (fun v _ => ts.length - (intOf v).toNat)
  case atStart => exact ⟨0, cur0, by omega, rfl, HSL.out, hg, hg3, hB⟩
  case round =>
    obtain ⟨i, cur, hi, rfl, hcl, hgr, hg3r, hBr⟩ := hrel
    clear hg hg3 hB
    have hkr := hk.below hBr
    have HCL := Lib.hid hcl
    clear hcl
    by_cases hlt : i < ts.length
    · obtain ⟨b, off, rfl, hcells⟩ := hkr.2 (by omega)
      obtain ⟨d1, d2⟩ := hcells i hlt
      have hb1 := hkr.1 i hlt
      generalize ts[i].1 = P at d1 hb1
      generalize ts[i].2.1 = M at d2
      rw [Nat.mul_comm] at d1
      rw [show off + (2 * i + 1) = off + i * 2 + 1 by omega] at d2
      clear hcells
      go_wp2_with fail
      refine (pick_any P (l.length + 16) (by omega) (by omega) wr).mono ?_
      rintro e wr ⟨rfl, rfl⟩
      have hat := pickN_lt P ((l.length : Int) + 16) (by omega)
      generalize pickN P ((l.length : Int) + 16) = at_ at hat
      have hatl : at_ < cur.length := by have := HCL.out; omega
      have dc : wr.cell? ⟨g, at_, none⟩ = some (.int .u8 (iu8 cur[at_])) := by rw [hgr.cell, List.getElem?_toArray, List.getElem?_map, List.getElem?_append_left hatl, List.getElem?_eq_getElem hatl]; rfl
      have fc := hgr.frozen at_
      go_wp2_with fail
      refine wp_region_tail 13 (by kernel_rfl) (by kernel_rfl) ?_
      dsimp only [List.take_succ_cons, List.take_zero, List.drop_succ_cons, List.drop_zero]
      repeat (go_big_quiet_step (fail))
      refine wpQuiet_nil ?_
      have ho := (hgr.set_ at_ (.int .u8 (iu8 (cur[at_] ^^^ M)))).drew
      have ho3 := (hg3r.off (show g3 ≠ g by omega) (i := at_) (.int .u8 (iu8 (cur[at_] ^^^ M)))).drew
      have hb3 := (hBr.set_ (c := g) (i := at_) hge0 (.int .u8 (iu8 (cur[at_] ^^^ M)))).drew
      replace ho := ho.sub (show _ = (((cur.set at_ (cur[at_] ^^^ M)) ++ sp2).map u8v).toArray by
        apply Array.ext'
        simp only [List.setIfInBounds_toArray]
        rw [← List.set_append_left _ _ hatl, List.map_set]; rfl)
      have HO := Lib.hid ho
      clear ho
      go_wp2
      rw [u8_xor_w]
      go_roundw
      case rel => exact ⟨i + 1, cur.set at_ (cur[at_] ^^^ M), by omega, by go_num, by rw [List.length_set]; exact HCL.out, HO.out, ho3, hb3⟩
      case measure => simp [intOf]; omega
    · obtain rfl : i = ts.length := by omega
      have h16 : 16 ≤ cur.length := by have := HCL.out; omega
      have hcb : Bytes wr (some ⟨g, 0, none⟩) cur := by have := hgr.bytes.take cur.length; rwa [List.take_left] at this
      have HD : Hid ((cur.drop 16).length = l.length) := Lib.hid (by rw [List.length_drop]; have := HCL.out; omega)
      clear hkr
      go_wp2_with fail
      refine (open_any (some ⟨g, 0, none⟩) _ cap cur HCL.out.symm (by have := HCL.out; omega) ⟨by have := HCL.out; omega, hcap2⟩ wr hcb).mono ?_
      rintro e w4 ⟨v4, rfl, ⟨sp4, ho4⟩, hbx⟩
      (replace hgr := keep hbx hgr; replace hg3r := keep hbx hg3r; replace hcb := keep hbx hcb; replace hBr := hBr.trans (hbx.mono hBr.size); clear hbx)
      obtain ⟨A4, c4, rfl, hc4, hm4, hs4⟩ := OwnB.open_ ho4
      clear ho4
      have hs16 := Sha.sum_length (cur.drop 16)
      obtain ⟨S, hS⟩ : ∃ S, S = Sha.sum (cur.drop 16) := ⟨_, rfl⟩
      obtain ⟨D, hD⟩ : ∃ D, D = cur.drop 16 := ⟨_, rfl⟩
      have hOp : Sha.opened cur = if S = cur.take 16 then (0, D) else (12, []) := by unfold Sha.opened; rw [if_neg (by omega), ← hS, ← hD]
      have hNe : S ≠ cur.take 16 → cur ≠ cur0 := fun h => by rw [← HC.out]; exact (opened_turned l cur h16 (hS ▸ h)).2
      rw [← hS] at hs16
      rw [← hD] at hS HD
      have HS := Lib.hid hS
      have HDE := Lib.hid hD
      have HO := Lib.hid hOp
      have a16 := alloc16
      clear hS hOp hD
      go_wp2_with ((show wpList _ _ _ ((⟨some 66, _, _, _, _, _⟩ : Oper) :: _) _ _; refine wpList_cut_bytes (o := ⟨some 66, _, _, _, _, _⟩) (by rfl) _ _ _ (by rfl) _ Try.underlying22 size1 (some ⟨g, 0, none⟩) (l.length + 16) (cap) .i64 (16) (by rfl) (by rfl) (cur) (HCL.out.symm) (by omega) (by omega) (hcb) ?_; intro A5 h5 _; rw [← HDE.out] at h5 ⊢))
      refine (sum_any A5 (cap - 16) D (by have := HD.out; omega) ⟨by have := HD.out; omega, by omega⟩ w4 h5).mono ?_
      rintro e w5 ⟨rfl, hbx⟩
      (replace hgr := keep hbx hgr; replace hg3r := keep hbx hg3r; replace hs4 := keep hbx hs4; replace hBr := hBr.trans (hbx.mono hBr.size); clear hbx h5 hcb)
      rw [← HS.out]
      go_wp2_with (first
        | (show wpList _ _ _ ((⟨none, _, _, _, _, _⟩ : Oper) :: _) _ _; refine wpList_store_blk (o := ⟨none, _, _, _, _, _⟩) (Blk.new w5 23 zero16) (by rfl) _ _ _ (by rfl) (by rfl) (S.map u8v).toArray (by rfl) size16 (arr_size _ _) (by simp [hs16]) (u8_all _) ?_; intro w6 h6 hux; have hbx := ((Below.refl _ _).alloc (Nat.le_refl _) (.cells zero16 23)).upd hux (Nat.le_refl w5.heap.size); replace hgr := keep hbx hgr; replace hg3r := keep hbx hg3r; replace hs4 := keep hbx hs4; replace hBr := hBr.trans (hbx.mono hBr.size); clear hux hbx)
        | fail)
      simp only [Act.put]
      refine wp_region_mix (fun w' => w' = w6.drew) [0, 1, 2] [] 3 [] (by kernel_rfl) (by kernel_rfl) (fun c a a' w h q => ⟨h ▸ q.1, q.2⟩) rfl ?_
      dsimp only [List.filterMap, List.getElem?_cons_zero, List.getElem?_cons_succ]
      repeat (go_big_quiet_step (fail))
      refine wpQuiet_nil ?_
      refine wpQuiet_nil ?_
      rintro w7 rfl
      have hq1 : Bytes w6.drew (some ⟨w5.heap.size, 0, none⟩) S := h6.drew.bytes
      have hT : (cur.take 16).length = 16 := by rw [List.length_take]; omega
      have hcur6 : Bytes w6.drew (some ⟨g, 0, none⟩) cur := by have := hgr.drew.bytes.take cur.length; rwa [List.take_left] at this
      have hq2 : Bytes w6.drew (some ⟨g, 0, none⟩) (cur.take 16) := hcur6.take 16
      have hq3 : Bytes w6.drew (some ⟨g3, 0, none⟩) cur0 := by have := hg3r.drew.bytes.take cur0.length; rwa [List.take_left] at this
      have hs4d : Bytes w6.drew A4 (Sha.opened cur).2 := hs4
      have hBd := hBr.drew
      clear hgr hg3r h6 hs4 hBr
      obtain ⟨w7, hw7⟩ : ∃ w7, w7 = w6.drew := ⟨_, rfl⟩
      rw [← hw7] at hq1 hq2 hq3 hs4d hBd hcur6 ⊢
      clear hw7
      go_wp2_with fail
      refine (sameBytes_any (some ⟨w5.heap.size, 0, none⟩) (some ⟨g, 0, none⟩) 16 16 16 cap S (cur.take 16) hs16.symm hT.symm w7 hq1 hq2).mono ?_
      rintro e w7 ⟨rfl, rfl⟩
      have HT := Lib.hid hT
      have HS16 := Lib.hid hs16
      clear hT hs16 hq1 hq2
      by_cases hcase : S = cur.take 16
      · rw [decide_eq_true hcase]
        have ho : Hid (Sha.opened cur = (0, D)) := Lib.hid (by rw [HO.out, if_pos hcase])
        clear hcase HO hNe
        rw [ho.out] at hs4d hc4 ⊢
        go_wp2_with (first
          | (show wpList _ _ _ ((⟨some 80, _, _, _, _, _⟩ : Oper) :: _) _ _; refine wpList_want (by rfl) ?_; refine wpList_cut_bytes (o := ⟨some 80, _, _, _, _, _⟩) (by rfl) _ _ _ (by rfl) _ Try.underlying22 size1 (some ⟨g, 0, none⟩) (l.length + 16) (cap) .i64 (16) (by rfl) (by rfl) (cur) (HCL.out.symm) (by omega) (by omega) (hcur6) ?_; intro A8 h8 _; rw [← HDE.out] at h8 ⊢)
          | fail)
        refine (sameBytes_any A4 A8 D.length D.length c4 (cap - 16) D D rfl rfl w7 hs4d h8).mono ?_
        rintro e w7 ⟨rfl, rfl⟩
        rw [decide_eq_true rfl]
        go_wp2
        go_ret
        exact ⟨rfl, hBd⟩
      · rw [decide_eq_false hcase]
        have ho : Hid (Sha.opened cur = (12, [])) := Lib.hid (by rw [HO.out, if_neg hcase])
        have hn := hNe hcase
        clear hcase HO hNe
        rw [ho.out] at hs4d hc4 ⊢
        go_wp2_with fail
        refine (sameBytes_any (some ⟨g, 0, none⟩) (some ⟨g3, 0, none⟩) (l.length + 16) cur0.length cap cap3 cur cur0 HCL.out.symm rfl w7 hcur6 hq3).mono ?_
        rintro e w7 ⟨rfl, rfl⟩
        rw [decide_eq_false hn]
        go_wp2
        go_ret
        exact ⟨rfl, hBd⟩
end Go.Proofs.Ytfpcldnefpmgcaa
