/- Pairs in memory of their own. Plain facts of this program. No condition. -/
import Derived.Test.YtgkljncigbiffaaDoorMTableTurned13
namespace Go.Proofs.YtgkljncigbiffaaDoor
open Go.RowKit
/-- Pairs, their keys and values in memory of their own. -/
structure PairsU (w : World) (base : Nat) (v : Value) (l : List PairT) (rows sp : List Value) : Prop where
  own : OwnsC 40 3 w base v l.length rows sp
  each : ∀ (i : Nat) (p : PairT), l[i]? = some p → ∃ (kv vv : Value) (sk sv : List UInt8), rows[i * 3]? = some kv ∧ rows[i * 3 + 1]? = some vv ∧ rows[i * 3 + 2]? = some (.bool p.2.2.1) ∧ OwnB 5 w base kv p.1 sk ∧ OwnB 5 w base vv p.2.1 sv
section
variable {w w' : World} {base : Nat} {v v' : Value} {l : List PairT} {rows sp : List Value} {X : List Nat}
theorem PairsU.nil (w : World) (base : Nat) : PairsU w base (.slice none 0 0) [] [] [] := ⟨OwnsC.nil _ _ _ _, fun i p h => (by simp at h)⟩
theorem PairsU.near (h : PairsU w base v l rows sp) (k : Near X w w') (h1 : ∀ x, v.ownBlock = some x → x ∉ X) (h2 : ∀ x cs, Blk w x 5 cs → x ∉ X) : PairsU w' base v l rows sp :=
  ⟨OwnsC.nearO h.own k h1, fun i p hp => by
    obtain ⟨kv, vv, sk, sv, e1, e2, e3, e4, e5⟩ := h.each i p hp
    exact ⟨kv, vv, sk, sv, e1, e2, e3, OwnsC.nearO e4 k (fun x hx => by obtain ⟨cs, hb⟩ := ownBlk e4 hx; exact h2 x cs hb), OwnsC.nearO e5 k (fun x hx => by obtain ⟨cs, hb⟩ := ownBlk e5 hx; exact h2 x cs hb)⟩⟩
theorem PairsU.below (h : PairsU w base v l rows sp) (k : Below w.heap.size w w') : PairsU w' base v l rows sp := h.near (X := []) (Near.below k) (by simp) (by simp)
theorem PairsU.base_ {b : Nat} (h : PairsU w base v l rows sp) (hb : b ≤ base) : PairsU w b v l rows sp :=
  ⟨OwnsC.base_ h.own hb, fun i p hp => by
    obtain ⟨kv, vv, sk, sv, e1, e2, e3, e4, e5⟩ := h.each i p hp
    exact ⟨kv, vv, sk, sv, e1, e2, e3, OwnsC.base_ e4 hb, OwnsC.base_ e5 hb⟩⟩
theorem PairsU.add (h : PairsU w base v l rows sp) {p : PairT} {kv vv : Value} {sk sv : List UInt8} {sp' : List Value} (hk : OwnB 5 w base kv p.1 sk) (hv : OwnB 5 w base vv p.2.1 sv)
    (hg : Near v.ownBlock.toList w w') (ho : OwnsC 40 3 w' base v' (l.length + 1) (rows ++ [kv, vv, .bool p.2.2.1]) sp') : PairsU w' base v' (l ++ [p]) (rows ++ [kv, vv, .bool p.2.2.1]) sp' := by
  have off : ∀ x cs, Blk w x 5 cs → x ∉ v.ownBlock.toList := fun x cs hb hm => by
    obtain ⟨cs', hb'⟩ := ownBlk h.own (Option.mem_toList.1 hm)
    exact hb.apart hb' (by decide) rfl
  have hlen : rows.length = l.length * 3 := OwnsC.length h.own
  refine ⟨by rw [List.length_append]; exact ho, fun i q hq => ?_⟩
  rw [List.getElem?_append] at hq
  split at hq
  · obtain ⟨kv', vv', sk', sv', e1, e2, e3, e4, e5⟩ := h.each i q hq
    have hlt : ∀ {j : Nat} {u : Value}, rows[j]? = some u → (rows ++ [kv, vv, .bool p.2.2.1])[j]? = some u := fun {j u} e => by
      rw [List.getElem?_append_left (List.getElem?_eq_some_iff.1 e).1]; exact e
    exact ⟨kv', vv', sk', sv', hlt e1, hlt e2, hlt e3, OwnsC.nearO e4 hg (fun x hx => by obtain ⟨cs, hb⟩ := ownBlk e4 hx; exact off x cs hb), OwnsC.nearO e5 hg (fun x hx => by obtain ⟨cs, hb⟩ := ownBlk e5 hx; exact off x cs hb)⟩
  · have : i = l.length := by
      have := (List.getElem?_eq_some_iff.1 hq).1
      simp only [List.length_singleton] at this; omega
    subst this
    rw [Nat.sub_self] at hq
    injection hq with hq
    subst hq
    refine ⟨kv, vv, sk, sv, ?_, ?_, ?_, OwnsC.nearO hk hg (fun x hx => by obtain ⟨cs, hb⟩ := ownBlk hk hx; exact off x cs hb), OwnsC.nearO hv hg (fun x hx => by obtain ⟨cs, hb⟩ := ownBlk hv hx; exact off x cs hb)⟩
    · rw [← hlen, List.getElem?_append_right (Nat.le_refl _), Nat.sub_self]; rfl
    · rw [← hlen, List.getElem?_append_right (by omega), Nat.add_sub_cancel_left]; rfl
    · rw [← hlen, List.getElem?_append_right (by omega), Nat.add_sub_cancel_left]; rfl
theorem PairsU.pairs (h : PairsU w base v l rows sp) : ∃ A c, v = .slice A l.length c ∧ l.length ≤ c ∧ c ≤ 9223372036854775807 ∧ Pairs w A l ∧ ∀ ad, A = some ad → base ≤ ad.block ∧ ad.block < w.heap.size := by
  obtain ⟨A, c, rfl, hc, hm, hr, -⟩ := OwnsC.reads h.own
  refine ⟨A, c, rfl, hc, hm, fun hp => ?_, fun ad e => OwnsC.lt h.own _ (by subst e; rfl)⟩
  obtain ⟨kv0, vv0, sk0, sv0, e0, -⟩ := h.each 0 l[0] (List.getElem?_eq_getElem hp)
  obtain ⟨b, off, rfl, hcell⟩ := hr (by intro e; rw [e] at e0; simp at e0)
  refine ⟨b, off, rfl, World.block_lt_of_cell? w _ (hcell 0 _ (by simpa using e0)), fun i hi => ?_⟩
  obtain ⟨kv, vv, sk, sv, e1, e2, e3, e4, e5⟩ := h.each i l[i] (List.getElem?_eq_getElem hi)
  obtain ⟨A1, c1, rfl, k1, k2, k3⟩ := OwnB.open_ e4
  obtain ⟨A2, c2, rfl, k4, k5, k6⟩ := OwnB.open_ e5
  exact ⟨A1, c1, A2, c2, hcell _ _ e1, by rw [Nat.add_assoc]; exact hcell _ _ e2, by rw [Nat.add_assoc]; exact hcell _ _ e3, k1, k2, k4, k5, k3, k6⟩
end
/-- The rest is cut, and put into its box. -/
theorem Rest.cut {w : World} {bx base : Nat} {x : UInt8} {s : List UInt8} {A A' : Option Addr} {c : Nat} (h : Rest w bx (x :: s) A c) (hb : Bytes w A' s) (hA : ∀ ad, A' = some ad → ∃ ad0, A = some ad0 ∧ ad0.block = ad.block) (hlow : ∀ ad, A = some ad → ad.block < base) (hbb : base ≤ bx) :
    Rest (w.setCell ⟨bx, 0, none⟩ (.slice A' s.length (c - 1))) bx s A' (c - 1) ∧ ∀ ad, A' = some ad → ad.block < base := by
  have hN : Near [bx] w (w.setCell ⟨bx, 0, none⟩ (.slice A' s.length (c - 1))) := near_set (Near.refl _ w) (by simp) _ _
  have hl : ∀ ad, A' = some ad → ad.block < base := fun ad e => by
    obtain ⟨ad0, e0, e1⟩ := hA ad e
    rw [← e1]; exact hlow ad0 e0
  refine ⟨⟨h.box.set_ 0 _, near_bytes hb hN (fun _ ad e hm => by have := hl ad e; have := List.mem_singleton.1 hm; omega), fun _ ad e => by have := hl ad e; omega, by have := h.hc; simp at this; omega, by have := h.hm; omega⟩, hl⟩
theorem infoPair : (Tryd.prog.info? 40).map (fun i => (i.zero, i.size, i.bytes)) = some (some (.agg #[.slice none 0 0, .slice none 0 0, .bool false]), 3, 56) := by kernel_rfl
/-- Ahead of each pair that is taken. -/
def UpRel (w : World) (bl : Nat) (R : Int × List PairT) (v : Value) (wr : World) : Prop :=
  ∃ (o : List PairT) (s : List UInt8) (rows sp : List Value) (A : Option Addr) (c : Nat), PairsU wr w.heap.size v o rows sp ∧ Rest wr w.heap.size s A c ∧ pfin o s = R ∧ o.length + s.length ≤ bl ∧ (∀ ad, A = some ad → s ≠ [] → ad.block < w.heap.size) ∧ Below w.heap.size w wr
def restLen (bx : Nat) (w : World) : Nat := match w.cell? ⟨bx, 0, none⟩ with | some (.slice _ n _) => n | _ => 0
theorem Rest.len {w : World} {bx : Nat} {s : List UInt8} {A : Option Addr} {c : Nat} (h : Rest w bx s A c) : restLen bx w = s.length := by
  unfold restLen
  rw [h.box.at_ 0 (v := .slice A s.length c) rfl]
set_option maxRecDepth 100000 in
set_option maxHeartbeats 8000000 in
theorem unpack_any (A : Option Addr) (c : Nat) (b : List UInt8) (hb : b.length ≤ 5000) (hc : b.length ≤ c) (hm : c ≤ 9223372036854775807) (w : World) (h : Bytes w A b) :
    Calls Tryd.prog 106 #[.slice A b.length c] w fun e w' => ∃ (v : Value) (rows sp : List Value), e = .returned (.tuple #[v, .int .i64 (punpack b).1]) ∧ PairsU w' w.heap.size v (punpack b).2 rows sp ∧ Below w.heap.size w w' := by
  obtain ⟨R, hR⟩ : ∃ R, R = punpack b := ⟨_, rfl⟩
  rw [← hR]
  have hB0 := (Below.refl w.heap.size w).alloc (Nat.le_refl _) (.cells #[.slice A b.length c] 22)
  have hlow : b ≠ [] → ∀ ad, A = some ad → ad.block < w.heap.size := fun hne ad e => by
    obtain ⟨b', o', e', h', _⟩ := Bytes.at_ h (List.length_pos_iff.2 hne)
    rw [e] at e'; injection e' with e'; subst e'; exact h'
  have hS : UpRel w b.length R (.slice none 0 0) (w.alloc (.cells #[.slice A b.length c] 22)) :=
    ⟨[], b, [], [], A, c, PairsU.nil _ _, ⟨Blk.new w _ _, Bytes.below h hB0, fun hne ad e => Nat.ne_of_lt (hlow hne ad e), hc, hm⟩, hR.symm, by simp, fun ad e hne => hlow hne ad e, hB0⟩
  have H0 := Lib.hid hS
  clear hB0 hS hR h hlow
  go_enter Tryd.func106, Tryd.ntmps106
  go_wp2_with fail
  generalize (w.alloc (.cells #[.slice A b.length c] 22)) = w1 at H0 ⊢
  go_loopw [4] (fun v wr => UpRel w b.length R v wr) (fun _ wr => restLen w.heap.size wr)
  case atStart => exact H0.out
  case round =>
    obtain ⟨o, s, rows, sp, A, c, hP, hRs, hfin, hlen, hlow, hB⟩ := hrel
    have d0 := hRs.box.at_ 0 (v := .slice A s.length c) rfl
    have f0 := hRs.box.frozen 0
    have hmeas := hRs.len
    cases s with
    | nil =>
      rw [pfin_end] at hfin
      simp only [List.length_nil] at d0
      obtain ⟨Ao, co, hvo, hco, hcm, hPr, -⟩ := hP.pairs
      have holen : o.length ≤ 5000 := by omega
      have hso := sorted_any Ao co o (by omega) wr hPr
      have HX := Lib.hid (And.intro hP (And.intro hfin hB))
      subst hvo
      obtain ⟨on, hon⟩ : ∃ on, on = o.length := ⟨_, rfl⟩
      rw [← hon] at hso ⊢
      have HO := Lib.hid hon
      clear hP hRs hfin hlen hlow hB hmeas hPr hco hcm holen hon f0
      by_cases h0 : on = 0
      · have hRf : R = (13, []) := by rw [← HX.out.2.1, if_pos (.inl (List.eq_nil_of_length_eq_zero (by rw [← HO.out]; exact h0)))]
        have HF := Lib.hid (And.intro hRf HX.out.2.2)
        subst h0
        clear hso hRf
        go_wp2_with fail
        refine bodyPost_ret (results_tmp2 rfl _ _ _) rfl ?_
        refine ⟨.slice none 0 0, [], [], by rw [HF.out.1]; rfl, by rw [HF.out.1]; exact PairsU.nil _ _, HF.out.2⟩
      have k1 : ((on : Int) == 0) = false := beq_eq_false_iff_ne.2 (by omega)
      have HO2 := Lib.hid h0
      clear h0
      go_wp2_with fail
      refine hso.mono ?_
      rintro e w2 ⟨rfl, hbx⟩
      cases hs : psorted o
      · have hRf : R = (13, []) := by rw [← HX.out.2.1, if_pos (.inr hs)]
        have HF := Lib.hid (And.intro hRf (HX.out.2.2.trans (hbx.mono HX.out.2.2.size)))
        clear hso hRf hs hbx
        go_wp2_with fail
        refine bodyPost_ret (results_tmp2 rfl _ _ _) rfl ?_
        refine ⟨.slice none 0 0, [], [], by rw [HF.out.1]; rfl, by rw [HF.out.1]; exact PairsU.nil _ _, HF.out.2⟩
      · have hRf : R = (0, o) := by
          rw [← HX.out.2.1, if_neg]
          rintro (h | h)
          · exact HO2.out (by rw [HO.out, h]; rfl)
          · rw [hs] at h; cases h
        have HF := Lib.hid (And.intro hRf (And.intro (HX.out.2.2.trans (hbx.mono HX.out.2.2.size)) (HX.out.1.below hbx)))
        clear hso hRf hs hbx
        go_wp2_with fail
        refine bodyPost_ret (results_tmp2 rfl _ _ _) rfl ?_
        refine ⟨.slice Ao on co, rows, sp, by rw [HF.out.1]; rfl, by rw [HF.out.1, HO.out]; exact HF.out.2.2, HF.out.2.1⟩
    | cons n0 r =>
      obtain ⟨bA, oA, rfl, hbl, hcell⟩ := Bytes.at_ hRs.rd (by simp)
      have d1 := hcell 0 (by simp)
      obtain ⟨nn, hnn⟩ : ∃ nn, nn = n0.toNat := ⟨_, rfl⟩
      have hnn2 : nn < 256 := by have := n0.toNat_lt; omega
      have hcap : 1 ≤ c := by have := hRs.hc; simp at this; omega
      have hcut : Bytes wr (some ⟨bA, oA, none⟩) (n0 :: r) := hRs.rd
      have hpt : ptake (n0 :: r) = if r.length ≤ nn then none else pval (r.take nn) (r.drop nn) := by rw [ptake_cons, hnn]
      rw [Nat.add_zero] at d1
      simp only [List.length_cons] at d0
      rw [show (n0 :: r).getD 0 0 = n0 from rfl, show iu8 n0 = (nn : Int) by rw [hnn]; rfl] at d1
      have HX := Lib.hid (And.intro hP (And.intro hRs (And.intro hfin (And.intro hlen (And.intro hlow (And.intro hB (And.intro hmeas (And.intro hcut hpt))))))))
      clear hP hRs hfin hlen hlow hB hmeas hcut hbl hcell hpt hnn
      go_wp2_with (first
        | ((with_reducible show wpList _ _ _ ((⟨some 19, _, _, _, _, _⟩ : Oper) :: _) _ _); refine wpList_cut_bytes (o := ⟨some 19, _, _, _, _, _⟩) (by rfl) _ _ _ (by rfl) _ Tryd.underlying22 size1 (some ⟨bA, oA, none⟩) (r.length + 1) (c) .i64 (1) (by rfl) (by rfl) (n0 :: r) (rfl) ((by omega)) (HX.out.2.1.hc) (HX.out.2.2.2.2.2.2.2.1) ?_; intro A2 h2 _; rename_i hA2; have H2 := Lib.hid (And.intro h2 hA2); clear h2 hA2; refine stopped ?_)
        | fail)
      refine Stopped.mk ?_
      have hN1 : Near [w.heap.size] wr (wr.setCell ⟨w.heap.size, 0, none⟩ (.slice A2 r.length (c - 1))) := near_set (Near.refl _ wr) (by simp) _ _
      have hA2 : ∀ ad, A2 = some ad → ad.block < w.heap.size := fun ad e => by
        obtain ⟨ad0, e0, e1⟩ := H2.out.2 ad e
        rw [← e1]; exact HX.out.2.2.2.2.1 ad0 e0 (by simp)
      have hR1 : Rest (wr.setCell ⟨w.heap.size, 0, none⟩ (.slice A2 r.length (c - 1))) w.heap.size r A2 (c - 1) :=
        ⟨HX.out.2.1.box.set_ 0 _, near_bytes H2.out.1 hN1 (fun _ ad e hm => by have := hA2 ad e; have := List.mem_singleton.1 hm; omega), fun _ ad e => Nat.ne_of_lt (hA2 ad e), by have := HX.out.2.1.hc; simp at this; omega, by have := HX.out.2.1.hm; omega⟩
      have hP1 := HX.out.1.near hN1 (fun x hx hm => by
        obtain ⟨cs, hb⟩ := ownBlk HX.out.1.own hx
        rw [List.mem_singleton.1 hm] at hb
        exact hb.apart HX.out.2.1.box (by decide) rfl) (fun x cs hb hm => by
        rw [List.mem_singleton.1 hm] at hb
        exact hb.apart HX.out.2.1.box (by decide) rfl)
      have hB1 := HX.out.2.2.2.2.2.1.trans (hN1.toBelow (fun x hx => by rw [List.mem_singleton.1 hx]; exact Nat.le_refl _) HX.out.2.2.2.2.2.1.size)
      have H3 := Lib.hid (And.intro hR1 (And.intro hP1 (And.intro hB1 hA2)))
      clear hN1 hA2 hR1 hP1 hB1
      go_wp2_with fail
      clear d0 d1 f0
      generalize wr.setCell ⟨w.heap.size, 0, none⟩ (.slice A2 r.length (c - 1)) = w1 at H3 ⊢
      refine (take_any nn w.heap.size r A2 (c - 1) w1 hnn2 H3.out.1).mono ?_
      rintro e w2 ⟨kv, sk, A3, c3, rfl, hk, hR2, hA3, hN2⟩
      have hk8 := hk
      obtain ⟨Ak, ck, hkv, hkc, hkm, -⟩ := OwnB.open_ hk
      have hP2 := H3.out.2.1.near hN2 (fun x hx hm => by
        obtain ⟨cs, hb⟩ := ownBlk H3.out.2.1.own hx
        rw [List.mem_singleton.1 hm] at hb
        exact hb.apart H3.out.1.box (by decide) rfl) (fun x cs hb hm => by
        rw [List.mem_singleton.1 hm] at hb
        exact hb.apart H3.out.1.box (by decide) rfl)
      have hB2 := H3.out.2.2.1.trans (hN2.toBelow (fun x hx => by rw [List.mem_singleton.1 hx]; exact Nat.le_refl _) H3.out.2.2.1.size)
      have hA4 : ∀ ad, A3 = some ad → ad.block < w.heap.size := fun ad e => by
        obtain ⟨ad0, e0, e1⟩ := hA3 ad e
        rw [← e1]; exact H3.out.2.2.2 ad0 e0
      have hk9 := OwnsC.base_ (base' := w.heap.size) hk H3.out.2.2.1.size
      have H4 := Lib.hid (And.intro hk9 (And.intro hR2 (And.intro hP2 (And.intro hB2 (And.intro hA4 (And.intro hkc hkm))))))
      subst hkv
      clear hk hk8 hR2 hA3 hN2 hP2 hB2 hA4 hk9 hkc hkm
      by_cases h1 : r.length < nn
      · have kt : tookB r nn = [] := if_pos h1
        have hRf : R = (13, []) := by rw [← HX.out.2.2.1]; exact pfin_none (parse_none (by simp) (HX.out.2.2.2.2.2.2.2.2.trans (if_pos (by omega))))
        have HF := Lib.hid (And.intro hRf H4.out.2.2.2.1)
        have kz2 : ((0 : Int) != (nn : Int)) = true := bne_iff_ne.2 (by omega)
        rw [kt]
        clear kt hRf h1 H4 hnn2
        simp only [List.length_nil]
        go_wp2_with fail
        refine bodyPost_ret (results_tmp2 rfl _ _ _) rfl ?_
        refine ⟨.slice none 0 0, [], [], by rw [HF.out.1]; rfl, by rw [HF.out.1]; exact PairsU.nil _ _, HF.out.2⟩
      have kt : tookB r nn = r.take nn := if_neg h1
      have kl : leftB r nn = r.drop nn := if_neg h1
      rw [kt, kl] at H4
      rw [kt]
      have htk : (r.take nn).length = nn := by rw [List.length_take]; omega
      rw [htk] at H4 ⊢
      have d0 := H4.out.2.1.box.at_ 0 (v := .slice A3 (r.drop nn).length c3) rfl
      have f0 := H4.out.2.1.box.frozen 0
      by_cases h2 : r.length ≤ nn
      · have hRf : R = (13, []) := by rw [← HX.out.2.2.1]; exact pfin_none (parse_none (by simp) (HX.out.2.2.2.2.2.2.2.2.trans (if_pos h2)))
        have HF := Lib.hid (And.intro hRf H4.out.2.2.2.1)
        rw [show (r.drop nn).length = 0 by rw [List.length_drop]; omega] at d0
        clear kt kl hRf h1 h2 H4 htk f0
        go_wp2_with fail
        refine bodyPost_ret (results_tmp2 rfl _ _ _) rfl ?_
        refine ⟨.slice none 0 0, [], [], by rw [HF.out.1]; rfl, by rw [HF.out.1]; exact PairsU.nil _ _, HF.out.2⟩
      have HT := Lib.hid (And.intro htk (HX.out.2.2.2.2.2.2.2.2.trans (if_neg h2)))
      clear kt kl htk
      cases hrd : r.drop nn with
      | nil => exact absurd (congrArg List.length hrd) (by rw [List.length_drop, List.length_nil]; omega)
      | cons m0 t =>
        rw [hrd] at H4 d0 HT
        obtain ⟨bM, oM, hAM, hbl, hcell⟩ := Bytes.at_ H4.out.2.1.rd (by simp)
        subst hAM
        have d1 := hcell 0 (by simp)
        obtain ⟨mm, hmm⟩ : ∃ mm, mm = m0.toNat := ⟨_, rfl⟩
        have hmm2 : mm < 256 := by have := m0.toNat_lt; omega
        have hcap3 : 1 ≤ c3 := by have := H4.out.2.1.hc; simp at this; omega
        rw [Nat.add_zero] at d1
        simp only [List.length_cons] at d0
        rw [show (m0 :: t).getD 0 0 = m0 from rfl, show iu8 m0 = (mm : Int) by rw [hmm]; rfl] at d1
        have HM := Lib.hid hmm
        have k5 : (((t.length + 1 : Nat) : Int) == 0) = false := beq_eq_false_iff_ne.2 (by omega)
        have k6 : ((t.length : Int) + 1 == 0) = false := beq_eq_false_iff_ne.2 (by omega)
        have hbl3 := (Below.refl w2.heap.size w2).alloc (Nat.le_refl _) (.cells #[.slice Ak nn ck, .slice none 0 0, .bool ((mm : Int) == 255)] 40)
        have hg3 := Blk.new w2 40 #[.slice Ak nn ck, .slice none 0 0, .bool ((mm : Int) == 255)]
        have q0 := H4.out.2.1.below hbl3
        have d2 := q0.box.at_ 0 (v := .slice (some ⟨bM, oM, none⟩) (t.length + 1) c3) rfl
        have f2 := q0.box.frozen 0
        have d3 := (hbl3.cell (p := ⟨bM, oM, none⟩) hbl).trans d1
        have H5 := Lib.hid (And.intro hg3 (And.intro hbl3 (And.intro q0 (H4.out.2.2.1.below hbl3))))
        clear hcell hrd h1 h2 hmm hbl3 q0 hg3
        go_wp2_with (first
          | ((with_reducible show wpList _ _ _ ((⟨some 43, _, _, _, _, _⟩ : Oper) :: _) _ _); refine wpList_cut_bytes (o := ⟨some 43, _, _, _, _, _⟩) (by rfl) _ _ _ (by rfl) _ Tryd.underlying22 size1 (some ⟨bM, oM, none⟩) (t.length + 1) (c3) .i64 (1) (by rfl) (by rfl) (m0 :: t) (rfl) ((by omega)) (H5.out.2.2.1.hc) (H5.out.2.2.1.rd) ?_; intro A5 h5 _; rename_i hA5; have H6 := Lib.hid (And.intro h5 hA5); clear h5 hA5; refine stopped ?_)
          | fail)
        refine Stopped.mk ?_
        have hcut := Rest.cut H5.out.2.2.1 H6.out.1 H6.out.2 H4.out.2.2.2.2.1 (Nat.le_refl _)
        have hN4 : Near [w.heap.size] (w2.alloc (.cells #[.slice Ak nn ck, .slice none 0 0, .bool ((mm : Int) == 255)] 40)) ((w2.alloc (.cells #[.slice Ak nn ck, .slice none 0 0, .bool ((mm : Int) == 255)] 40)).setCell ⟨w.heap.size, 0, none⟩ (.slice A5 t.length (c3 - 1))) := near_set (Near.refl _ _) (by simp) _ _
        have hg4 := H5.out.1.near hN4 (fun hm => by have := List.mem_singleton.1 hm; have := H4.out.2.1.box.lt; omega)
        have hP4 := H5.out.2.2.2.near hN4 (fun x hx hm => by
          obtain ⟨cs, hb⟩ := ownBlk H5.out.2.2.2.own hx
          rw [List.mem_singleton.1 hm] at hb
          exact hb.apart H5.out.2.2.1.box (by decide) rfl) (fun x cs hb hm => by
          rw [List.mem_singleton.1 hm] at hb
          exact hb.apart H5.out.2.2.1.box (by decide) rfl)
        have hk4 := OwnsC.nearO (OwnsC.ownBelow H4.out.1 H5.out.2.1) hN4 (fun x hx hm => by
          obtain ⟨cs, hb⟩ := ownBlk (OwnsC.ownBelow H4.out.1 H5.out.2.1) hx
          rw [List.mem_singleton.1 hm] at hb
          exact hb.apart H5.out.2.2.1.box (by decide) rfl)
        have hB4 := (H4.out.2.2.2.1.trans (H5.out.2.1.mono H4.out.2.2.2.1.size)).trans (hN4.toBelow (fun x hx => by rw [List.mem_singleton.1 hx]; exact Nat.le_refl _) (Nat.le_trans H4.out.2.2.2.1.size H5.out.2.1.size))
        have d4 := hg4.at_ 2 (v := .bool ((mm : Int) == 255)) rfl
        have H7 := Lib.hid (And.intro hcut (And.intro hg4 (And.intro hP4 (And.intro hk4 hB4))))
        -- TAIL (printed by gen/tbl.py)
        have hpv : ptake (n0 :: r) = if m0 = 255 then some ((r.take nn, [], true, ()), t) else if t.length < m0.toNat then none else some ((r.take nn, t.take m0.toNat, false, ()), t.drop m0.toNat) := by rw [HT.out.2, pval_cons]
        rw [← HM.out] at hpv
        have hgb : ((mm : Int) == 255) = decide (m0 = 255) := by
          by_cases e : m0 = 255
          · subst e; rw [HM.out, decide_eq_true rfl]; rfl
          · rw [decide_eq_false e, beq_eq_false_iff_ne]
            intro e2
            apply e
            apply UInt8.toNat_inj.1
            rw [← HM.out]
            show mm = 255
            omega
        have HPV := Lib.hid hpv
        rw [hgb] at H7 d4 d2 d3 f2 ⊢
        clear hgb hpv d0 d1 f0 k5 k6
        by_cases hm0 : m0 = 255
        · rw [decide_eq_true hm0] at H7 d4 d2 d3 f2 ⊢
          have hpt := HPV.out.trans (if_pos hm0)
          have h9 := H7.out.2.1
          have hnil : OwnB 5 ((w2.alloc (.cells #[.slice Ak nn ck, .slice none 0 0, .bool true] 40)).setCell ⟨w.heap.size, 0, none⟩ (.slice A5 t.length (c3 - 1))) w.heap.size (.slice none 0 0) [] [] := OwnsC.nil _ _ _ _
          have H8 := Lib.hid (And.intro H7.out.1.1 (And.intro H7.out.2.2.1 (And.intro H7.out.2.2.2.1 (And.intro hnil (And.intro H7.out.2.2.2.2 (And.intro hpt H7.out.1.2))))))
          clear hpt hm0 hnil H7
          -- the pair is whole
          go_wp2_with (first
            | ((with_reducible show wpList _ _ _ ((⟨some 56, _, _, _, _, _⟩ : Oper) :: _) _ _); refine wpList_load_blk (o := ⟨some 56, _, _, _, _, _⟩) (h9) (by rfl) _ _ (by rfl) (by rfl) _ Tryd.underlying40 (by rfl) (sizePair) (by rfl) ?_)
            | fail)
          have hpc := pcheck_any (r.take nn, [], true, ()) Ak none ck 0 ((w2.alloc (.cells #[.slice Ak nn ck, .slice none 0 0, .bool true] 40)).setCell ⟨w.heap.size, 0, none⟩ (.slice A5 t.length (c3 - 1)))
          unfold pairc at hpc
          simp only [HT.out.1] at hpc
          refine hpc.mono ?_
          rintro e w6 ⟨rfl, hbx⟩
          have H9 := Lib.hid (And.intro (H8.out.1.below hbx) (And.intro (h9.below hbx h9.lt) (And.intro (H8.out.2.1.below hbx) (And.intro (OwnsC.ownBelow H8.out.2.2.1 hbx) (And.intro (OwnsC.ownBelow H8.out.2.2.2.1 hbx) (H8.out.2.2.2.2.1.trans (hbx.mono H8.out.2.2.2.2.1.size)))))))
          clear hpc hbx h9
          cases hpk : pok (r.take nn, [], true, ())
          case false =>
            rw [show pokE (r.take nn, [], true, ()) = 2 by unfold pokE; rw [hpk]; rfl]
            have hRf : R = (13, []) := by rw [← HX.out.2.2.1]; exact pfin_none (parse_bad H8.out.2.2.2.2.2.1 hpk)
            have HF := Lib.hid (And.intro hRf H9.out.2.2.2.2.2)
            clear hpk hRf H9
            go_wp2_with fail
            refine bodyPost_ret (results_tmp2 rfl _ _ _) rfl ?_
            refine ⟨.slice none 0 0, [], [], by rw [HF.out.1]; rfl, by rw [HF.out.1]; exact PairsU.nil _ _, HF.out.2⟩
          case true =>
            rw [show pokE (r.take nn, [], true, ()) = 0 by unfold pokE; rw [hpk]; rfl]
            have hnext : pfin (o ++ [(r.take nn, [], true, ())]) t = R := by rw [← HX.out.2.2.1]; exact (pfin_step H8.out.2.2.2.2.2.1 hpk).symm
            have h10 := H9.out.2.1
            have hsl := ptake_len H8.out.2.2.2.2.2.1
            have holen : o.length ≤ 5000 := by have := HX.out.2.2.2.1; omega
            have HN := Lib.hid (And.intro hnext (And.intro hsl holen))
            have hbl := (Below.refl w6.heap.size w6).alloc (Nat.le_refl _) (.cells #[.slice Ak nn ck, .slice none 0 0, .bool true] 40)
            have hra : Reads (w6.alloc (.cells #[.slice Ak nn ck, .slice none 0 0, .bool true] 40)) (some ⟨w6.heap.size, 0, none⟩) [.slice Ak nn ck, .slice none 0 0, .bool true] := reads_new w6 40 [.slice Ak nn ck, .slice none 0 0, .bool true]
            have hP10 := H9.out.2.2.1.below hbl
            have H10 := Lib.hid (And.intro hP10 (And.intro hra (And.intro (OwnsC.ownBelow H9.out.2.2.2.1 hbl) (And.intro (OwnsC.ownBelow H9.out.2.2.2.2.1 hbl) (And.intro (H9.out.2.2.2.2.2.trans (hbl.mono H9.out.2.2.2.2.2.size)) (H9.out.1.below hbl))))))
            obtain ⟨Ao, co, hvo, -, -, -, -⟩ := OwnsC.reads hP10.own
            have HO := Lib.hid hP10.own
            subst hvo
            clear hnext hpk hbl hra hP10 hsl holen
            go_wp2_with (first
              | ((with_reducible show wpList _ _ _ ((⟨some 60, _, _, _, _, _⟩ : Oper) :: _) _ _); refine wpList_load_blk (o := ⟨some 60, _, _, _, _, _⟩) (h10) (by rfl) _ _ (by rfl) (by rfl) _ Tryd.underlying40 (by rfl) (sizePair) (by rfl) ?_)
              | ((with_reducible show wpList _ _ _ ((⟨some 62, _, _, _, _, _⟩ : Oper) :: _) _ _); refine wpList_append_vals (o := ⟨some 62, _, _, _, _, _⟩) (by rfl) _ _ _ (by rfl) w.heap.size 40 (.agg #[.slice none 0 0, .slice none 0 0, .bool false]) 3 56 Tryd.underlying41 infoPair (by rfl) (by omega) (.slice Ao o.length co) o.length rows sp (by rfl) HO.out (some ⟨w6.heap.size, 0, none⟩) 1 1 [.slice Ak nn ck, .slice none 0 0, .bool true] (by rfl) (by rfl) H10.out.2.1 (by simp [Value.oneCell']) (by have := HN.out.2.2; simp only [maxLen]; omega) (by have := HN.out.2.2; omega) H10.out.2.2.2.2.1.size ?_; intro v' W7 sp7 ho7 hg7 hv7 hn7; refine stopped ?_)
              | fail)
            refine Stopped.mk ?_
            have hN7 : Near (Value.slice Ao o.length co).ownBlock.toList _ W7 := Near.grown hg7 (fun x hx => Option.mem_toList.2 hx)
            have hPn := H10.out.1.add (p := (r.take nn, [], true, ())) (show OwnB 5 _ _ (.slice Ak nn ck) (r.take nn) sk by unfold OwnB; rw [HT.out.1]; exact H10.out.2.2.1) H10.out.2.2.2.1 hN7 ho7
            have holow : ∀ x ∈ (Value.slice Ao o.length co).ownBlock.toList, w.heap.size ≤ x := fun x hx => (OwnsC.lt H10.out.1.own x (Option.mem_toList.1 hx)).1
            have hRn := H10.out.2.2.2.2.2.near hN7 (fun hm => by
              obtain ⟨cs, hb⟩ := ownBlk H10.out.1.own (Option.mem_toList.1 hm)
              exact H10.out.2.2.2.2.2.box.apart hb (by decide) rfl) (fun _ ad e hm => by
              have := holow _ hm
              have := H8.out.2.2.2.2.2.2 ad e
              omega)
            have hBn := H10.out.2.2.2.2.1.trans (hN7.toBelow holow H10.out.2.2.2.2.1.size)
            have HZ := Lib.hid (show UpRel w b.length R v' W7 from ⟨_, t, _, sp7, _, _, hPn, hRn, HN.out.1, by have := HN.out.2.1; have := HX.out.2.2.2.1; simp only [List.length_append, List.length_singleton]; omega, fun ad e _ => H8.out.2.2.2.2.2.2 ad e, hBn⟩)
            have HMs := Lib.hid (show restLen w.heap.size W7 < restLen w.heap.size wr by rw [hRn.len, HX.out.2.2.2.2.2.2.1]; exact HN.out.2.1)
            obtain ⟨A7, c7, rfl, -, -, -, -⟩ := OwnsC.reads ho7
            clear hN7 hPn holow hRn hBn ho7 hg7 hv7 hn7 h10
            go_wp2_with fail
            go_roundw
            case rel => exact HZ.out
            case measure => exact HMs.out

        rw [decide_eq_false hm0] at H7 d4 d2 d3 f2 ⊢
        have hpt := HPV.out.trans (if_neg hm0)
        clear hm0
        go_wp2_with fail
        have hgl : ∀ x, u4.ownBlock = some x → x < w2.heap.size := fun x hx => (OwnsC.lt H4.out.2.2.1.own x hx).2
        have HG := Lib.hid (And.intro hgl hpt)
        clear d4 d2 d3 f2 hgl hpt
        generalize ((w2.alloc (.cells #[.slice Ak nn ck, .slice none 0 0, .bool false] 40)).setCell ⟨w.heap.size, 0, none⟩ (.slice A5 t.length (c3 - 1))) = w4 at H7 ⊢
        refine (take_any mm w.heap.size t A5 (c3 - 1) w4 hmm2 H7.out.1.1).mono ?_
        rintro e w5 ⟨vv, sv, A6, c6, rfl, hv, hR5, hA6, hN5⟩
        obtain ⟨Av, cv, hve, -, -, -⟩ := OwnB.open_ hv
        subst hve
        have hg5 := H7.out.2.1.near hN5 (fun hm => by
          have := H4.out.2.1.box.lt
          have := List.mem_singleton.1 hm
          omega)
        have offb : ∀ x cs, Blk w4 x 5 cs → x ∉ [w.heap.size] := fun x cs hb hm => by
          rw [List.mem_singleton.1 hm] at hb
          exact hb.apart H7.out.1.1.box (by decide) rfl
        have hP5 := H7.out.2.2.1.near hN5 (fun x hx hm => by
          obtain ⟨cs, hb⟩ := ownBlk H7.out.2.2.1.own hx
          rw [List.mem_singleton.1 hm] at hb
          exact hb.apart H7.out.1.1.box (by decide) rfl) offb
        have hk5 := OwnsC.nearO H7.out.2.2.2.1 hN5 (fun x hx => by obtain ⟨cs, hb⟩ := ownBlk H7.out.2.2.2.1 hx; exact offb x cs hb)
        have hB5 := H7.out.2.2.2.2.trans (hN5.toBelow (fun x hx => by rw [List.mem_singleton.1 hx]; exact Nat.le_refl _) H7.out.2.2.2.2.size)
        have hlow5 : ∀ ad, A6 = some ad → ad.block < w.heap.size := fun ad e => by
          obtain ⟨ad0, e0, e1⟩ := hA6 ad e
          rw [← e1]; exact H7.out.1.2 ad0 e0
        have hN6 : Near [w2.heap.size] w5 (w5.setCell ⟨w2.heap.size, 1, none⟩ (.slice Av (tookB t mm).length cv)) := near_set (Near.refl _ _) (by simp) _ _
        have hg6 := hg5.set_ 1 (.slice Av (tookB t mm).length cv)
        have off6 : ∀ x cs, Blk w5 x 5 cs → x ∉ [w2.heap.size] := fun x cs hb hm => by
          rw [List.mem_singleton.1 hm] at hb
          exact hb.apart hg5 (by decide) rfl
        have hP6 := hP5.near hN6 (fun x hx hm => by have := HG.out.1 x hx; have := List.mem_singleton.1 hm; omega) off6
        have hk6 := OwnsC.nearO hk5 hN6 (fun x hx => by obtain ⟨cs, hb⟩ := ownBlk hk5 hx; exact off6 x cs hb)
        have hv6 := OwnsC.base_ (base' := w.heap.size) (OwnsC.nearO hv hN6 (fun x hx => by obtain ⟨cs, hb⟩ := ownBlk hv hx; exact off6 x cs hb)) H7.out.2.2.2.2.size
        have hR6 := hR5.near hN6 (fun hm => by have := List.mem_singleton.1 hm; have := H4.out.2.1.box.lt; omega) (fun _ ad e hm => by have := List.mem_singleton.1 hm; have := hlow5 ad e; have := H4.out.2.2.2.1.size; omega)
        have hB6 := hB5.trans (hN6.toBelow (fun x hx => by rw [List.mem_singleton.1 hx]; exact H4.out.2.2.2.1.size) hB5.size)
        have d5 := hg5.at_ 1 (v := .slice none 0 0) rfl
        have f5 := hg5.frozen 1
        have d6 := hg6.at_ 1 (v := .slice Av (tookB t mm).length cv) rfl
        have H8a := Lib.hid (And.intro hR6 (And.intro hP6 (And.intro hk6 (And.intro hv6 (And.intro hB6 (And.intro hlow5 hg6))))))
        clear hg5 offb hP5 hk5 hB5 hlow5 hN6 hg6 off6 hP6 hk6 hv6 hR6 hB6 hv hR5 hA6 hN5 H7 hbl
        by_cases hlt : t.length < mm
        · have kt : tookB t mm = [] := if_pos hlt
          have hpt := HG.out.2.trans (if_pos hlt)
          have hRf : R = (13, []) := by rw [← HX.out.2.2.1]; exact pfin_none (parse_none (by simp) hpt)
          have HF := Lib.hid (And.intro hRf H8a.out.2.2.2.2.1)
          have kz : (((([] : List UInt8).length : Nat) : Int) != (mm : Int)) = true := bne_iff_ne.2 (by simp; omega)
          have kz2 : ((0 : Int) != (mm : Int)) = true := bne_iff_ne.2 (by omega)
          rw [kt] at HF d6 ⊢
          clear kt hpt hRf hlt H8a
          simp only [List.length_nil] at HF d6 ⊢
          go_wp2_with fail
          refine bodyPost_ret (results_tmp2 rfl _ _ _) rfl ?_
          refine ⟨.slice none 0 0, [], [], by rw [HF.out.1]; rfl, by rw [HF.out.1]; exact PairsU.nil _ _, HF.out.2⟩
        have kt : tookB t mm = t.take mm := if_neg hlt
        have kl : leftB t mm = t.drop mm := if_neg hlt
        have hpt := HG.out.2.trans (if_neg hlt)
        have htl : (t.take mm).length = mm := by rw [List.length_take]; omega
        rw [kt, kl] at H8a
        rw [kt] at d6 ⊢
        rw [htl] at d6 ⊢
        have hg9 := H8a.out.2.2.2.2.2.2
        rw [htl] at hg9 H8a
        have H8 := Lib.hid (And.intro H8a.out.1 (And.intro H8a.out.2.1 (And.intro H8a.out.2.2.1 (And.intro (show OwnB 5 _ w.heap.size (.slice Av mm cv) (t.take mm) sv by unfold OwnB; rw [htl]; exact H8a.out.2.2.2.1) (And.intro H8a.out.2.2.2.2.1 (And.intro hpt H8a.out.2.2.2.2.2.1))))))
        have h9 : Blk (w5.setCell ⟨w2.heap.size, 1, none⟩ (.slice Av mm cv)) w2.heap.size 40 #[.slice Ak nn ck, .slice Av mm cv, .bool false] := hg9
        clear kt kl hpt hlt hg9 H8a
        -- the pair is whole
        go_wp2_with (first
          | ((with_reducible show wpList _ _ _ ((⟨some 56, _, _, _, _, _⟩ : Oper) :: _) _ _); refine wpList_load_blk (o := ⟨some 56, _, _, _, _, _⟩) (h9) (by rfl) _ _ (by rfl) (by rfl) _ Tryd.underlying40 (by rfl) (sizePair) (by rfl) ?_)
          | fail)
        have hpc := pcheck_any (r.take nn, t.take mm, false, ()) Ak Av ck cv (w5.setCell ⟨w2.heap.size, 1, none⟩ (.slice Av mm cv))
        unfold pairc at hpc
        simp only [HT.out.1, htl] at hpc
        refine hpc.mono ?_
        rintro e w6 ⟨rfl, hbx⟩
        have H9 := Lib.hid (And.intro (H8.out.1.below hbx) (And.intro (h9.below hbx h9.lt) (And.intro (H8.out.2.1.below hbx) (And.intro (OwnsC.ownBelow H8.out.2.2.1 hbx) (And.intro (OwnsC.ownBelow H8.out.2.2.2.1 hbx) (H8.out.2.2.2.2.1.trans (hbx.mono H8.out.2.2.2.2.1.size)))))))
        clear hpc hbx h9
        cases hpk : pok (r.take nn, t.take mm, false, ())
        case false =>
          rw [show pokE (r.take nn, t.take mm, false, ()) = 2 by unfold pokE; rw [hpk]; rfl]
          have hRf : R = (13, []) := by rw [← HX.out.2.2.1]; exact pfin_none (parse_bad H8.out.2.2.2.2.2.1 hpk)
          have HF := Lib.hid (And.intro hRf H9.out.2.2.2.2.2)
          clear hpk hRf H9
          go_wp2_with fail
          refine bodyPost_ret (results_tmp2 rfl _ _ _) rfl ?_
          refine ⟨.slice none 0 0, [], [], by rw [HF.out.1]; rfl, by rw [HF.out.1]; exact PairsU.nil _ _, HF.out.2⟩
        case true =>
          rw [show pokE (r.take nn, t.take mm, false, ()) = 0 by unfold pokE; rw [hpk]; rfl]
          have hnext : pfin (o ++ [(r.take nn, t.take mm, false, ())]) (t.drop mm) = R := by rw [← HX.out.2.2.1]; exact (pfin_step H8.out.2.2.2.2.2.1 hpk).symm
          have h10 := H9.out.2.1
          have hsl := ptake_len H8.out.2.2.2.2.2.1
          have holen : o.length ≤ 5000 := by have := HX.out.2.2.2.1; omega
          have HN := Lib.hid (And.intro hnext (And.intro hsl holen))
          have hbl := (Below.refl w6.heap.size w6).alloc (Nat.le_refl _) (.cells #[.slice Ak nn ck, .slice Av mm cv, .bool false] 40)
          have hra : Reads (w6.alloc (.cells #[.slice Ak nn ck, .slice Av mm cv, .bool false] 40)) (some ⟨w6.heap.size, 0, none⟩) [.slice Ak nn ck, .slice Av mm cv, .bool false] := reads_new w6 40 [.slice Ak nn ck, .slice Av mm cv, .bool false]
          have hP10 := H9.out.2.2.1.below hbl
          have H10 := Lib.hid (And.intro hP10 (And.intro hra (And.intro (OwnsC.ownBelow H9.out.2.2.2.1 hbl) (And.intro (OwnsC.ownBelow H9.out.2.2.2.2.1 hbl) (And.intro (H9.out.2.2.2.2.2.trans (hbl.mono H9.out.2.2.2.2.2.size)) (H9.out.1.below hbl))))))
          obtain ⟨Ao, co, hvo, -, -, -, -⟩ := OwnsC.reads hP10.own
          have HO := Lib.hid hP10.own
          subst hvo
          clear hnext hpk hbl hra hP10 hsl holen
          go_wp2_with (first
            | ((with_reducible show wpList _ _ _ ((⟨some 60, _, _, _, _, _⟩ : Oper) :: _) _ _); refine wpList_load_blk (o := ⟨some 60, _, _, _, _, _⟩) (h10) (by rfl) _ _ (by rfl) (by rfl) _ Tryd.underlying40 (by rfl) (sizePair) (by rfl) ?_)
            | ((with_reducible show wpList _ _ _ ((⟨some 62, _, _, _, _, _⟩ : Oper) :: _) _ _); refine wpList_append_vals (o := ⟨some 62, _, _, _, _, _⟩) (by rfl) _ _ _ (by rfl) w.heap.size 40 (.agg #[.slice none 0 0, .slice none 0 0, .bool false]) 3 56 Tryd.underlying41 infoPair (by rfl) (by omega) (.slice Ao o.length co) o.length rows sp (by rfl) HO.out (some ⟨w6.heap.size, 0, none⟩) 1 1 [.slice Ak nn ck, .slice Av mm cv, .bool false] (by rfl) (by rfl) H10.out.2.1 (by simp [Value.oneCell']) (by have := HN.out.2.2; simp only [maxLen]; omega) (by have := HN.out.2.2; omega) H10.out.2.2.2.2.1.size ?_; intro v' W7 sp7 ho7 hg7 hv7 hn7; refine stopped ?_)
            | fail)
          refine Stopped.mk ?_
          have hN7 : Near (Value.slice Ao o.length co).ownBlock.toList _ W7 := Near.grown hg7 (fun x hx => Option.mem_toList.2 hx)
          have hPn := H10.out.1.add (p := (r.take nn, t.take mm, false, ())) (show OwnB 5 _ _ (.slice Ak nn ck) (r.take nn) sk by unfold OwnB; rw [HT.out.1]; exact H10.out.2.2.1) H10.out.2.2.2.1 hN7 ho7
          have holow : ∀ x ∈ (Value.slice Ao o.length co).ownBlock.toList, w.heap.size ≤ x := fun x hx => (OwnsC.lt H10.out.1.own x (Option.mem_toList.1 hx)).1
          have hRn := H10.out.2.2.2.2.2.near hN7 (fun hm => by
            obtain ⟨cs, hb⟩ := ownBlk H10.out.1.own (Option.mem_toList.1 hm)
            exact H10.out.2.2.2.2.2.box.apart hb (by decide) rfl) (fun _ ad e hm => by
            have := holow _ hm
            have := H8.out.2.2.2.2.2.2 ad e
            omega)
          have hBn := H10.out.2.2.2.2.1.trans (hN7.toBelow holow H10.out.2.2.2.2.1.size)
          have HZ := Lib.hid (show UpRel w b.length R v' W7 from ⟨_, (t.drop mm), _, sp7, _, _, hPn, hRn, HN.out.1, by have := HN.out.2.1; have := HX.out.2.2.2.1; simp only [List.length_append, List.length_singleton]; omega, fun ad e _ => H8.out.2.2.2.2.2.2 ad e, hBn⟩)
          have HMs := Lib.hid (show restLen w.heap.size W7 < restLen w.heap.size wr by rw [hRn.len, HX.out.2.2.2.2.2.2.1]; exact HN.out.2.1)
          obtain ⟨A7, c7, rfl, -, -, -, -⟩ := OwnsC.reads ho7
          clear hN7 hPn holow hRn hBn ho7 hg7 hv7 hn7 h10
          go_wp2_with fail
          go_roundw
          case rel => exact HZ.out
          case measure => exact HMs.out
end Go.Proofs.YtgkljncigbiffaaDoor

/- A data block of the grid is read: the program's data. Condition: the grid is known. -/
namespace Go.Proofs.YtgkljncigbiffaaDoor
open Go.RowKit
/-- What a data block tells. -/
def tdata (g : Grd) (d : Dsk) (f : Option Fus) (r : RefT) : Int × List PairT × Grd :=
  match (glook g d f r).2.1 with
  | none => ((glook g d f r).1, [], (glook g d f r).2.2)
  | some b => if b.1 = 1 ∧ b.2.2.1 = [] then ((punpack b.2.2.2.1).1, (punpack b.2.2.2.1).2, (glook g d f r).2.2) else (13, [], (glook g d f r).2.2)
theorem tdata_none {g : Grd} {d : Dsk} {f : Option Fus} {r : RefT} (h : (glook g d f r).2.1 = none) : tdata g d f r = ((glook g d f r).1, [], (glook g d f r).2.2) := by unfold tdata; rw [h]
theorem tdata_some {g : Grd} {d : Dsk} {f : Option Fus} {r : RefT} {b : GBT} (h : (glook g d f r).2.1 = some b) : tdata g d f r = if b.1 = 1 ∧ b.2.2.1 = [] then ((punpack b.2.2.2.1).1, (punpack b.2.2.2.1).2, (glook g d f r).2.2) else (13, [], (glook g d f r).2.2) := by unfold tdata; rw [h]
/-- A look that finds nothing has a number. -/
theorem glook_code {g : Grd} {d : Dsk} {f : Option Fus} {r : RefT} : ((glook g d f r).2.1 = none → (glook g d f r).1 ≠ 0) ∧ ((glook g d f r).2.1 ≠ none → (glook g d f r).1 = 0 ∧ (glook g d f r).2.2 = g) := by
  unfold glook
  split
  · exact ⟨fun _ => by simp, fun h => absurd rfl h⟩
  split
  · exact ⟨fun _ => by simp, fun h => absurd rfl h⟩
  cases gthere d r with
  | none => exact ⟨fun _ => by simp, fun h => absurd rfl h⟩
  | some b => exact ⟨fun h => (by cases h), fun _ => ⟨rfl, rfl⟩⟩
theorem read_body (raw : List UInt8) : (GB.read raw).2.2.2.2.1.length ≤ 860 := by
  unfold GB.read
  split
  · simp [GB.none_]
  split
  · simp [GB.none_]
  split
  · simp [GB.none_]
  split
  · rename_i h; exact (GB.ok_spec h.1).2.2.2.1
  · simp [GB.none_]
theorem read_few (raw : List UInt8) : (GB.read raw).2.2.2.1.length ≤ 16 := by
  unfold GB.read
  split
  · simp [GB.none_]
  split
  · simp [GB.none_]
  split
  · simp [GB.none_]
  split
  · rename_i h; exact (GB.ok_spec h.1).2.2.1
  · simp [GB.none_]
theorem look_body {g : Grd} {d : Dsk} {f : Option Fus} {r : RefT} {b : GBT} (h : (glook g d f r).2.1 = some b) : b.2.2.2.1.length ≤ 860 ∧ b.2.2.1.length ≤ 16 := by
  unfold glook at h
  split at h
  · cases h
  split at h
  · cases h
  cases ht : gthere d r with
  | none => rw [ht] at h; cases h
  | some b' =>
    rw [ht] at h
    injection h with h
    subst h
    unfold gthere at ht
    split at ht
    · injection ht with ht
      rw [← ht]
      exact ⟨read_body _, read_few _⟩
    · cases ht
section
variable {w : World} {q : GPl} {g : Grd} {d : Dsk} {f : Option Fus}
set_option maxRecDepth 100000 in
set_option maxHeartbeats 4000000 in
theorem tdata_any (h : GridR w q g d f) (hlen : g.W.length ≤ 1099511627776) (r : RefT) :
    Calls Tryd.prog 57 #[.pointer (some ⟨q.gg, 0, none⟩), .agg #[.int .i64 r.1, .int .i64 r.2.1]] w fun e w' => ∃ (v : Value) (rows sp : List Value), e = .returned (.tuple #[v, .int .i64 (tdata g d f r).1]) ∧ PairsU w' w.heap.size v (tdata g d f r).2.1 rows sp ∧ LPostI w q (decide ((tdata g d f r).1 = 0)) (tdata g d f r).2.2 d f w' := by
  have hz := zeroGBrun
  have hB := (Below.refl w.heap.size w).alloc (Nat.le_refl _) (.cells #[.int .i64 r.1, .int .i64 r.2.1] 33)
  have hbr := Blk.new w 33 #[.int .i64 r.1, .int .i64 r.2.1]
  have hr := gread_any (h.below hB) hlen r
  have H0 := Lib.hid (And.intro h hB)
  obtain ⟨T, hT⟩ : ∃ T, T = tdata g d f r := ⟨_, rfl⟩
  rw [← hT]
  have HTT := Lib.hid hT
  clear h hB hT
  go_enter Tryd.func57, Tryd.ntmps57
  go_wp2_with (first
    | ((with_reducible show wpList _ _ _ ((⟨some 10, _, _, _, _, _⟩ : Oper) :: _) _ _); refine wpList_load_blk (o := ⟨some 10, _, _, _, _, _⟩) (hbr) (by rfl) _ _ (by rfl) (by rfl) _ Tryd.underlying33 (by rfl) (size_ref) (by rfl) ?_)
    | fail)
  refine hr.mono ?_
  rintro e w1 ⟨v1, rfl, ⟨v2, A, c, B, e1, C, rfl, -, hA, hBy, hca, hce, hcm, -, -, -⟩, hL⟩
  obtain ⟨o, ho⟩ : ∃ o, o = (glook g d f r).2.1 := ⟨_, rfl⟩
  obtain ⟨cd, hcd⟩ : ∃ cd, cd = (glook g d f r).1 := ⟨_, rfl⟩
  rw [← ho] at hA hBy hca hce hL ⊢
  rw [← hcd]
  have hcode := @glook_code g d f r
  rw [← ho, ← hcd] at hcode
  have HT := Lib.hid (And.intro (show o = none → T = (cd, [], (glook g d f r).2.2) from fun e => by rw [hcd, HTT.out]; exact tdata_none (ho.symm.trans e)) (show ∀ b, o = some b → T = if b.1 = 1 ∧ b.2.2.1 = [] then ((punpack b.2.2.2.1).1, (punpack b.2.2.2.1).2, (glook g d f r).2.2) else (13, [], (glook g d f r).2.2) from fun b e => by rw [HTT.out]; exact tdata_some (ho.symm.trans e)))
  have HB := Lib.hid (show ∀ b, o = some b → b.2.2.2.1.length ≤ 860 ∧ b.2.2.1.length ≤ 16 from fun b e => look_body (ho.symm.trans e))
  clear HTT
  generalize (glook g d f r).2.2 = g2 at hL HT hcode
  have hsz1 := hL.1
  have hg6 := Blk.new w1 91 #[.int .i64 0, .int .i64 0, .int .i64 0, .slice none 0 0, .slice none 0 0]
  have H1 := Lib.hid (And.intro hL (And.intro hA hBy))
  clear hL hA hBy hsz1 ho hcd hr
  cases o with
  | none =>
    have hc0 := hcode.1 rfl
    have kc : (cd != 0) = true := bne_iff_ne.2 hc0
    have HF := Lib.hid (HT.out.1 rfl)
    clear hcode HT HB
    go_wp2_with (first
      | ((with_reducible show wpList _ _ _ ((⟨none, _, _, _, _, _⟩ : Oper) :: _) _ _); refine wpList_store_blk (o := ⟨none, _, _, _, _, _⟩) (hg6) (by rfl) _ _ _ (by rfl) (by rfl) (gbc ((none : Option GBT).getD GB.none_) A c B e1) (by rfl) (sizeGB) (by rfl) (by rfl) (gbc_one _ _ _ _ _) ?_; intro w3 h3 hu3; have hb3 := ((Below.refl w1.heap.size w1).alloc (Nat.le_refl _) (.cells #[.int .i64 0, .int .i64 0, .int .i64 0, .slice none 0 0, .slice none 0 0] 91)).upd hu3 (Nat.le_refl _); have H3 := Lib.hid hb3; clear hu3 hb3 h3)
      | fail)
    refine bodyPost_ret (results_tmp2 rfl _ _ _) rfl ?_
    refine ⟨.slice none 0 0, [], [], by rw [HF.out]; rfl, by rw [HF.out]; exact PairsU.nil _ _, ?_⟩
    rw [HF.out]
    refine ⟨(GPost.trans1 H0.out.2 H1.out.1.1).below H3.out, (fun e => absurd (of_decide_eq_true e) hc0), (GPostI.trans1 H0.out.2 H1.out.1.3).below H3.out⟩
  | some b =>
    obtain ⟨rfl, rfl⟩ := hcode.2 (by simp)
    have hbd := HB.out b rfl
    have hT2 := HT.out.2 b rfl
    have H2 := Lib.hid (And.intro hT2 (And.intro hbd (And.intro hca (And.intro hce hcm))))
    clear hcode HT HB hbd hT2 hca hce hcm
    have hk : ∃ bk, bk = (b.1 != 1) := ⟨_, rfl⟩
    obtain ⟨bk, hbk⟩ := hk
    have hl : ∃ bl, bl = decide (0 < b.2.2.1.length) := ⟨_, rfl⟩
    obtain ⟨bl, hbl⟩ := hl
    have HBK := Lib.hid (And.intro hbk hbl)
    have hbl2 : decide ((b.2.2.1.length : Int) > 0) = bl := by rw [hbl]; exact decide_eq_decide.2 (by omega)
    have hbk2 := hbk.symm
    have hbl3 := hbl.symm
    clear hbk hbl
    cases bk
    case true =>
      have hne : ¬ (b.1 = 1 ∧ b.2.2.1 = []) := fun h => by have := HBK.out.1; rw [h.1] at this; cases this
      have HF := Lib.hid (H2.out.1.trans (if_neg hne))
      clear H2 HBK hne hbl2 hbl3
      go_wp2_with (first
        | ((with_reducible show wpList _ _ _ ((⟨none, _, _, _, _, _⟩ : Oper) :: _) _ _); refine wpList_store_blk (o := ⟨none, _, _, _, _, _⟩) (hg6) (by rfl) _ _ _ (by rfl) (by rfl) (gbc ((some b : Option GBT).getD GB.none_) A c B e1) (by rfl) (sizeGB) (by rfl) (by rfl) (gbc_one _ _ _ _ _) ?_; intro w3 h3 hu3; have hb3 := ((Below.refl w1.heap.size w1).alloc (Nat.le_refl _) (.cells #[.int .i64 0, .int .i64 0, .int .i64 0, .slice none 0 0, .slice none 0 0] 91)).upd hu3 (Nat.le_refl _); have d0 := h3.at_ 0 (v := .int .i64 b.1) rfl; have H3 := Lib.hid hb3; clear hu3 hb3 h3)
        | fail)
      refine bodyPost_ret (results_tmp2 rfl _ _ _) rfl ?_
      refine ⟨.slice none 0 0, [], [], by rw [HF.out]; rfl, by rw [HF.out]; exact PairsU.nil _ _, ?_⟩
      rw [HF.out]
      exact ⟨(GPost.trans1 H0.out.2 H1.out.1.1).below H3.out, (fun e => absurd (of_decide_eq_true e) (by simp)), (GPostI.trans1 H0.out.2 H1.out.1.3).below H3.out⟩
    case false =>
    cases bl
    case true =>
      have hne : ¬ (b.1 = 1 ∧ b.2.2.1 = []) := fun h => by have := HBK.out.2; rw [h.2] at this; cases this
      have HF := Lib.hid (H2.out.1.trans (if_neg hne))
      clear H2 HBK hne
      go_wp2_with (first
        | ((with_reducible show wpList _ _ _ ((⟨none, _, _, _, _, _⟩ : Oper) :: _) _ _); refine wpList_store_blk (o := ⟨none, _, _, _, _, _⟩) (hg6) (by rfl) _ _ _ (by rfl) (by rfl) (gbc ((some b : Option GBT).getD GB.none_) A c B e1) (by rfl) (sizeGB) (by rfl) (by rfl) (gbc_one _ _ _ _ _) ?_; intro w3 h3 hu3; have hb3 := ((Below.refl w1.heap.size w1).alloc (Nat.le_refl _) (.cells #[.int .i64 0, .int .i64 0, .int .i64 0, .slice none 0 0, .slice none 0 0] 91)).upd hu3 (Nat.le_refl _); have d0 := h3.at_ 0 (v := .int .i64 b.1) rfl; have d1 := h3.at_ 3 (v := .slice A b.2.2.1.length c) rfl; have H3 := Lib.hid hb3; clear hu3 hb3 h3)
        | fail)
      refine bodyPost_ret (results_tmp2 rfl _ _ _) rfl ?_
      refine ⟨.slice none 0 0, [], [], by rw [HF.out]; rfl, by rw [HF.out]; exact PairsU.nil _ _, ?_⟩
      rw [HF.out]
      exact ⟨(GPost.trans1 H0.out.2 H1.out.1.1).below H3.out, (fun e => absurd (of_decide_eq_true e) (by simp)), (GPostI.trans1 H0.out.2 H1.out.1.3).below H3.out⟩
    case false =>
      have hyes : b.1 = 1 ∧ b.2.2.1 = [] := ⟨by have := HBK.out.1; simpa using this.symm, by have := HBK.out.2.symm; exact List.eq_nil_of_length_eq_zero (by have := of_decide_eq_false this; omega)⟩
      have HF := Lib.hid (H2.out.1.trans (if_pos hyes))
      clear HBK hyes
      go_wp2_with (first
        | ((with_reducible show wpList _ _ _ ((⟨none, _, _, _, _, _⟩ : Oper) :: _) _ _); refine wpList_store_blk (o := ⟨none, _, _, _, _, _⟩) (hg6) (by rfl) _ _ _ (by rfl) (by rfl) (gbc ((some b : Option GBT).getD GB.none_) A c B e1) (by rfl) (sizeGB) (by rfl) (by rfl) (gbc_one _ _ _ _ _) ?_; intro w3 h3 hu3; have hb3 := ((Below.refl w1.heap.size w1).alloc (Nat.le_refl _) (.cells #[.int .i64 0, .int .i64 0, .int .i64 0, .slice none 0 0, .slice none 0 0] 91)).upd hu3 (Nat.le_refl _); have d0 := h3.at_ 0 (v := .int .i64 b.1) rfl; have d1 := h3.at_ 3 (v := .slice A b.2.2.1.length c) rfl; have d2 := h3.at_ 4 (v := .slice B b.2.2.2.1.length e1) rfl; have H3 := Lib.hid hb3; clear hu3 hb3 h3)
        | fail)
      have hL1 := H1.out.1.2 rfl
      refine (unpack_any B e1 b.2.2.2.1 (by have := H2.out.2.1.1; omega) H2.out.2.2.2.1 H2.out.2.2.2.2 w3 (Bytes.below H1.out.2.2 H3.out)).mono ?_
      rintro e w4 ⟨v, rows, sp, rfl, hP, hbx⟩
      have hb4 := (H0.out.2.trans (hL1.mono H0.out.2.size)).trans ((H3.out.trans (hbx.mono H3.out.size)).mono (H0.out.2.trans (hL1.mono H0.out.2.size)).size)
      have H4 := Lib.hid (And.intro (hP.base_ (b := w.heap.size) (Nat.le_trans (H0.out.2.trans (hL1.mono H0.out.2.size)).size H3.out.size)) (And.intro hb4 (And.intro ((GPost.trans1 H0.out.2 H1.out.1.1).below (H3.out.trans (hbx.mono H3.out.size))) ((GPostI.trans1 H0.out.2 H1.out.1.3).below (H3.out.trans (hbx.mono H3.out.size))))))
      obtain ⟨Av, cv, rfl, -, -, -, -⟩ := OwnsC.reads hP.own
      clear hP hbx hb4 hL1 d0 d1 d2
      go_wp2_with fail
      refine bodyPost_ret (results_tmp2 rfl _ _ _) rfl ?_
      refine ⟨_, rows, sp, by rw [HF.out]; rfl, by rw [HF.out]; exact H4.out.1, ?_⟩
      rw [HF.out]
      exact ⟨H4.out.2.2.1, (fun _ => H4.out.2.1), H4.out.2.2.2⟩
end
end Go.Proofs.YtgkljncigbiffaaDoor

/- A block is let go, what was let go is settled; the set's bytes and counts; a flush. Conditions: the grid is known. -/
namespace Go.Proofs.YtgkljncigbiffaaDoor
open Go.RowKit
/-- A grid's set is changed where it stands. -/
theorem GridR.setIn {w w' : World} {q : GPl} {g : Grd} {d : Dsk} {f : Option Fus} {L : List Nat} (h : GridR w q g d f) (hs : Blk w' q.gs 203 (setCells L)) (hu : Near [q.gs] w w') (hL : SetOk L) (hlen : L.length = g.n) : GridR w' q { g with L := L } d f := by
  have hap := h.apart
  obtain ⟨wv, sp, h1, h2, h3⟩ := h.wn
  exact ⟨h.dk.nearX hu (fun x hx hm => hap.s (List.mem_singleton.1 hm ▸ hx)), hs, h.mp.near hu (fun hm => hap.si (List.mem_singleton.1 hm).symm),
    ⟨wv, sp, h1, h2.near hu (fun hm => hap.gs (List.mem_singleton.1 hm)), OwnsC.nearO h3 hu (fun x hx hm => (hap.wo x (h1 ▸ hx)).2.1 (List.mem_singleton.1 hm))⟩, ⟨h.ok.h1, h.ok.h512, hlen, hL, h.ok.room, h.ok.nd⟩, h.ne⟩
section
variable {w : World} {q : GPl} {g : Grd} {d : Dsk} {f : Option Fus}
theorem GPost.setIn {L : List Nat} {w1 w' : World} (h0 : GridR w q g d f) (hB : Below w.heap.size w w1) (hs : Blk w' q.gs 203 (setCells L)) (hu : Upd q.gs w1 w') (hL : SetOk L) (hlen : L.length = g.n) : GPost w q { g with L := L } d f w' :=
  ⟨q, rfl, rfl, rfl, (h0.below hB).setIn hs (Near.upd hu (List.mem_singleton_self _)) hL hlen, (Near.below hB).trans (Near.upd hu (GPl.mem.2 (.inr (.inl rfl)))), fun _ hx => .inl hx⟩
set_option maxRecDepth 100000 in
theorem gcounts_any (h : GridR w q g d f) : Calls Tryd.prog 45 #[.pointer (some ⟨q.gg, 0, none⟩)] w fun e w' => e = .returned (.tuple #[.int .i64 (cnts g.L 0 : Nat), .int .i64 (cnts g.L 1 : Nat), .int .i64 (cnts g.L 2 : Nat)]) ∧ Below w.heap.size w w' := by
  obtain ⟨wv, hb⟩ := h.blk
  have d2 := hb.at_ 2 (v := .pointer (some ⟨q.gs, 0, none⟩)) rfl
  have hn := gnone_any h
  have hs := counts_any g.L h.ok.set (by have := h.ok.len; have := h.ok.h1; omega) q.gs w h.st
  clear h hb
  go_enter Tryd.func45, Tryd.ntmps45
  go_wp2_with fail
  refine hn.mono ?_
  rintro e w1 ⟨rfl, hw⟩
  obtain rfl := hw.symm
  clear hn hw
  go_wp2_with fail
  refine hs.mono ?_
  rintro e w2 ⟨rfl, hB⟩
  have HB := Lib.hid hB
  clear hs hB
  go_wp2
  go_ret3
  exact ⟨rfl, HB.out⟩
set_option maxRecDepth 100000 in
theorem grelease_any (h : GridR w q g d f) (r : RefT) (hb1 : -9223372036854775808 ≤ r.1) (hb2 : r.1 ≤ 9223372036854775807) : Calls Tryd.prog 63 #[.pointer (some ⟨q.gg, 0, none⟩), .agg #[.int .i64 r.1, .int .i64 r.2.1]] w fun e w' => e = .returned (.int .i64 (turnCode g.L r.1 1)) ∧ GPost w q { g with L := turnL g.L r.1 1 2 } d f w' := by
  have hB := (Below.refl w.heap.size w).alloc (Nat.le_refl _) (.cells #[.int .i64 r.1, .int .i64 r.2.1] 33)
  have hbr := Blk.new w 33 #[.int .i64 r.1, .int .i64 r.2.1]
  have hn := gnone_any (h.below hB)
  have H0 := Lib.hid (And.intro h (And.intro hB (And.intro hbr (h.below hB))))
  have HR := Lib.hid (And.intro hb1 hb2)
  clear h hB hbr hb1 hb2
  go_enter Tryd.func63, Tryd.ntmps63
  go_wp2_with fail
  generalize (w.alloc (.cells #[.int .i64 r.1, .int .i64 r.2.1] 33)) = w1 at H0 hn ⊢
  refine hn.mono ?_
  rintro e w2 ⟨rfl, hw⟩
  obtain rfl := hw.symm
  clear hn hw
  go_wp2_with fail
  have hC0 : Near [q.gs] w1 w1.drew := (Near.refl _ _).drew
  have hG : Hid (∀ w', Near [q.gs] w1 w' → w'.cell? ⟨q.gg, 2, none⟩ = some (.pointer (some ⟨q.gs, 0, none⟩)) ∧ w'.cell? ⟨w.heap.size, 0, none⟩ = some (.int .i64 r.1)) := Lib.hid fun w' hw' => by
    obtain ⟨wv, hb⟩ := H0.out.2.2.2.blk
    have hap := H0.out.2.2.2.apart
    have hlt : q.gs < w.heap.size := H0.out.1.lt q.gs (GPl.mem.2 (.inr (.inl rfl)))
    exact ⟨(hb.near hw' (fun hm => hap.gs (List.mem_singleton.1 hm))).at_ 2 rfl, (H0.out.2.2.1.near hw' (fun hm => by have := List.mem_singleton.1 hm; omega)).at_ 0 rfl⟩
  refine wp_region_tree (Near [q.gs] w1) [] (PlanT.takes [0, 1, 2, 4] (PlanT.takes [3, 5] (.opt 6 (PlanT.takes [7] .done) .no))) (by kernel_rfl) (by kernel_rfl) (hC0) ?_
  refine wpTree_pure _ _ _ (by rfl) (by rfl) ?_
  dsimp only [List.filterMap, List.getElem?_cons_zero, List.getElem?_cons_succ]
  repeat (go_big_quiet_step (fail))
  refine wpQuiet_nil ?_
  refine wpTree_takeL _ _ _ (by rfl) (by rfl) (hC0) ?_
  dsimp only [List.filterMap, List.getElem?_cons_zero, List.getElem?_cons_succ]
  (refine wpQuiet_load_cell (fun w' hw' => (hG.out w' hw').1) (by rfl) _ _ (by rfl) (by rfl) _ Tryd.underlying26 (by rfl) ?_; simp only [Act.put, List.setIfInBounds_toArray, List.set_cons_zero, List.set_cons_succ])
  (refine wpQuiet_load_cell (fun w' hw' => (hG.out w' hw').2) (by rfl) _ _ (by rfl) (by rfl) _ Tryd.underlying3 (by rfl) ?_; simp only [Act.put, List.setIfInBounds_toArray, List.set_cons_zero, List.set_cons_succ])
  refine wpQuiet_nil ?_
  refine wpTree_one _ rfl ?_
  have hB1 : Below w1.heap.size w1 w1.drew := (Below.refl _ _).drew
  have hG1 := H0.out.2.2.2.below hB1
  have hs := release_any g.L hG1.ok.set (by have := hG1.ok.len; have := hG1.ok.h1; omega) q.gs r.1 HR.out.1 HR.out.2 w1.drew hG1.st
  go_wp2_with fail
  refine hs.mono ?_
  rintro e w2 ⟨rfl, hst, hu⟩
  have HP := Lib.hid (GPost.setIn H0.out.1 (H0.out.2.1.trans (hB1.mono H0.out.2.1.size)) hst hu (H0.out.1.ok.set.turn r.1 1 2 (by omega)) ((turnL_length _ _ _ _).trans H0.out.1.ok.len))
  have hC2 := hC0.trans (Near.upd hu (List.mem_singleton_self _))
  clear hs hst hu hG1 hG hC0
  go_wp2_with fail
  refine TreeQ.in_ hC2 ?_
  refine wpTree_pure _ _ _ (by rfl) (by rfl) ?_
  dsimp only [List.filterMap, List.getElem?_cons_zero, List.getElem?_cons_succ]
  repeat (go_big_quiet_step (fail))
  refine wpQuiet_nil ?_
  refine wpTree_done ?_
  go_wp2_with fail
  go_ret
  exact ⟨rfl, HP.out⟩
end
end Go.Proofs.YtgkljncigbiffaaDoor

/- Which bytes are a set's, plainly. No condition. -/
namespace Go.Proofs.YtgkljncigbiffaaDoor
open Go.RowKit
/-- How the bytes say block i (from nought on) is. -/
def crumb (b : List UInt8) (i : Nat) : Nat := (b.getD (2 + i / 4) 0).toNat / 4 ^ (i % 4) % 4
def rdn (b : List UInt8) : Nat := (b.getD 0 0).toNat + 256 * (b.getD 1 0).toNat
def rdF (n : Nat) (f : Nat → Nat) : List Nat := (List.range n).map f
def rd (b : List UInt8) : List Nat := rdF (rdn b) (crumb b)
end Go.Proofs.YtgkljncigbiffaaDoor

/- Another set is a grid's: Reset; a grid is made of a set: Open. Conditions: the grid, or the disk, is known; the bytes can be read. -/
namespace Go.Proofs.YtgkljncigbiffaaDoor
open Go.RowKit
theorem cnts3 (L : List Nat) (h : ∀ i, L.getD i 0 ≤ 2) : cnts L 0 + cnts L 1 + cnts L 2 = L.length := by
  induction L with
  | nil => rfl
  | cons x L ih =>
    have h0 := h 0
    have h1 := ih (fun i => by have := h (i + 1); simpa using this)
    have hx : x = 0 ∨ x = 1 ∨ x = 2 := by simp at h0; omega
    unfold cnts at h1 ⊢
    rcases hx with rfl | rfl | rfl <;> simp <;> omega
theorem Near.mix {X Y : List Nat} {w w1 w2 : World} (h : Near X w w1) (k : Near Y w1 w2) (hY : ∀ y ∈ Y, y ∈ X ∨ w.heap.size ≤ y) : Near X w w2 :=
  ⟨k.os.trans h.os, k.tape.trans h.tape, k.output.trans h.output, Nat.le_trans h.size k.size, fun j hj hn => (k.block j (Nat.lt_of_lt_of_le hj h.size) (fun hm => (hY j hm).elim hn (fun h => by omega))).trans (h.block j hj hn)⟩
section
variable {w : World} {q : GPl} {g : Grd} {d : Dsk} {f : Option Fus}
end
section
variable {w : World} {p : Pl} {gf : Option Nat} {d : Dsk} {f : Option Fus}
end
end Go.Proofs.YtgkljncigbiffaaDoor

/- An index block of the grid is read: the program's none and open. Condition: the grid is known. -/
namespace Go
open Go.RowKit
theorem run_cutB {P : Program} (w : World) (t e : TypeId) (ht : P.underlying t = some (.slice e)) (hsz : (P.info? e).map (·.size) = some 1) (A : Option Addr) (n c : Nat) (k k2 : IntKind) (lo hi : Nat) (h1 : lo ≤ hi) (h2 : hi ≤ c) :
    (Instr.sliceAt t (.slice A n c) (some (.int k (lo : Int))) (some (.int k2 (hi : Int))) none).run P w = .ok (.slice (if c = lo then A else A.map (·.add lo)) (hi - lo) (c - lo)) w := by
  obtain ⟨i, hi0, hs⟩ := Option.map_eq_some_iff.1 hsz
  have hsz' : (sizeOf e).run P w = .ok 1 w := by simp [sizeOf, typeInfo, hi0, hs]
  have hb1 : (Instr.sliceBound (.int k2 (hi : Int)) c .sliceAcap).run P w = .ok hi w := by
    have := run_sliceBound (P := P) w k2 (hi : Int) c .sliceAcap (by omega) (by omega)
    simpa using this
  have hb2 : (Instr.sliceBound (.int k (lo : Int)) hi .sliceB).run P w = .ok lo w := by
    have := run_sliceBound (P := P) w k (lo : Int) hi .sliceB (by omega) (by omega)
    simpa using this
  simp [Instr.sliceAt, Instr.slice, run_underlying ht, Instr.sliceBounds, hb1, hb2, hsz']
/-- s[lo:hi] of bytes, in a class of worlds. -/
theorem wpQuiet_cutB {P : Program} {ops : Array Oper} {C : World → Prop} {Q : Act → Prop} {rest : List Oper} {o : Oper} {a : Act} (hgd : o.guard = none) (t : TypeId) (x lo hi : Operand) (ho : o.op = .slice t x (some lo) (some hi) none) (e : TypeId)
    (ht : P.underlying t = some (.slice e)) (hsz : (P.info? e).map (·.size) = some 1) (A : Option Addr) (n c : Nat) (k k2 : IntKind) (L H : Nat) (hx : a.eval x = .slice A n c) (hlo : a.eval lo = .int k (L : Int)) (hhi : a.eval hi = .int k2 (H : Int)) (h1 : L ≤ H) (h2 : H ≤ c)
    (h : wpQuiet P ops C Q rest (a.put o.dst (.slice (if c = L then A else A.map (·.add L)) (H - L) (c - L)))) : wpQuiet P ops C Q (o :: rest) a := by
  refine wpQuiet_step fun K hK => ?_
  rw [if_pos (by simp [Region.wanted, hgd])]
  refine ⟨_, fun w hw => ?_, hK _ h⟩
  unfold Oper.quietAt execOp
  simp only [ho, hx, hlo, hhi, Option.map_some, Option.map_none, run_cutB w t e ht hsz A n c k k2 L H h1 h2, Sem.run_bind, Result.andThen_ok, Sem.run_pure]
  exact ⟨rfl, rfl⟩
theorem Bytes.cutB {w : World} {A : Option Addr} {l : List UInt8} (h : Bytes w A l) {lo hi c : Nat} (h2 : hi ≤ l.length) (hc : l.length ≤ c) : Bytes w (if c = lo then A else A.map (·.add lo)) ((l.drop lo).take (hi - lo)) :=
  (h.drop (k := lo) (cap := c) (by omega)).take _
namespace Proofs.YtgkljncigbiffaaDoor
/-- A grid that is there is one. -/
theorem tnone_any {w : World} {q : GPl} {g : Grd} {d : Dsk} {f : Option Fus} (h : GridR w q g d f) : Calls Tryd.prog 49 #[.pointer (some ⟨q.gg, 0, none⟩)] w fun e w' => e = .returned (.bool false) ∧ Below w.heap.size w w' := by
  have hc := gcounts_any h
  have h3 := cnts3 g.L h.ok.set.le
  have hl := h.ok.len
  have h1 := h.ok.h1
  have h5 := h.ok.h512
  generalize cnts g.L 0 = a at hc h3
  generalize cnts g.L 1 = b at hc h3
  generalize cnts g.L 2 = c at hc h3
  have ha : a ≤ 512 := by omega
  have hb : b ≤ 512 := by omega
  have hc5 : c ≤ 512 := by omega
  have hs : ¬ (a + b + c = 0) := by omega
  clear h h3 hl h1 h5
  have k1 : wrap64 ((a : Int) + (b : Int)) = ((a + b : Nat) : Int) := by rw [w64_in (by omega)]; omega
  have k2 : wrap64 (((a + b : Nat) : Int) + (c : Int)) = ((a + b + c : Nat) : Int) := by rw [w64_in (by omega)]; omega
  have k3 : (((a + b + c : Nat) : Int) == 0) = false := beq_eq_false_iff_ne.2 (by omega)
  have k4 : ((a : Int) + (b : Int) + (c : Int) == 0) = false := beq_eq_false_iff_ne.2 (by omega)
  have HK := Lib.hid hs
  clear hs
  go_enter Tryd.func49, Tryd.ntmps49
  go_wp2_with fail
  refine hc.mono ?_
  rintro e w1 ⟨rfl, hbx⟩
  have HB := Lib.hid hbx
  clear hc hbx
  go_wp2_with fail
  go_ret
  exact ⟨rfl, HB.out⟩
end Proofs.YtgkljncigbiffaaDoor
end Go
