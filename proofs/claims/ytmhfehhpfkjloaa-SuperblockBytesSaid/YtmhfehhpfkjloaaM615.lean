/- The next superblock is written: the program's Write. Conditions: the disk is known; the heads can be read, and are at most 1000. -/
import Derived.Test.YtmhfehhpfkjloaaM614
namespace Go.Proofs.Ytmhfehhpfkjloaa
open Go.RowKit
def WrtPost (w : World) (p : Pl) (gf : Option Nat) (r : (Int × SpT) × Dsk × Option Fus) (e : Ending) (w' : World) : Prop :=
  (∃ B, SupPost w r.1 B e w') ∧ DkOk w' p gf r.2.1 r.2.2 ∧ Near (p.all gf) w w'
/-- The blocks that Write laid, behind what it read. -/
structure WrSt (w : World) (p : Pl) (gf : Option Nat) (sv : Array Value) (g : Nat) (bv : Array Value) (b : List UInt8) (d : Dsk) (f : Option Fus) (W : World) : Prop where
  s : Blk W w.heap.size 26 sv
  res : Blk W (w.heap.size + 1) 26 spz
  best : Blk W g 26 bv
  raw : Blk W (g + 1) 94 (b.map u8v).toArray
  dk : DkOk W p gf d f
  near : Near (p.all gf) w W
  gl : w.heap.size + 2 ≤ g
  lt : ∀ x ∈ p.all gf, x < w.heap.size
theorem Heads.nearP {w w' : World} {A : Option Addr} {hs : List (Int × Int)} {X : List Nat} (h : Heads w A hs) (k : Near X w w') (hn : 0 < hs.length → ∀ ad, A = some ad → ad.block ∉ X) : Heads w' A hs := fun hp => h.near k (hn hp) hp
theorem Heads.reads {w : World} {A : Option Addr} {hs : List (Int × Int)} (h : Heads w A hs) : Reads w A (hdCells hs) := fun hne => by
  have hp : 0 < hs.length := by
    cases hs with
    | nil => exact absurd rfl hne
    | cons x l => simp
  obtain ⟨b, off, e, hc⟩ := h hp
  refine ⟨b, off, e, fun j v hv => ?_⟩
  rw [hdCells_map, List.getElem?_map] at hv
  have hlen := pairs_length hs
  have hj : j < 2 * hs.length := by
    rw [← hlen]
    cases hq : (hs.flatMap fun h => [h.1, h.2])[j]? with
    | none => rw [hq] at hv; cases hv
    | some x => exact (List.getElem?_eq_some_iff.1 hq).1
  have hi : j / 2 < hs.length := by omega
  obtain ⟨p1, p2⟩ := pairs_at hs (j / 2) _ (List.getElem?_eq_getElem hi)
  obtain ⟨c1, c2⟩ := hc (j / 2) hi
  rcases Nat.mod_two_eq_zero_or_one j with hm | hm
  · rw [show j = 2 * (j / 2) by omega, p1] at hv
    rw [show j = 2 * (j / 2) by omega, c1]
    simpa using hv
  · rw [show j = 2 * (j / 2) + 1 by omega, p2] at hv
    rw [show j = 2 * (j / 2) + 1 by omega, c2]
    simpa using hv
section
variable {w W W' : World} {p : Pl} {gf : Option Nat} {sv bv : Array Value} {g : Nat} {b : List UInt8} {d : Dsk} {f : Option Fus}
theorem DkOk.upd {j : Nat} (h : DkOk W p gf d f) (k : Near [j] W W') (hj : j ∉ p.all gf) : DkOk W' p gf d f := by
  have hx : ∀ x ∈ p.all gf, x ∉ [j] := fun x hx e => hj (List.mem_singleton.1 e ▸ hx)
  exact ⟨h.dr.near k ⟨hx _ (by simp [Pl.all]), hx _ (by simp [Pl.all]), hx _ (by simp [Pl.all])⟩, h.fr.near k (fun g hg => hx g (by simp [Pl.all, hg])), h.ok⟩
theorem WrSt.keep (h : WrSt w p gf sv g bv b d f W) (k : Near [] W W') : WrSt w p gf sv g bv b d f W' :=
  ⟨h.s.near k (by simp), h.res.near k (by simp), h.best.near k (by simp), h.raw.near k (by simp), h.dk.near k, h.near.trans (k.wider (by simp)), h.gl, h.lt⟩
theorem WrSt.off (h : WrSt w p gf sv g bv b d f W) {j : Nat} (hj : w.heap.size ≤ j) : j ∉ p.all gf := fun hx => by have := h.lt j hx; omega
theorem WrSt.setS (h : WrSt w p gf sv g bv b d f W) (u : Upd w.heap.size W W') {sv' : Array Value} (hb : Blk W' w.heap.size 26 sv') : WrSt w p gf sv' g bv b d f W' := by
  have k : Near [w.heap.size] W W' := Near.upd u (by simp)
  have hg := h.gl
  exact ⟨hb, h.res.near k (by simp), h.best.near k (by simp; omega), h.raw.near k (by simp; omega), h.dk.upd k (h.off (Nat.le_refl _)), h.near.high k (by simp), h.gl, h.lt⟩
theorem WrSt.setBest (h : WrSt w p gf sv g bv b d f W) (u : Upd g W W') {bv' : Array Value} (hb : Blk W' g 26 bv') : WrSt w p gf sv g bv' b d f W' := by
  have k : Near [g] W W' := Near.upd u (by simp)
  have hg := h.gl
  exact ⟨h.s.near k (by simp; omega), h.res.near k (by simp; omega), hb, h.raw.near k (by simp), h.dk.upd k (h.off (by omega)), h.near.high k (by simp; omega), h.gl, h.lt⟩
theorem WrSt.setRaw (h : WrSt w p gf sv g bv b d f W) (u : Upd (g + 1) W W') {b' : List UInt8} (hb : Blk W' (g + 1) 94 (b'.map u8v).toArray) : WrSt w p gf sv g bv b' d f W' := by
  have k : Near [g + 1] W W' := Near.upd u (by simp)
  have hg := h.gl
  exact ⟨h.s.near k (by simp; omega), h.res.near k (by simp; omega), h.best.near k (by simp), hb, h.dk.upd k (h.off (by omega)), h.near.high k (by simp; omega), h.gl, h.lt⟩
theorem WrSt.other (h : WrSt w p gf sv g bv b d f W) {j : Nat} (k : Near [j] W W') (hj : w.heap.size + 2 ≤ j) (hg : g + 1 < j) : WrSt w p gf sv g bv b d f W' :=
  ⟨h.s.near k (by simp; omega), h.res.near k (by simp; omega), h.best.near k (by simp; omega), h.raw.near k (by simp; omega), h.dk.upd k (h.off (by omega)), h.near.high k (by simp; omega), h.gl, h.lt⟩
theorem WrSt.disk (h : WrSt w p gf sv g bv b d f W) (k : Near (p.all gf) W W') {d' : Dsk} {f' : Option Fus} (hd : DkOk W' p gf d' f') : WrSt w p gf sv g bv b d' f' W' := by
  have hg := h.gl
  exact ⟨h.s.near k (h.off (by omega)), h.res.near k (h.off (by omega)), h.best.near k (h.off (by omega)), h.raw.near k (h.off (by omega)), hd, h.near.trans k, h.gl, h.lt⟩
/-- An end with an error: the result has been stored. -/
theorem WrSt.no (h : WrSt w p gf sv g bv b d f W) (u : Upd (w.heap.size + 1) W W') {c : Int} {r : (Int × SpT) × Dsk × Option Fus} (hr : r = ((c, Sp.none_), d, f)) : WrtPost w p gf r (.returned (.tuple #[.agg spz, .int .i64 c])) W' := by
  subst hr
  have k : Near [w.heap.size + 1] W W' := Near.upd u (by simp)
  exact ⟨⟨none, SupPost.no⟩, h.dk.upd k (h.off (by omega)), h.near.high k (by simp)⟩
end
theorem idx02 (w : World) : (Instr.index 99 (.agg #[.int .i64 0, .int .i64 2]) (.int .i64 0)).run Try.prog w = .ok (.int .i64 0) w ∧ (Instr.index 99 (.agg #[.int .i64 0, .int .i64 2]) (.int .i64 1)).run Try.prog w = .ok (.int .i64 2) w := ⟨by kernel_rfl, by kernel_rfl⟩
theorem hdCells_length (hs : List (Int × Int)) : (hdCells hs).length = hs.length * 2 := by rw [hdCells_map, List.length_map, pairs_length, Nat.mul_comm]
theorem hdCells_one (hs : List (Int × Int)) : ∀ u ∈ hdCells hs, u.oneCell' = true := fun u hu => by
  rw [hdCells_map] at hu
  obtain ⟨x, _, rfl⟩ := List.mem_map.1 hu
  rfl
/-- Ahead of a round of the loop that lays the new copies. -/
def WrLp (w : World) (p : Pl) (gf : Option Nat) (sv : Array Value) (g : Nat) (bv : Array Value) (b NB : List UInt8) (gn : Nat) (L0 L1 L2 : Int × Dsk × Option Fus) (v : Value) (W : World) : Prop :=
  Blk W gn 94 (NB.map u8v).toArray ∧
    ((v = .int .i64 0 ∧ WrSt w p gf sv g bv b L0.2.1 L0.2.2 W) ∨ (v = .int .i64 1 ∧ L1.1 = 0 ∧ WrSt w p gf sv g bv b L1.2.1 L1.2.2 W) ∨ (v = .int .i64 2 ∧ L1.1 = 0 ∧ L2.1 = 0 ∧ WrSt w p gf sv g bv b L2.2.1 L2.2.2 W))
set_option maxRecDepth 100000 in
set_option maxHeartbeats 4000000 in
theorem spWrite_all (f0 : HdF) (fe : Bool) (A : Option Addr) (n c : Nat) (hs : List (Int × Int)) (w : World) {p : Pl} {gf : Option Nat} {d : Dsk} {f : Option Fus} (hn : n = hs.length) (hc : n ≤ c) (hlen : hs.length ≤ 1000) (hh : Heads w A hs) (hA : 0 < hs.length → ∀ ad, A = some ad → ad.block ∉ p.all gf) (h : DkOk w p gf d f) :
    Calls Try.prog 14 #[.pointer (some ⟨p.gd, 0, none⟩), .agg (spc f0 fe (.slice A n c))] w (WrtPost w p gf (Sp.write d f (f0, fe, hs))) := by
  subst hn
  have hz := zeroSuper
  have hzr := zeroRaw
  obtain ⟨w0, hw0⟩ : ∃ w0, w0 = (w.alloc (.cells (spc f0 fe (.slice A hs.length c)) 26)).alloc (.cells spz 26) := ⟨_, rfl⟩
  have hx : Blk w0 w.heap.size 26 (spc f0 fe (.slice A hs.length c)) := hw0 ▸ (Blk.new w _ _).alloc _
  have hy : Blk w0 (w.heap.size + 1) 26 spz := hw0 ▸ Blk.new' _ _ _ (by simp)
  have hz0 : w0.heap.size = w.heap.size + 2 := by rw [hw0]; simp
  have hn0 : Near [] w w0 := hw0 ▸ Near.below (((Below.refl w.heap.size w).alloc (Nat.le_refl _) _).alloc (by simp) _)
  have h1 := h.near hn0
  have hrd := spReady_all h1.dr h1.fr h1.ok
  have H0 := Lib.hid (And.intro hx (And.intro hy (And.intro hn0 (And.intro h1 (And.intro hrd (And.intro (hh.near hn0 (by simp)) hz0))))))
  have HL := Lib.hid (And.intro hlen (And.intro hA (And.intro hc (And.intro h hh))))
  have hlt := h.lt
  have HLT := Lib.hid hlt
  clear hx hy hn0 h1 hrd hh h hlen hA hc hlt hz0
  unfold spc
  go_enter Try.func14, Try.ntmps14
  go_wp2_with fail
  change Calls _ _ _ ((w.alloc (.cells (spc f0 fe (.slice A hs.length c)) 26)).alloc (.cells spz 26)) _
  rw [← hw0]
  clear hw0
  refine H0.out.2.2.2.2.1.mono ?_
  rintro e w1 ⟨rfl, hw⟩
  obtain rfl := hw.symm
  clear hw
  by_cases hr : d.rdy f = 0
  case neg =>
    have hr' : (d.rdy f != 0) = true := by simpa using hr
    have HF : Hid (Sp.write d f (f0, fe, hs) = ((d.rdy f, Sp.none_), d, f)) := Lib.hid (by
      have ho : Sp.open_ d f = (d.rdy f, Sp.none_) := by unfold Sp.open_; rw [if_pos hr]
      unfold Sp.write; rw [ho]; exact if_pos hr)
    clear hr
    go_wp2_with (first
      | ((with_reducible show wpList _ _ _ ((⟨none, _, _, _, _, _⟩ : Oper) :: _) _ _); refine wpList_store_blk (o := ⟨none, _, _, _, _, _⟩) (H0.out.2.1) (by rfl) _ _ _ (by rfl) (by rfl) (spz) (by rfl) (sizeSuper) (spc_size _ _ _) (spc_size _ _ _) (spc_one _ _ _ rfl) ?_; intro w2 h2 hu2)
      | fail)
    refine bodyPost_ret (results_row_tmp (by rfl) _ _ _ _ _ _ (by rfl) h2 Try.underlying26 (by rfl) sizeSuper) rfl ?_
    rw [HF.out]
    have hn2 := H0.out.2.2.1.high (Near.upd (X := [w.heap.size + 1]) hu2 (by simp)) (by simp)
    exact ⟨⟨none, SupPost.no⟩, HL.out.2.2.2.1.near hn2, hn2.wider (by simp)⟩
  have ho : d.isOut f = false := by unfold Dsk.rdy at hr; cases hq : d.isOut f <;> simp [hq] at hr ⊢
  have hN : 8 ≤ d.N := by unfold Dsk.rdy at hr; rw [ho] at hr; simp at hr; omega
  have hop := open_any p gf d f _ H0.out.2.2.2.1.dr H0.out.2.2.2.1.fr H0.out.2.2.2.1.ok ho hN
  rw [hr]
  have HOP : Hid (Sp.open_ d f = if 0 < (Sp.best d.cpys).1.1 0 then (0, (Sp.best d.cpys).1) else (10, Sp.none_)) := Lib.hid (by unfold Sp.open_; rw [hr]; rfl)
  have H1 := Lib.hid (And.intro hop (And.intro ho hN))
  clear hop ho hN hr
  go_wp2_with fail
  refine H1.out.1.mono ?_
  rintro e w2 ⟨fb, feb, B, dd, hsb, rfl, hsm, hhd, hle, hfr, hb2⟩
  have hbl := Sp.best_len (cpys_len H0.out.2.2.2.1.ok H1.out.2.2)
  have hn2 := Near.below (X := []) hb2
  have hn3 := Near.below (X := []) (((Below.refl w2.heap.size w2).alloc (Nat.le_refl _) (.cells spz 26)).alloc (by simp) (.cells raw0 94))
  have hw2 : w.heap.size + 2 ≤ w2.heap.size := by have h1 := hn2.size; have h2 := H0.out.2.2.2.2.2.2; omega
  have hR : Blk ((w2.alloc (.cells spz 26)).alloc (.cells raw0 94)) (w2.heap.size + 1) 94 (zero512.map u8v).toArray := by
    rw [show (zero512.map u8v).toArray = raw0 from raw0_list.symm]; exact Blk.new' _ _ _ (by simp)
  have hX : WrSt w p gf (spc f0 fe (.slice A hs.length c)) w2.heap.size spz zero512 d f ((w2.alloc (.cells spz 26)).alloc (.cells raw0 94)) :=
    ⟨(H0.out.1.near hn2 (by simp)).near hn3 (by simp), (H0.out.2.1.near hn2 (by simp)).near hn3 (by simp), (Blk.new w2 _ _).alloc _, hR, (H0.out.2.2.2.1.near hn2).near hn3, ((H0.out.2.2.1.trans hn2).trans hn3).wider (by simp), hw2, HLT.out⟩
  have HX := Lib.hid (And.intro hX hbl)
  have HB := Lib.hid hsm
  have HON := Lib.hid H1.out.2
  clear hbl hn2 hn3 hw2 hR hX hsm hhd hle hfr hb2 H1 H0
  by_cases hpos : 0 < (Sp.best d.cpys).1.1 0
  case neg =>
    have HF : Hid (Sp.write d f (f0, fe, hs) = ((10, Sp.none_), d, f)) := Lib.hid (by
      have ho := HOP.out
      rw [if_neg hpos] at ho
      unfold Sp.write; rw [ho]; exact if_pos (by simp))
    rw [decide_eq_false hpos]
    clear hpos
    go_wp2_with (first
      | ((with_reducible show wpList _ _ _ ((⟨none, _, _, _, _, _⟩ : Oper) :: _) _ _); refine wpList_store_blk (o := ⟨none, _, _, _, _, _⟩) (HX.out.1.best) (by rfl) _ _ _ (by rfl) (by rfl) (spc fb feb (.slice B hsb.length dd)) (by rfl) (sizeSuper) (spc_size _ _ _) (spc_size _ _ _) (spc_one _ _ _ rfl) ?_; intro w4 h4 hu4; have H4 := Lib.hid (HX.out.1.setBest hu4 h4); clear h4 hu4)
      | ((with_reducible show wpList _ _ _ ((⟨none, _, _, _, _, _⟩ : Oper) :: _) _ _); refine wpList_store_blk (o := ⟨none, _, _, _, _, _⟩) (H4.out.raw) (by rfl) _ _ _ (by rfl) (by rfl) (((Sp.best d.cpys).2.map u8v).toArray) (by rfl) (sizeRaw) (by rw [List.size_toArray, List.length_map]; show zero512.length = 512; unfold zero512; rw [List.length_replicate]) (by rw [List.size_toArray, List.length_map]; exact HX.out.2) (u8_all _) ?_; intro w5 h5 hu5; have H5 := Lib.hid (H4.out.setRaw hu5 h5); clear h5 hu5)
      | ((with_reducible show wpList _ _ _ ((⟨none, _, _, _, _, _⟩ : Oper) :: _) _ _); refine wpList_store_blk (o := ⟨none, _, _, _, _, _⟩) (H5.out.res) (by rfl) _ _ _ (by rfl) (by rfl) (spz) (by rfl) (sizeSuper) (spc_size _ _ _) (spc_size _ _ _) (spc_one _ _ _ rfl) ?_; intro w6 h6 hu6)
      | fail)
    refine bodyPost_ret (results_row_tmp (by rfl) _ _ _ _ _ _ (by rfl) h6 Try.underlying26 (by rfl) sizeSuper) rfl ?_
    exact H5.out.no hu6 HF.out
  have hO : Sp.open_ d f = (0, (Sp.best d.cpys).1) := by rw [HOP.out, if_pos hpos]
  have eb : fb 0 = (Sp.best d.cpys).1.1 0 := HB.out.1 0 (by omega)
  have HO := Lib.hid (And.intro hO eb)
  have HR0 := Lib.hid (show 0 < fb 0 by rw [eb]; exact hpos)
  rw [decide_eq_true hpos]
  clear HOP hpos hO eb
  by_cases hfull : fb 0 = 1073741824
  case pos =>
    have HF : Hid (Sp.write d f (f0, fe, hs) = ((8, Sp.none_), d, f)) := Lib.hid (by
      unfold Sp.write; rw [HO.out.1, if_neg (by simp), if_pos (by rw [← HO.out.2]; exact hfull)])
    go_wp2_with (first
      | ((with_reducible show wpList _ _ _ ((⟨none, _, _, _, _, _⟩ : Oper) :: _) _ _); refine wpList_store_blk (o := ⟨none, _, _, _, _, _⟩) (HX.out.1.best) (by rfl) _ _ _ (by rfl) (by rfl) (spc fb feb (.slice B hsb.length dd)) (by rfl) (sizeSuper) (spc_size _ _ _) (spc_size _ _ _) (spc_one _ _ _ rfl) ?_; intro w4 h4 hu4; have H4 := Lib.hid (HX.out.1.setBest hu4 h4); clear h4 hu4)
      | ((with_reducible show wpList _ _ _ ((⟨none, _, _, _, _, _⟩ : Oper) :: _) _ _); refine wpList_store_blk (o := ⟨none, _, _, _, _, _⟩) (H4.out.raw) (by rfl) _ _ _ (by rfl) (by rfl) (((Sp.best d.cpys).2.map u8v).toArray) (by rfl) (sizeRaw) (by rw [List.size_toArray, List.length_map]; show zero512.length = 512; unfold zero512; rw [List.length_replicate]) (by rw [List.size_toArray, List.length_map]; exact HX.out.2) (u8_all _) ?_; intro w5 h5 hu5; have H5 := Lib.hid (H4.out.setRaw hu5 h5); have d7 := H5.out.best.at_ 0 (v := .int .i64 1073741824) (by rw [← hfull]; rfl); clear h5 hu5)
      | ((with_reducible show wpList _ _ _ ((⟨none, _, _, _, _, _⟩ : Oper) :: _) _ _); refine wpList_store_blk (o := ⟨none, _, _, _, _, _⟩) (H5.out.res) (by rfl) _ _ _ (by rfl) (by rfl) (spz) (by rfl) (sizeSuper) (spc_size _ _ _) (spc_size _ _ _) (spc_one _ _ _ rfl) ?_; intro w6 h6 hu6)
      | fail)
    refine bodyPost_ret (results_row_tmp (by rfl) _ _ _ _ _ _ (by rfl) h6 Try.underlying26 (by rfl) sizeSuper) rfl ?_
    exact H5.out.no hu6 HF.out
  have hrange := (Sp.best_range d.cpys (by rw [← HO.out.2]; exact (HR0.out))).1
  rw [← HO.out.2] at hrange
  have hp0 := HR0.out
  obtain ⟨f1, hf1⟩ : ∃ f1, f1 = fun i => if i = 0 then fb 0 + 1 else f0 i := ⟨_, rfl⟩
  have hS1 : ∀ W, Blk W w.heap.size 26 (spc f0 fe (.slice A hs.length c)) → Blk (W.setCell ⟨w.heap.size, 0, none⟩ (.int .i64 (fb 0 + 1))) w.heap.size 26 (spc f1 fe (.slice A hs.length c)) := fun W h => by
    have h2 := h.set_ 0 (.int .i64 (fb 0 + 1))
    rw [spc_seq, ← hf1] at h2
    exact h2
  have HS1 := Lib.hid (And.intro hS1 (show Sp.seq (fb 0 + 1) (f0, fe, hs) = (f1, fe, hs) from by rw [hf1]; rfl))
  clear hS1 hf1
  have HFU := Lib.hid hfull
  have hfull' : (fb 0 == 1073741824) = false := by rw [beq_eq_false_iff_ne]; exact hfull
  clear hfull
  go_wp2_with (first
    | ((with_reducible show wpList _ _ _ ((⟨none, _, _, _, _, _⟩ : Oper) :: _) _ _); refine wpList_store_blk (o := ⟨none, _, _, _, _, _⟩) (HX.out.1.best) (by rfl) _ _ _ (by rfl) (by rfl) (spc fb feb (.slice B hsb.length dd)) (by rfl) (sizeSuper) (spc_size _ _ _) (spc_size _ _ _) (spc_one _ _ _ rfl) ?_; intro w4 h4 hu4; have H4 := Lib.hid (HX.out.1.setBest hu4 h4); clear h4 hu4)
    | ((with_reducible show wpList _ _ _ ((⟨none, _, _, _, _, _⟩ : Oper) :: _) _ _); refine wpList_store_blk (o := ⟨none, _, _, _, _, _⟩) (H4.out.raw) (by rfl) _ _ _ (by rfl) (by rfl) (((Sp.best d.cpys).2.map u8v).toArray) (by rfl) (sizeRaw) (by rw [List.size_toArray, List.length_map]; show zero512.length = 512; unfold zero512; rw [List.length_replicate]) (by rw [List.size_toArray, List.length_map]; exact HX.out.2) (u8_all _) ?_; intro w5 h5 hu5; have H5 := Lib.hid (H4.out.setRaw hu5 h5); have d7 := H5.out.best.at_ 0 (v := .int .i64 (fb 0)) rfl; have d3 := H5.out.s.at_ 0 (v := .int .i64 (f0 0)) rfl; have f3 := H5.out.s.frozen 0; clear h5 hu5)
    | ((with_reducible show wpList _ _ _ ((⟨some 41, _, _, _, _, _⟩ : Oper) :: _) _ _); refine wpList_load_blk (o := ⟨some 41, _, _, _, _, _⟩) (HS1.out.1 _ H5.out.s) (by rfl) _ _ (by rfl) (by rfl) _ Try.underlying26 (by rfl) (sizeSuper) (by exact spc_size _ _ _) ?_)
    | fail)
  have h6 := H5.out.setS ((Upd.refl _ _).set 0 _) (HS1.out.1 _ H5.out.s)
  generalize w5.setCell ⟨w.heap.size, 0, none⟩ (.int .i64 (fb 0 + 1)) = w6 at h6 ⊢
  have hLen := HX.out.2
  generalize w2.heap.size = g at h6 ⊢
  have hh6 : Heads w6 A hs := HL.out.2.2.2.2.nearP h6.near HL.out.2.1
  have hchk := spCheck_any f1 fe A hs.length c hs w6 rfl HL.out.1 hh6
  have H6 := Lib.hid (And.intro h6 (And.intro hchk hLen))
  clear h6 hh6 hchk hLen d7 d3 f3 H5 H4 HX hrange hp0 hfull'
  clear w4 w5 w2
  refine H6.out.2.1.mono ?_
  rintro e w7 ⟨rfl, hb7⟩
  have h7 := H6.out.1.keep (Near.below hb7)
  have hW : Sp.write d f (f0, fe, hs) = if Sp.ok (f1, fe, hs) ≠ true then ((2, Sp.none_), d, f) else
      if (Sp.lays d f (Sp.best d.cpys).2 (Sp.bytes (f1, fe, hs))).1 ≠ 0 then (((Sp.lays d f (Sp.best d.cpys).2 (Sp.bytes (f1, fe, hs))).1, Sp.none_), (Sp.lays d f (Sp.best d.cpys).2 (Sp.bytes (f1, fe, hs))).2) else ((0, (f1, fe, hs)), (Sp.lays d f (Sp.best d.cpys).2 (Sp.bytes (f1, fe, hs))).2) := by
    unfold Sp.write
    rw [HO.out.1, if_neg (by simp), if_neg (by rw [← HO.out.2]; exact HFU.out)]
    show (if Sp.ok (Sp.seq ((Sp.best d.cpys).1.1 0 + 1) (f0, fe, hs)) ≠ true then _ else _) = _
    rw [← HO.out.2, HS1.out.2]
  have H7 := Lib.hid (And.intro h7 hW)
  have HLb := Lib.hid H6.out.2.2
  clear h7 hW hb7 H6
  by_cases hok : Sp.ok (f1, fe, hs) = true
  case neg =>
    rw [show spCode (f1, fe, hs) = 2 from if_neg hok]
    have HF : Hid (Sp.write d f (f0, fe, hs) = ((2, Sp.none_), d, f)) := Lib.hid (by rw [H7.out.2, if_pos hok])
    clear hok
    go_wp2_with (first
      | ((with_reducible show wpList _ _ _ ((⟨none, _, _, _, _, _⟩ : Oper) :: _) _ _); refine wpList_store_blk (o := ⟨none, _, _, _, _, _⟩) (H7.out.1.res) (by rfl) _ _ _ (by rfl) (by rfl) (spz) (by rfl) (sizeSuper) (spc_size _ _ _) (spc_size _ _ _) (spc_one _ _ _ rfl) ?_; intro w8 h8 hu8)
      | fail)
    refine bodyPost_ret (results_row_tmp (by rfl) _ _ _ _ _ _ (by rfl) h8 Try.underlying26 (by rfl) sizeSuper) rfl ?_
    exact H7.out.1.no hu8 HF.out
  rw [show spCode (f1, fe, hs) = 0 from if_pos hok]
  have hWl := H7.out.2
  rw [if_neg (by simpa using hok)] at hWl
  have HWL := Lib.hid (And.intro hWl hok)
  have hheal := heal_all (Sp.best d.cpys).2 w7 HLb.out H7.out.1.dk HON.out.1 HON.out.2
  have HH := Lib.hid hheal
  clear hWl hok hheal
  go_wp2_with (first
    | ((with_reducible show wpList _ _ _ ((⟨some 48, _, _, _, _, _⟩ : Oper) :: _) _ _); refine wpList_load_blk (o := ⟨some 48, _, _, _, _, _⟩) (H7.out.1.raw) (by rfl) _ _ (by rfl) (by rfl) _ Try.underlying94 (by rfl) (sizeRaw) (by rw [List.size_toArray, List.length_map]; exact HLb.out) ?_)
    | fail)
  refine HH.out.mono ?_
  rintro e w8 ⟨rfl, hdk8, hn8⟩
  have h8 := H7.out.1.disk hn8 hdk8
  obtain ⟨NB, hNB⟩ : ∃ x, x = Sp.bytes (f1, fe, hs) := ⟨_, rfl⟩
  have hls : Sp.lays d f (Sp.best d.cpys).2 NB = Sp.then_ (Sp.then_ (Sp.heals (Sp.best d.cpys).2 [0, 1, 2, 3] false d f) fun d f => Sp.lay d f NB 0 2) fun d f => Sp.lay d f NB 2 2 := rfl
  have hWl := HWL.out.1
  rw [← hNB] at hWl
  generalize Sp.heals (Sp.best d.cpys).2 [0, 1, 2, 3] false d f = L0 at h8 hls ⊢
  generalize Sp.lays d f (Sp.best d.cpys).2 NB = LL at hls hWl
  have H8 := Lib.hid (And.intro h8 (And.intro hls (And.intro hWl hNB)))
  have hnl : NB.length = 512 := by rw [hNB]; exact Sp.bytes_length _ (Sp.ok_spec HWL.out.2).2.1
  have HNL := Lib.hid hnl
  clear h8 hdk8 hn8 hls hWl hNB hnl HH H7
  clear w7 w6
  by_cases he : L0.1 = 0
  case neg =>
    have he' : (L0.1 != 0) = true := by simpa using he
    have HF : Hid (Sp.write d f (f0, fe, hs) = ((L0.1, Sp.none_), L0.2.1, L0.2.2)) := Lib.hid (by
      rw [H8.out.2.2.1, H8.out.2.1]
      have e1 : Sp.then_ L0 (fun d f => Sp.lay d f NB 0 2) = L0 := if_pos he
      rw [e1]
      have e2 : Sp.then_ L0 (fun d f => Sp.lay d f NB 2 2) = L0 := if_pos he
      rw [e2, if_pos he])
    clear he
    go_wp2_with (first
      | ((with_reducible show wpList _ _ _ ((⟨none, _, _, _, _, _⟩ : Oper) :: _) _ _); refine wpList_store_blk (o := ⟨none, _, _, _, _, _⟩) (H8.out.1.res) (by rfl) _ _ _ (by rfl) (by rfl) (spz) (by rfl) (sizeSuper) (spc_size _ _ _) (spc_size _ _ _) (spc_one _ _ _ rfl) ?_; intro w9 h9 hu9)
      | fail)
    refine bodyPost_ret (results_row_tmp (by rfl) _ _ _ _ _ _ (by rfl) h9 Try.underlying26 (by rfl) sizeSuper) rfl ?_
    exact H8.out.1.no hu9 HF.out
  have hla := spLaid_any f1 fe A hs.length c hs w8 rfl HWL.out.2 (HL.out.2.2.2.2.nearP H8.out.1.near HL.out.2.1)
  rw [← H8.out.2.2.2] at hla
  have HLA := Lib.hid (And.intro hla he)
  rw [he]
  clear hla he
  go_wp2_with (first
    | ((with_reducible show wpList _ _ _ ((⟨some 54, _, _, _, _, _⟩ : Oper) :: _) _ _); refine wpList_load_blk (o := ⟨some 54, _, _, _, _, _⟩) (H8.out.1.s) (by rfl) _ _ (by rfl) (by rfl) _ Try.underlying26 (by rfl) (sizeSuper) (by exact spc_size _ _ _) ?_)
    | fail)
  refine HLA.out.1.mono ?_
  rintro e w9 ⟨rfl, hb9⟩
  have h9 := (H8.out.1.keep (Near.below hb9))
  have hg9 := h9.raw.lt
  have h9a := h9.keep (Near.below ((Below.refl w9.heap.size w9).alloc (Nat.le_refl _) (.cells raw0 94)))
  have hr9 : Blk (w9.alloc (.cells raw0 94)) w9.heap.size 94 raw0 := Blk.new w9 _ _
  obtain ⟨L1, hL1⟩ : ∃ x, x = Sp.lay L0.2.1 L0.2.2 NB 0 2 := ⟨_, rfl⟩
  obtain ⟨L2, hL2⟩ : ∃ x, x = Sp.lay L1.2.1 L1.2.2 NB 2 2 := ⟨_, rfl⟩
  have hLL : LL = if L1.1 ≠ 0 then L1 else L2 := by
    rw [H8.out.2.1]
    have e1 : Sp.then_ L0 (fun d f => Sp.lay d f NB 0 2) = L1 := by unfold Sp.then_; rw [if_neg (by rw [HLA.out.2]; simp), hL1]
    rw [e1, hL2]
    rfl
  have HL2 := Lib.hid (And.intro hL1 (And.intro hL2 hLL))
  have H9 := Lib.hid (And.intro h9a (And.intro hr9 (And.intro hg9 h9.gl)))
  clear h9 h9a hr9 hg9 hb9 hL1 hL2 hLL
  go_wp2_with (first
    | ((with_reducible show wpList _ _ _ ((⟨none, _, _, _, _, _⟩ : Oper) :: _) _ _); refine wpList_store_blk (o := ⟨none, _, _, _, _, _⟩) (H9.out.2.1) (by rfl) _ _ _ (by rfl) (by rfl) ((NB.map u8v).toArray) (by rfl) (sizeRaw) (arr_size _ _) (by rw [List.size_toArray, List.length_map]; exact HNL.out) (u8_all _) ?_; intro w10 h10 hu10; have H10 := Lib.hid (And.intro (H9.out.1.other (Near.upd hu10 (by simp)) (by have := H9.out.2.2; omega) H9.out.2.2.1) h10); clear h10 hu10)
    | fail)
  have hgn := H9.out.2.2
  generalize w9.heap.size = gn at H10 hgn ⊢
  have HGN := Lib.hid hgn
  clear hgn H9 HLA
  clear w9
  go_loopw [57] (fun v wr => WrLp w p gf (spc f1 fe (.slice A hs.length c)) g (spc fb feb (.slice B hsb.length dd)) (Sp.best d.cpys).2 NB gn L0 L1 L2 v wr) (fun v _ => 2 - (intOf v).toNat)
  case atStart => exact ⟨H10.out.2, .inl ⟨rfl, H10.out.1⟩⟩
  case round =>
    clear H10
    obtain ⟨hbn, hrel⟩ := hrel
    rcases hrel with ⟨rfl, hw⟩ | ⟨rfl, e1, hw⟩ | ⟨rfl, e1, e2, hw⟩
    · have hla := lay_all NB 0 2 wr HNL.out (by omega) (by omega) hw.dk
      rw [← HL2.out.1] at hla
      have hix := (idx02 wr).1
      have HR := Lib.hid (And.intro hbn (And.intro hw hla))
      clear hbn hw hla
      go_wp2_with (first
        | ((with_reducible show wpList _ _ _ ((⟨some 61, _, _, _, _, _⟩ : Oper) :: _) _ _); refine wpList_load_blk (o := ⟨some 61, _, _, _, _, _⟩) (HR.out.1) (by rfl) _ _ (by rfl) (by rfl) _ Try.underlying94 (by rfl) (sizeRaw) (by rw [List.size_toArray, List.length_map]; exact HNL.out) ?_)
        | fail)
      refine HR.out.2.2.mono ?_
      rintro e w11 ⟨rfl, hdk11, hn11⟩
      have h11 := HR.out.2.1.disk hn11 hdk11
      have hb11 := HR.out.1.near hn11 (h11.off (by have := HGN.out; omega))
      have H11 := Lib.hid (And.intro hb11 h11)
      clear hb11 h11 hdk11 hn11 hix HR
      by_cases he : L1.1 = 0
      · have HE := Lib.hid he
        rw [he]
        clear he
        go_wp2_with fail
        go_roundw
        case rel => exact ⟨H11.out.1, .inr (.inl ⟨by go_num, HE.out, H11.out.2⟩)⟩
        case measure => simp [intOf]
      · have he' : (L1.1 != 0) = true := by simpa using he
        have HF : Hid (Sp.write d f (f0, fe, hs) = ((L1.1, Sp.none_), L1.2.1, L1.2.2)) := Lib.hid (by
          have e : LL = L1 := by rw [HL2.out.2.2, if_pos he]
          rw [H8.out.2.2.1, e, if_pos he])
        clear he
        go_wp2_with (first
          | ((with_reducible show wpList _ _ _ ((⟨none, _, _, _, _, _⟩ : Oper) :: _) _ _); refine wpList_store_blk (o := ⟨none, _, _, _, _, _⟩) (H11.out.2.res) (by rfl) _ _ _ (by rfl) (by rfl) (spz) (by rfl) (sizeSuper) (spc_size _ _ _) (spc_size _ _ _) (spc_one _ _ _ rfl) ?_; intro w12 h12 hu12)
          | fail)
        refine bodyPost_ret (results_row_tmp (by rfl) _ _ _ _ _ _ (by rfl) h12 Try.underlying26 (by rfl) sizeSuper) rfl ?_
        exact H11.out.2.no hu12 HF.out
    · have hla := lay_all NB 2 2 wr HNL.out (by omega) (by omega) hw.dk
      rw [← HL2.out.2.1] at hla
      have hix := (idx02 wr).2
      have HR := Lib.hid (And.intro hbn (And.intro hw hla))
      have HE1 := Lib.hid e1
      clear e1
      clear hbn hw hla
      go_wp2_with (first
        | ((with_reducible show wpList _ _ _ ((⟨some 61, _, _, _, _, _⟩ : Oper) :: _) _ _); refine wpList_load_blk (o := ⟨some 61, _, _, _, _, _⟩) (HR.out.1) (by rfl) _ _ (by rfl) (by rfl) _ Try.underlying94 (by rfl) (sizeRaw) (by rw [List.size_toArray, List.length_map]; exact HNL.out) ?_)
        | fail)
      refine HR.out.2.2.mono ?_
      rintro e w11 ⟨rfl, hdk11, hn11⟩
      have h11 := HR.out.2.1.disk hn11 hdk11
      have hb11 := HR.out.1.near hn11 (h11.off (by have := HGN.out; omega))
      have H11 := Lib.hid (And.intro hb11 h11)
      clear hb11 h11 hdk11 hn11 hix HR
      by_cases he : L2.1 = 0
      · have HE := Lib.hid he
        rw [he]
        clear he
        go_wp2_with fail
        go_roundw
        case rel => exact ⟨H11.out.1, .inr (.inr ⟨by go_num, HE1.out, HE.out, H11.out.2⟩)⟩
        case measure => simp [intOf]
      · have he' : (L2.1 != 0) = true := by simpa using he
        have HF : Hid (Sp.write d f (f0, fe, hs) = ((L2.1, Sp.none_), L2.2.1, L2.2.2)) := Lib.hid (by
          have e : LL = L2 := by rw [HL2.out.2.2, if_neg (by rw [HE1.out]; simp)]
          rw [H8.out.2.2.1, e, if_pos he])
        clear he
        go_wp2_with (first
          | ((with_reducible show wpList _ _ _ ((⟨none, _, _, _, _, _⟩ : Oper) :: _) _ _); refine wpList_store_blk (o := ⟨none, _, _, _, _, _⟩) (H11.out.2.res) (by rfl) _ _ _ (by rfl) (by rfl) (spz) (by rfl) (sizeSuper) (spc_size _ _ _) (spc_size _ _ _) (spc_one _ _ _ rfl) ?_; intro w12 h12 hu12)
          | fail)
        refine bodyPost_ret (results_row_tmp (by rfl) _ _ _ _ _ _ (by rfl) h12 Try.underlying26 (by rfl) sizeSuper) rfl ?_
        exact H11.out.2.no hu12 HF.out
    · have HF : Hid (Sp.write d f (f0, fe, hs) = ((0, (f1, fe, hs)), L2.2.1, L2.2.2)) := Lib.hid (by
        have e : LL = L2 := by rw [HL2.out.2.2, if_neg (by rw [e1]; simp)]
        rw [H8.out.2.2.1, e, if_neg (by rw [e2]; simp)])
      have HR := Lib.hid hw
      have d10 := hw.s.at_ 10 (v := .slice A hs.length c) rfl
      have f10 := hw.s.frozen 10
      have hrd := Heads.reads (HL.out.2.2.2.2.nearP hw.near HL.out.2.1)
      have HRD := Lib.hid hrd
      clear hbn e1 e2 hw hrd
      go_wp2_with (first
        | (((with_reducible show wpList _ _ _ ((⟨some 71, _, _, _, _, _⟩ : Oper) :: _) _ _); skip); refine wpList_append_vals (o := ⟨some 71, _, _, _, _, _⟩) (by rfl) _ _ _ (by rfl) wr.heap.size 102 (.agg #[.int .i64 0, .int .i64 0]) 2 16 Try.underlying24 headInfo (by rfl) (by omega) (.slice none 0 0) 0 [] [] (by rfl) (OwnsC.nil _ _ _ _) A hs.length c (hdCells hs) (by rfl) (hdCells_length hs) HRD.out (hdCells_one hs) (by have := HL.out.1; simp only [maxLen]; omega) (by have := HL.out.1; omega) (Nat.le_refl _) ?_; intro v12 w12 sp12 ho12 hg12 hv12 hn12; rw [Nat.zero_add, List.nil_append] at ho12; have hlo := OwnsC.lt ho12; obtain ⟨B2, d2, rfl, hle2, hmx2, hrd2, -⟩ := OwnsC.reads ho12; have hnr := (Near.grown (X := []) hg12 (fun x hx => by cases hx)); have H12 := Lib.hid (And.intro (HR.out.keep hnr) (And.intro hle2 (And.intro hrd2 hlo))); have d12 := H12.out.1.s.at_ 10 (v := .slice A hs.length c) rfl; have f12 := H12.out.1.s.frozen 10; clear ho12 hg12 hv12 hn12 hlo hle2 hrd2 hnr d10 f10)
        | ((with_reducible show wpList _ _ _ ((⟨some 73, _, _, _, _, _⟩ : Oper) :: _) _ _); refine wpList_load_blk (o := ⟨some 73, _, _, _, _, _⟩) ((show Blk (w12.setCell ⟨w.heap.size, 10, none⟩ (.slice B2 hs.length d2)) w.heap.size 26 (spc f1 fe (.slice B2 hs.length d2)) from H12.out.1.s.set_ 10 (.slice B2 hs.length d2))) (by rfl) _ _ (by rfl) (by rfl) _ Try.underlying26 (by rfl) (sizeSuper) (by exact spc_size _ _ _) ?_)
        | ((with_reducible show wpList _ _ _ ((⟨none, _, _, _, _, _⟩ : Oper) :: _) _ _); refine wpList_store_blk (o := ⟨none, _, _, _, _, _⟩) ((H12.out.1.res.off (c := w.heap.size) (i := 10) (by omega) (.slice B2 hs.length d2))) (by rfl) _ _ _ (by rfl) (by rfl) (spc f1 fe (.slice B2 hs.length d2)) (by rfl) (sizeSuper) (spc_size _ _ _) (spc_size _ _ _) (spc_one _ _ _ rfl) ?_; intro w13 h13 hu13)
        | fail)
      refine bodyPost_ret (results_row_tmp (by rfl) _ _ _ _ _ _ (by rfl) h13 Try.underlying26 (by rfl) sizeSuper) rfl ?_
      have hk : Near [w.heap.size] w12 (w12.setCell ⟨w.heap.size, 10, none⟩ (.slice B2 hs.length d2)) := Near.upd ((Upd.refl _ _).set 10 _) (by simp)
      have hk2 : Near [w.heap.size + 1] (w12.setCell ⟨w.heap.size, 10, none⟩ (.slice B2 hs.length d2)) w13 := Near.upd hu13 (by simp)
      have hfresh : ∀ ad, B2 = some ad → w.heap.size + 2 ≤ ad.block := fun ad e => by
        have h1 := (H12.out.2.2.2 ad.block (by rw [e]; rfl)).1
        have h2 := HR.out.res.lt
        omega
      have hlow : (∀ x ∈ p.all gf, x ∉ [w.heap.size]) ∧ ∀ x ∈ p.all gf, x ∉ [w.heap.size + 1] := ⟨fun x hx e => by have := HLT.out x hx; rw [List.mem_singleton] at e; omega, fun x hx e => by have := HLT.out x hx; rw [List.mem_singleton] at e; omega⟩
      have hhd : Heads w12 B2 hs := Heads.of_reads H12.out.2.2.1
      have hF := HF.out
      rw [hF]
      refine ⟨⟨B2, f1, fe, d2, hs, rfl, ⟨fun _ _ => rfl, rfl, rfl⟩, (hhd.near hk (fun ad e => by have := hfresh ad e; simp; omega)).near hk2 (fun ad e => by have := hfresh ad e; simp; omega), H12.out.2.1, fun ad e => by have := hfresh ad e; omega⟩, ?_, ?_⟩
      · refine (H12.out.1.dk.upd hk (fun hx => hlow.1 _ hx (by simp))).upd hk2 (fun hx => hlow.2 _ hx (by simp))
      · exact (H12.out.1.near.high hk (by simp)).high hk2 (by simp)
end Go.Proofs.Ytmhfehhpfkjloaa

/- What a format, a write, an open answer of a disk without a fuse. Plain facts. No condition. -/
namespace Go.Proofs.Ytmhfehhpfkjloaa
theorem times_sub (n : Nat) (b : List UInt8) (hb : b.length = 512) {j : Nat} (hj : j < n) : ((times n b).drop (512 * j)).take 512 = b := by
  induction n generalizing j with
  | zero => omega
  | succ n ih =>
    have e : times (n + 1) b = b ++ times n b := by unfold times; rw [List.replicate_succ, List.flatten_cons]
    rw [e]
    cases j with
    | zero => rw [Nat.mul_zero, List.drop_zero, ← hb, List.take_left]
    | succ j =>
      rw [show 512 * (j + 1) = b.length + 512 * j by omega, ← List.drop_drop, List.drop_left]
      exact ih (by omega)
/-- A disk that answers: it is up, has eight sectors, has no fuse. -/
structure Up8 (d : Dsk) : Prop where
  ok : d.Ok
  out : d.out = false
  n8 : 8 ≤ d.N
theorem Up8.isOut {d : Dsk} (h : Up8 d) : d.isOut none = false := by unfold Dsk.isOut; rw [h.out]; rfl
theorem Up8.rdy {d : Dsk} (h : Up8 d) : d.rdy none = 0 := by unfold Dsk.rdy; rw [h.isOut, if_neg (by simp), if_neg (by have := h.n8; omega)]
theorem Up8.new : Up8 (Dsk.new 8) := ⟨Dsk.Ok.new (by omega), rfl, Nat.le_refl _⟩
theorem write_up8 {d : Dsk} (h : Up8 d) {k : Nat} {b : List UInt8} (hb : b.length % 256 = 0) (hb0 : 0 < b.length) (hN : 256 * k + b.length ≤ d.N * 256) :
    ∃ d', d.write none (k : Nat) b = (0, d', none) ∧ Up8 d' ∧ d'.N = d.N ∧ d'.L = wr d.L (256 * k) b := by
  have e : d.write none (k : Nat) b = (0, d.tick.put k b, none) := by
    unfold Dsk.write
    rw [if_neg (by rw [h.isOut]; simp), if_neg (by omega), if_neg (by omega)]
    rfl
  refine ⟨_, e, ⟨?_, h.out, h.n8⟩, rfl, rfl⟩
  have := Dsk.write_ok (f := none) (at_ := (k : Nat)) (b := b) h.ok
  rw [e] at this; exact this
theorem flush_up8 {d : Dsk} (h : Up8 d) : ∃ d', d.flush none = (0, d', none) ∧ Up8 d' ∧ d'.N = d.N ∧ d'.L = d.L := by
  have e : d.flush none = (0, d.tick.safe, none) := by unfold Dsk.flush; rw [if_neg (by rw [h.isOut]; simp)]; rfl
  refine ⟨_, e, ⟨?_, h.out, h.n8⟩, rfl, rfl⟩
  have := Dsk.flush_ok (f := none) h.ok
  rw [e] at this; exact this
theorem cpy_wr_in {d d' : Dsk} {a n : Nat} {b : List UInt8} (hok : d.Ok) (hb : b.length = 512) (hN : 2 * (a + n) ≤ d.N) (hL : d'.L = wr d.L (256 * (2 * a)) (times n b)) {j : Nat} (h1 : a ≤ j) (h2 : j < a + n) : d'.cpy j = b := by
  have hl := hok.len
  have ht : (times n b).length = n * 512 := by rw [times_length, hb]
  unfold Dsk.cpy
  rw [hL, wr_in (by omega) (by omega) (by omega), show 512 * j - 256 * (2 * a) = 512 * (j - a) by omega]
  exact times_sub n b hb (by omega)
theorem cpy_wr_off {d d' : Dsk} {a n : Nat} {b : List UInt8} (hok : d.Ok) (hb : b.length = 512) (hN : 2 * (a + n) ≤ d.N) (hL : d'.L = wr d.L (256 * (2 * a)) (times n b)) {j : Nat} (h : j < a ∨ a + n ≤ j) : d'.cpy j = d.cpy j := by
  have hl := hok.len
  have ht : (times n b).length = n * 512 := by rw [times_length, hb]
  unfold Dsk.cpy
  rw [hL, wr_off (by omega) (by omega)]
theorem lay_up8 {d : Dsk} (h : Up8 d) {b : List UInt8} (hb : b.length = 512) {a n : Nat} (hn : 0 < n) (hN : a + n ≤ 4) :
    ∃ d', Sp.lay d none b a n = (0, d', none) ∧ Up8 d' ∧ d'.N = d.N ∧ (∀ j, a ≤ j → j < a + n → d'.cpy j = b) ∧ ∀ j, j < a ∨ a + n ≤ j → d'.cpy j = d.cpy j := by
  have h8 := h.n8
  have ht : (times n b).length = n * 512 := by rw [times_length, hb]
  obtain ⟨d1, e1, u1, n1, l1⟩ := write_up8 h (k := 2 * a) (b := times n b) (by omega) (by omega) (by omega)
  obtain ⟨d2, e2, u2, n2, l2⟩ := flush_up8 u1
  refine ⟨d2, ?_, u2, n2.trans n1, fun j h1 h2 => ?_, fun j hj => ?_⟩
  · unfold Sp.lay
    rw [e1]
    rw [if_neg (by simp)]
    exact e2
  · exact cpy_wr_in h.ok hb (by omega) (l2.trans l1) h1 h2
  · exact cpy_wr_off h.ok hb (by omega) (l2.trans l1) hj
theorem heals_up8 (b : List UInt8) (hb : b.length = 512) : ∀ (is : List Nat) (wrong : Bool) (d : Dsk), Up8 d → (∀ i ∈ is, i < 4) → ∃ d', Sp.heals b is wrong d none = (0, d', none) ∧ Up8 d' ∧ d'.N = d.N ∧ (∀ i ∈ is, d'.cpy i = b) ∧ ∀ j, j ∉ is → d'.cpy j = d.cpy j
  | [], wrong, d, h, _ => by
    unfold Sp.heals
    cases wrong
    · exact ⟨d, rfl, h, rfl, (fun _ h => by cases h), fun _ _ => rfl⟩
    · obtain ⟨d2, e2, u2, n2, l2⟩ := flush_up8 h
      refine ⟨d2, by rw [if_pos rfl]; exact e2, u2, n2, (fun _ h => by cases h), fun j _ => ?_⟩
      unfold Dsk.cpy; rw [l2]
  | i :: is, wrong, d, h, hi => by
    have hi4 := hi i (.head _)
    unfold Sp.heals
    by_cases hc : d.cpy i = b
    · rw [if_pos hc]
      obtain ⟨d2, e2, u2, n2, c2, o2⟩ := heals_up8 b hb is wrong d h fun x hx => hi x (.tail _ hx)
      refine ⟨d2, e2, u2, n2, fun x hx => ?_, fun j hj => o2 j fun hm => hj (.tail _ hm)⟩
      by_cases hm : x ∈ is
      · exact c2 x hm
      · rcases List.mem_cons.1 hx with rfl | hx
        · exact (o2 _ hm).trans hc
        · exact absurd hx hm
    · rw [if_neg hc]
      have h8 := h.n8
      obtain ⟨d1, e1, u1, n1, l1⟩ := write_up8 h (k := 2 * i) (b := b) (by omega) (by omega) (by omega)
      rw [e1, if_neg (by simp)]
      have l1' : d1.L = wr d.L (256 * (2 * i)) (times 1 b) := by rw [l1]; unfold times; simp
      have ci : d1.cpy i = b := cpy_wr_in h.ok hb (by omega) l1' (Nat.le_refl _) (by omega)
      obtain ⟨d2, e2, u2, n2, c2, o2⟩ := heals_up8 b hb is true d1 u1 fun x hx => hi x (.tail _ hx)
      refine ⟨d2, e2, u2, n2.trans n1, fun x hx => ?_, fun j hj => ?_⟩
      · by_cases hm : x ∈ is
        · exact c2 x hm
        · rcases List.mem_cons.1 hx with rfl | hx
          · exact (o2 _ hm).trans ci
          · exact absurd hx hm
      · rw [o2 j fun hm => hj (.tail _ hm)]
        exact cpy_wr_off h.ok hb (by omega) l1' (by have : j ≠ i := fun e => hj (e ▸ .head _); omega)
/-- All copies are these bytes. -/
def AllAre (d : Dsk) (b : List UInt8) : Prop := ∀ k, k < 4 → d.cpy k = b
theorem AllAre.cpys {d : Dsk} {b : List UInt8} (h : AllAre d b) : d.cpys = [b, b, b, b] := by unfold Dsk.cpys; rw [h 0 (by omega), h 1 (by omega), h 2 (by omega), h 3 (by omega)]
theorem Sp.best_of {cs : List (List UInt8)} {b : List UInt8} {s : SpT} (h : ∀ x ∈ cs, (Sp.read x).1 = 0 → x = b) (hb : b ∈ cs) (h2 : 2 ≤ cs.count b) (hr : Sp.read b = (0, s)) (h0 : 0 < s.1 0) : Sp.best cs = (s, b) := by
  have hm := Sp.best_most cs b hb (by rw [hr]) h2
  rw [hr] at hm
  rcases Sp.best_picked cs with e | ⟨x, hx, e, h3, _⟩
  · rw [e] at hm; have hm : s.1 0 ≤ 0 := hm; omega
  · have := h x hx h3
    subst this
    rw [e, hr]
theorem open_of {d : Dsk} (hu : Up8 d) {b : List UInt8} {s : SpT} (h : ∀ x ∈ d.cpys, (Sp.read x).1 = 0 → x = b) (hb : b ∈ d.cpys) (h2 : 2 ≤ d.cpys.count b) (hr : Sp.read b = (0, s)) (h0 : 0 < s.1 0) : Sp.open_ d none = (0, s) ∧ Sp.best d.cpys = (s, b) := by
  have e := Sp.best_of h hb h2 hr h0
  refine ⟨?_, e⟩
  unfold Sp.open_
  rw [hu.rdy, e, if_neg (by simp), if_pos h0]
theorem open_all4 {d : Dsk} (hu : Up8 d) {b : List UInt8} {s : SpT} (h : AllAre d b) (hr : Sp.read b = (0, s)) (h0 : 0 < s.1 0) : Sp.open_ d none = (0, s) ∧ Sp.best d.cpys = (s, b) := by
  have e := h.cpys
  refine open_of hu (fun x hx _ => ?_) ?_ ?_ hr h0
  · rw [e] at hx; simpa using hx
  · rw [e]; simp
  · rw [e]; simp
/-- A format. -/
theorem format_up8 {d : Dsk} (hu : Up8 d) {s : SpT} (hs : Sp.ok (Sp.seq 1 s) = true) : ∃ d', Sp.format d none s = (0, d', none) ∧ Up8 d' ∧ d'.N = d.N ∧ AllAre d' (Sp.bytes (Sp.seq 1 s)) := by
  have hl : (Sp.bytes (Sp.seq 1 s)).length = 512 := Sp.bytes_length _ (Sp.ok_spec hs).2.1
  obtain ⟨d1, e1, u1, n1, c1, -⟩ := lay_up8 hu hl (a := 0) (n := 4) (by omega) (by omega)
  refine ⟨d1, ?_, u1, n1, fun k hk => c1 k (by omega) (by omega)⟩
  unfold Sp.format
  rw [if_neg (by simpa using hs), hu.rdy, if_neg (by simp)]
  exact e1
/-- A write, where something is open. -/
theorem write_up8s {d : Dsk} (hu : Up8 d) {b : List UInt8} {t s : SpT} (ho : Sp.open_ d none = (0, t)) (hb : Sp.best d.cpys = (t, b)) (hbl : b.length = 512) (hfull : t.1 0 ≠ 1073741824) (hs : Sp.ok (Sp.seq (t.1 0 + 1) s) = true) :
    ∃ d', Sp.write d none s = ((0, Sp.seq (t.1 0 + 1) s), d', none) ∧ Up8 d' ∧ d'.N = d.N ∧ AllAre d' (Sp.bytes (Sp.seq (t.1 0 + 1) s)) := by
  have hl : (Sp.bytes (Sp.seq (t.1 0 + 1) s)).length = 512 := Sp.bytes_length _ (Sp.ok_spec hs).2.1
  obtain ⟨d0, e0, u0, n0, -, -⟩ := heals_up8 b hbl [0, 1, 2, 3] false d hu (by simp)
  obtain ⟨d1, e1, u1, n1, c1, o1⟩ := lay_up8 u0 hl (a := 0) (n := 2) (by omega) (by omega)
  obtain ⟨d2, e2, u2, n2, c2, o2⟩ := lay_up8 u1 hl (a := 2) (n := 2) (by omega) (by omega)
  refine ⟨d2, ?_, u2, (n2.trans n1).trans n0, fun k hk => ?_⟩
  · unfold Sp.write
    rw [ho, if_neg (by simp), if_neg hfull, if_neg (by simpa using hs), hb]
    have e : Sp.lays d none b (Sp.bytes (Sp.seq (t.1 0 + 1) s)) = (0, d2, none) := by
      unfold Sp.lays Sp.then_
      rw [e0]
      simp only [ne_eq, not_true_eq_false, if_false]
      rw [e1]
      simp only [not_true_eq_false, if_false]
      exact e2
    show (if (Sp.lays d none b (Sp.bytes (Sp.seq (t.1 0 + 1) s))).1 ≠ 0 then _ else _) = _
    rw [e]
    rfl
  · by_cases h : k < 2
    · rw [o2 k (.inl h)]; exact c1 k (by omega) (by omega)
    · exact c2 k (by omega) (by omega)
end Go.Proofs.Ytmhfehhpfkjloaa

/- The law's superblocks, the kit's copy of one, a formatted disk. Conditions: the heads can be read. -/
namespace Go.Proofs.Ytmhfehhpfkjloaa
open Go.RowKit
def firstF : HdF := fun i => if i = 0 then 1 else if i = 1 then 1 else if i = 2 then 3 else if i = 3 then 4 else 0
def viewF (s v : Int) : HdF := fun i => if i = 0 then s else if i = 1 then 1 else if i = 2 then 3 else if i = 3 then v else 0
def viewedS (s v : Int) : SpT := (viewF s v, false, [])
theorem first_any (w : World) : Calls Try.prog 30 #[] w fun e w' => e = .returned (.agg (spc (viewF 1 4) false (.slice none 0 0))) ∧ Below w.heap.size w w' := by
  have hz := zeroSuper
  have hB := (Below.refl w.heap.size w).alloc (Nat.le_refl _) (.cells spz 26)
  have hx := Blk.new w 26 spz
  have H0 := Lib.hid (And.intro hB hx)
  clear hB hx
  go_enter Try.func30, Try.ntmps30
  go_wp2_with (first
    | ((with_reducible show wpList _ _ _ ((⟨none, _, _, _, _, _⟩ : Oper) :: _) _ _); refine wpList_store_blk (o := ⟨none, _, _, _, _, _⟩) (H0.out.2) (by rfl) _ _ _ (by rfl) (by rfl) (spc (viewF 1 4) false (.slice none 0 0)) (by rfl) (sizeSuper) (spc_size _ _ _) (spc_size _ _ _) (spc_one _ _ _ rfl) ?_; intro w2 h2 hu2)
    | fail)
  refine bodyPost_ret (results_row1 (by rfl) _ _ _ _ _ _ (by rfl) h2 Try.underlying26 (by rfl) sizeSuper) rfl ?_
  exact ⟨rfl, H0.out.1.upd hu2 (Nat.le_refl _)⟩
theorem viewed_any (s v : Int) (w : World) : Calls Try.prog 32 #[.int .i64 s, .int .i64 v] w fun e w' => e = .returned (.agg (spc (viewF s v) false (.slice none 0 0))) ∧ Below w.heap.size w w' := by
  have hz := zeroSuper
  have hB := (Below.refl w.heap.size w).alloc (Nat.le_refl _) (.cells spz 26)
  have hx := Blk.new w 26 spz
  have H0 := Lib.hid (And.intro hB hx)
  clear hB hx
  go_enter Try.func32, Try.ntmps32
  go_wp2_with (first
    | ((with_reducible show wpList _ _ _ ((⟨none, _, _, _, _, _⟩ : Oper) :: _) _ _); refine wpList_store_blk (o := ⟨none, _, _, _, _, _⟩) (H0.out.2) (by rfl) _ _ _ (by rfl) (by rfl) (spc (viewF s v) false (.slice none 0 0)) (by rfl) (sizeSuper) (spc_size _ _ _) (spc_size _ _ _) (spc_one _ _ _ rfl) ?_; intro w2 h2 hu2)
    | fail)
  refine bodyPost_ret (results_row1 (by rfl) _ _ _ _ _ _ (by rfl) h2 Try.underlying26 (by rfl) sizeSuper) rfl ?_
  exact ⟨rfl, H0.out.1.upd hu2 (Nat.le_refl _)⟩
/-- A copy of a superblock. -/
theorem copySuper_any (f : HdF) (fe : Bool) (A : Option Addr) (n c : Nat) (hs : List (Int × Int)) (w : World) (hn : n = hs.length) (hc : n ≤ c) (hlen : hs.length ≤ 1000) (hh : Heads w A hs) :
    Calls Try.prog 15 #[.agg (spc f fe (.slice A n c))] w fun e w' => ∃ B d, e = .returned (.agg (spc f fe (.slice B hs.length d))) ∧ Heads w' B hs ∧ hs.length ≤ d ∧ (∀ ad, B = some ad → w.heap.size ≤ ad.block) ∧ Below w.heap.size w w' := by
  subst hn
  have hz := zeroSuper
  have hB := ((Below.refl w.heap.size w).alloc (Nat.le_refl _) (.cells (spc f fe (.slice A hs.length c)) 26)).alloc (by simp) (.cells spz 26)
  have hx : Blk ((w.alloc (.cells (spc f fe (.slice A hs.length c)) 26)).alloc (.cells spz 26)) w.heap.size 26 (spc f fe (.slice A hs.length c)) := (Blk.new w _ _).alloc _
  have hy : Blk ((w.alloc (.cells (spc f fe (.slice A hs.length c)) 26)).alloc (.cells spz 26)) (w.heap.size + 1) 26 spz := Blk.new' _ _ _ (by simp)
  have hh0 := hh.below hB
  generalize hw1 : (w.alloc (.cells (spc f fe (.slice A hs.length c)) 26)).alloc (.cells spz 26) = w1 at hB hx hy hh0
  have d10 := hx.at_ 10 (v := .slice A hs.length c) rfl
  have f10 := hx.frozen 10
  have H0 := Lib.hid (And.intro hB (And.intro hx (And.intro hy (And.intro hh0 (And.intro hlen hc)))))
  clear hB hx hy hh0 hlen hc hh
  have ho2 : OwnsC 102 2 (w1.alloc (.cells #[] 102)) w1.heap.size (.slice (some ⟨w1.heap.size, 0, none⟩) 0 0) 0 [] [] := OwnsC.lit (e := 102) (size := 2) (base := w1.heap.size) w1 #[] 0 (Nat.le_refl _) (by simp) (by simp)
  have hb2 := (Below.refl w1.heap.size w1).alloc (Nat.le_refl _) (.cells #[] 102)
  have hz2 : (w1.alloc (.cells #[] 102)).heap.size = w1.heap.size + 1 := by simp
  have hrd := Heads.reads (H0.out.2.2.2.1.below hb2)
  have d10' := (H0.out.2.1.below hb2 H0.out.2.1.lt).at_ 10 (v := .slice A hs.length c) rfl
  have HZ := Lib.hid (And.intro ho2 (And.intro hb2 (And.intro hz2 hrd)))
  clear ho2 hb2 hz2 hrd
  go_enter Try.func15, Try.ntmps15
  go_wp2_with (first
    | (((with_reducible show wpList _ _ _ ((⟨some 6, _, _, _, _, _⟩ : Oper) :: _) _ _); skip); refine wpList_append_vals (o := ⟨some 6, _, _, _, _, _⟩) (by rfl) _ _ _ (by rfl) w1.heap.size 102 (.agg #[.int .i64 0, .int .i64 0]) 2 16 Try.underlying24 headInfo (by rfl) (by omega) (.slice (some ⟨w1.heap.size, 0, none⟩) 0 0) 0 [] [] (by rfl) HZ.out.1 A hs.length c (hdCells hs) (by rfl) (hdCells_length hs) HZ.out.2.2.2 (hdCells_one hs) (by have := H0.out.2.2.2.2.1; simp only [maxLen]; omega) (by have := H0.out.2.2.2.2.1; omega) (by have := HZ.out.2.2.1; omega) ?_; intro v3 w3 sp3 ho3 hg3 hv3 hn3; rw [Nat.zero_add, List.nil_append] at ho3; have hlo := OwnsC.lt ho3; obtain ⟨B3, d3, rfl, hle3, -, hrd3, -⟩ := OwnsC.reads ho3; have hn1 : Near [] w1 w3 := (Near.below HZ.out.2.1).high (Near.grown (X := [w1.heap.size]) hg3 (fun x hx => by simp [Value.ownBlock] at hx; simp [hx])) (by simp); have H3 := Lib.hid (And.intro (H0.out.2.1.near hn1 (by simp)) (And.intro (H0.out.2.2.1.near hn1 (by simp)) (And.intro hn1 (And.intro hle3 (And.intro hrd3 hlo))))); have e10 := H3.out.1.at_ 10 (v := .slice A hs.length c) rfl; have g10 := H3.out.1.frozen 10; clear ho3 hg3 hv3 hn3 hlo hle3 hrd3 hn1 d10 f10 d10')
    | ((with_reducible show wpList _ _ _ ((⟨some 8, _, _, _, _, _⟩ : Oper) :: _) _ _); refine wpList_load_blk (o := ⟨some 8, _, _, _, _, _⟩) ((show Blk (w3.setCell ⟨w.heap.size, 10, none⟩ (.slice B3 hs.length d3)) w.heap.size 26 (spc f fe (.slice B3 hs.length d3)) from H3.out.1.set_ 10 (.slice B3 hs.length d3))) (by rfl) _ _ (by rfl) (by rfl) _ Try.underlying26 (by rfl) (sizeSuper) (by exact spc_size _ _ _) ?_)
    | ((with_reducible show wpList _ _ _ ((⟨none, _, _, _, _, _⟩ : Oper) :: _) _ _); refine wpList_store_blk (o := ⟨none, _, _, _, _, _⟩) ((H3.out.2.1.off (c := w.heap.size) (i := 10) (by omega) (.slice B3 hs.length d3))) (by rfl) _ _ _ (by rfl) (by rfl) (spc f fe (.slice B3 hs.length d3)) (by rfl) (sizeSuper) (spc_size _ _ _) (spc_size _ _ _) (spc_one _ _ _ rfl) ?_; intro w4 h4 hu4)
    | fail)
  refine bodyPost_ret (results_row1 (by rfl) _ _ _ _ _ _ (by rfl) h4 Try.underlying26 (by rfl) sizeSuper) rfl ?_
  have hl1 : w.heap.size + 2 ≤ w1.heap.size := by have := H0.out.2.2.1.lt; omega
  have hk1 : Near [w.heap.size] w3 (w3.setCell ⟨w.heap.size, 10, none⟩ (.slice B3 hs.length d3)) := Near.upd ((Upd.refl _ _).set 10 _) (by simp)
  have hk2 : Near [w.heap.size + 1] (w3.setCell ⟨w.heap.size, 10, none⟩ (.slice B3 hs.length d3)) w4 := Near.upd hu4 (by simp)
  have hfr : ∀ ad, B3 = some ad → w.heap.size + 2 ≤ ad.block := fun ad e => by have h1 := (H3.out.2.2.2.2.2 ad.block (by rw [e]; rfl)).1; omega
  refine ⟨B3, d3, rfl, ((Heads.of_reads H3.out.2.2.2.2.1).near hk1 (fun ad e => by have := hfr ad e; simp; omega)).near hk2 (fun ad e => by have := hfr ad e; simp; omega), H3.out.2.2.2.1, fun ad e => by have := hfr ad e; omega, ?_⟩
  exact below_near (below_near (below_near H0.out.1 H3.out.2.2.1 (by simp) (by omega)) hk1 (by simp) (by have := H3.out.1.lt; omega)) hk2 (by simp) (by have := H3.out.1.lt; simp [World.setCell]; omega)
end Go.Proofs.Ytmhfehhpfkjloaa
