/- An index block of the grid is read: the program's open. Condition: the grid is known. -/
import Derived.Test.YtgkljncigbiffaaDoorMTableTurned14
namespace Go.Proofs.YtgkljncigbiffaaDoor
open Go.RowKit
/-- Keys that can be read. -/
def Keys (w : World) (A : Option Addr) (ks : List (List UInt8)) : Prop :=
  0 < ks.length → ∃ b off, A = some ⟨b, off, none⟩ ∧ b < w.heap.size ∧ ∀ i, (h : i < ks.length) → ∃ A1 c1, w.cell? ⟨b, off + i, none⟩ = some (.slice A1 ks[i].length c1) ∧ ks[i].length ≤ c1 ∧ c1 ≤ 9223372036854775807 ∧ Bytes w A1 ks[i]
theorem Keys.below {w w' : World} {A : Option Addr} {ks : List (List UInt8)} (h : Keys w A ks) (hb : Below w.heap.size w w') : Keys w' A ks := fun hp => by
  obtain ⟨b, off, e, hlt, hc⟩ := h hp
  refine ⟨b, off, e, Nat.lt_of_lt_of_le hlt hb.size, fun i hi => ?_⟩
  obtain ⟨A1, c1, k1, k2, k3, k4⟩ := hc i hi
  exact ⟨A1, c1, (hb.cell (p := ⟨b, off + i, none⟩) hlt).trans k1, k2, k3, Bytes.below k4 hb⟩
instance {w w' : World} {A : Option Addr} {ks : List (List UInt8)} : KeepsTo w w' (Keys w A ks) (Keys w' A ks) := ⟨fun hb h => h.below hb⟩
/-- A key as the first one of a group. -/
def kgr (k : List UInt8) : List PairT := [(k, [], false, ())]
theorem KeysAt.keys {w : World} {base : Nat} {v : Value} {ks : List (List UInt8)} {rows sp : List Value} (h : KeysAt w base v (ks.map kgr) rows sp) : ∃ A c, v = .slice A ks.length c ∧ ks.length ≤ c ∧ c ≤ 9223372036854775807 ∧ Keys w A ks := by
  obtain ⟨A, c, rfl, hc, hm, hr, -⟩ := OwnsC.reads h.own
  rw [List.length_map] at *
  refine ⟨A, c, rfl, hc, hm, fun hp => ?_⟩
  have each : ∀ i, (hi : i < ks.length) → ∃ (A : Option Addr) (c : Nat), rows[i]? = some (.slice A ks[i].length c) ∧ ks[i].length ≤ c ∧ c ≤ 9223372036854775807 ∧ Bytes w A ks[i] := fun i hi => by
    obtain ⟨A, c, e1, e2, e3, e4, -⟩ := h.each i (kgr ks[i]) (by rw [List.getElem?_map, List.getElem?_eq_getElem hi]; rfl)
    exact ⟨A, c, e1, e2, e3, e4⟩
  obtain ⟨A0, c0, e0, -⟩ := each 0 hp
  obtain ⟨b, off, rfl, hcell⟩ := hr (by intro e; rw [e] at e0; simp at e0)
  refine ⟨b, off, rfl, World.block_lt_of_cell? w _ (hcell 0 _ e0), fun i hi => ?_⟩
  obtain ⟨A1, c1, e1, e2, e3, e4⟩ := each i hi
  exact ⟨A1, c1, hcell _ _ e1, e2, e3, e4⟩
/-- Bytes are none of a block that holds no bytes. -/
theorem bytes_upd0 {w w' : World} {A : Option Addr} {s : List UInt8} {x : Nat} {t : TypeId} {cs : Array Value} (h : Bytes w A s) (u : Upd x w w') (hx : Blk w x t cs) (hcs : ∀ v ∈ cs, ∀ n, v ≠ .int .u8 n) : Bytes w' A s := by
  by_cases hs : s = []
  · subst hs; exact Reads.nil _ _
  · obtain ⟨b, off, rfl, hlt, hc⟩ := Bytes.at_ h (List.length_pos_iff.2 hs)
    refine Bytes.near h (Near.upd u (List.mem_singleton_self x)) (fun ad e hm => ?_)
    injection e with e
    subst e
    have hb : b = x := List.mem_singleton.1 hm
    subst hb
    have h0 := hc 0 (List.length_pos_iff.2 hs)
    rw [hx.cell] at h0
    exact hcs _ (Array.mem_of_getElem? h0) _ rfl
theorem KeysAt.upd0 {w w' : World} {base : Nat} {v : Value} {G : List (List PairT)} {ks sp : List Value} {x : Nat} {t : TypeId} {cs : Array Value} (h : KeysAt w base v G ks sp) (u : Upd x w w') (hx : Blk w x t cs) (ht : t ≠ 22) (hcs : ∀ v ∈ cs, ∀ n, v ≠ .int .u8 n) : KeysAt w' base v G ks sp :=
  ⟨OwnsC.nearO h.own (Near.upd u (List.mem_singleton_self x)) (fun y hy hm => by
    obtain ⟨cs', hb⟩ := ownBlk h.own hy
    rw [List.mem_singleton.1 hm] at hb
    exact hx.apart hb ht rfl), fun i g hg => by
    obtain ⟨A, c, e1, e2, e3, e4, e5⟩ := h.each i g hg
    exact ⟨A, c, e1, e2, e3, bytes_upd0 e4 u hx hcs, e5⟩⟩
/-- What an index block tells. -/
def topen (g : Grd) (d : Dsk) (f : Option Fus) (r : RefT) : Int × (List RefT × List (List UInt8)) × Grd :=
  match (glook g d f r).2.1 with
  | none => ((glook g d f r).1, ([], []), (glook g d f r).2.2)
  | some b => match kparse b.2.2.2.1 with
    | none => (13, ([], []), (glook g d f r).2.2)
    | some ks => if b.1 = 2 ∧ b.2.2.1 ≠ [] ∧ b.2.2.1.length = ks.length then (0, (b.2.2.1, ks), (glook g d f r).2.2) else (13, ([], []), (glook g d f r).2.2)
theorem topen_none {g : Grd} {d : Dsk} {f : Option Fus} {r : RefT} (h : (glook g d f r).2.1 = none) : topen g d f r = ((glook g d f r).1, ([], []), (glook g d f r).2.2) := by unfold topen; rw [h]
theorem topen_bad {g : Grd} {d : Dsk} {f : Option Fus} {r : RefT} {b : GBT} (h : (glook g d f r).2.1 = some b) (hk : kparse b.2.2.2.1 = none) : topen g d f r = (13, ([], []), (glook g d f r).2.2) := by unfold topen; rw [h]; simp only; rw [hk]
theorem topen_some {g : Grd} {d : Dsk} {f : Option Fus} {r : RefT} {b : GBT} {ks : List (List UInt8)} (h : (glook g d f r).2.1 = some b) (hk : kparse b.2.2.2.1 = some ks) : topen g d f r = if b.1 = 2 ∧ b.2.2.1 ≠ [] ∧ b.2.2.1.length = ks.length then (0, (b.2.2.1, ks), (glook g d f r).2.2) else (13, ([], []), (glook g d f r).2.2) := by unfold topen; rw [h]; simp only; rw [hk]
/-- An index that can be read. -/
structure IndexAt (w : World) (A : Option Addr) (c : Nat) (K : Option Addr) (ck : Nat) (x : List RefT × List (List UInt8)) : Prop where
  refs : Refs w A x.1
  keys : Keys w K x.2
  rc : x.1.length ≤ c
  kc : x.2.length ≤ ck
  km : ck ≤ 9223372036854775807
def indc (A : Option Addr) (c : Nat) (K : Option Addr) (ck : Nat) (x : List RefT × List (List UInt8)) : Array Value := #[.slice A x.1.length c, .slice K x.2.length ck]
theorem IndexAt.nil (w : World) : IndexAt w none 0 none 0 ([], []) := ⟨fun h => absurd h (by simp), fun h => absurd h (by simp), Nat.le_refl _, Nat.le_refl _, by omega⟩
theorem IndexAt.below {w w' : World} {A : Option Addr} {c : Nat} {K : Option Addr} {ck : Nat} {x : List RefT × List (List UInt8)} (h : IndexAt w A c K ck x) (k : Below w.heap.size w w') : IndexAt w' A c K ck x := ⟨h.refs.below k, h.keys.below k, h.rc, h.kc, h.km⟩
theorem sizeIx : (Tryd.prog.info? 128).map (·.size) = some 2 := by kernel_rfl
theorem sizeRun : (Tryd.prog.info? 35).map (·.size) = some 5 := by kernel_rfl
def runv (r : RefT) (n : Int) (F L : Option Addr) (nf cf nl cl : Nat) : Array Value := #[.int .i64 r.1, .int .i64 r.2.1, .int .i64 n, .slice F nf cf, .slice L nl cl]
/-- Ahead of each key. -/
def OpRel (w : World) (gx bl : Nat) (av : Value) (R : Option (List (List UInt8))) (v : Value) (wr : World) : Prop :=
  ∃ (o : List (List UInt8)) (s : List UInt8) (vk : Value) (rows sp : List Value) (A : Option Addr) (c : Nat), v = .slice A s.length c ∧ Bytes wr A s ∧ s.length ≤ c ∧ c ≤ 9223372036854775807 ∧ Blk wr gx 128 #[av, vk] ∧ KeysAt wr gx vk (o.map kgr) rows sp ∧ kfin o s = R ∧ o.length + s.length ≤ bl ∧ (∀ ad, A = some ad → s ≠ [] → ad.block < gx) ∧ Near [gx] w wr
def svLen : Value → Nat
  | .slice _ n _ => n
  | _ => 0
theorem zeroIxrun (w : World) : (zeroValue 128).run Tryd.prog w = .ok (.agg #[.slice none 0 0, .slice none 0 0]) w := by kernel_rfl
section
variable {w : World} {q : GPl} {g : Grd} {d : Dsk} {f : Option Fus}
/-- A block of another type is none of a grid's own. -/
theorem GridR.offT {x : Nat} {t : TypeId} {cs : Array Value} (h : GridR w q g d f) (hb : Blk w x t cs) (ht : t ≠ 30 ∧ t ≠ 203 ∧ t ≠ 33 ∧ t ≠ 105 ∧ t ≠ 145 ∧ t ≠ 211) : x ∉ q.all := by
  obtain ⟨wv, sp, h1, h2, h3⟩ := h.wn
  obtain ⟨es, c, hm, -⟩ := h.mp
  intro hx
  rcases GPl.mem.1 hx with e | e | e | e | e
  · exact hb.apart h2 ht.1 e
  · exact hb.apart h.st ht.2.1 e
  · exact hb.offMap hm e
  · obtain ⟨cs', hb'⟩ := ownBlk h3 (h1.trans e)
    exact hb.apart hb' ht.2.2.1 rfl
  · exact h.dk.off hb ht.2.2.2.1 ht.2.2.2.2.1 ht.2.2.2.2.2 e
theorem GPost.blk {w' : World} {q : GPl} {g0 g1 : Grd} {d0 d1 : Dsk} {f0 f1 : Option Fus} {x : Nat} {t : TypeId} {cs : Array Value} (hp : GPost w q g1 d1 f1 w') (h : GridR w q g0 d0 f0) (hb : Blk w x t cs) (ht : t ≠ 30 ∧ t ≠ 203 ∧ t ≠ 33 ∧ t ≠ 105 ∧ t ≠ 145 ∧ t ≠ 211) : Blk w' x t cs := by
  obtain ⟨q', e1, e2, e3, h1, h2, h3⟩ := hp
  exact hb.near h2 (h.offT hb ht)
set_option maxRecDepth 100000 in
set_option maxHeartbeats 8000000 in
theorem topen_any (h : GridR w q g d f) (hlen : g.W.length ≤ 1099511627776) (r : RefT) (n : Int) (F L : Option Addr) (nf cf nl cl : Nat) :
    Calls Tryd.prog 53 #[.pointer (some ⟨q.gg, 0, none⟩), .agg (runv r n F L nf cf nl cl)] w fun e w' => ∃ (A : Option Addr) (c : Nat) (K : Option Addr) (ck : Nat), e = .returned (.tuple #[.agg (indc A c K ck (topen g d f r).2.1), .int .i64 (topen g d f r).1]) ∧ IndexAt w' A c K ck (topen g d f r).2.1 ∧ LPost w q (decide ((topen g d f r).1 = 0)) (topen g d f r).2.2 d f w' := by
  have hz := zeroGBrun
  have hzi := zeroIxrun
  obtain ⟨T, hT⟩ : ∃ T, T = topen g d f r := ⟨_, rfl⟩
  rw [← hT]
  have HTT := Lib.hid hT
  have hB := ((Below.refl w.heap.size w).alloc (Nat.le_refl _) (.cells (runv r n F L nf cf nl cl) 35)).alloc (by simp) (.cells #[.slice none 0 0, .slice none 0 0] 128)
  have hg3 := (Blk.new w 35 (runv r n F L nf cf nl cl)).alloc (.cells #[.slice none 0 0, .slice none 0 0] 128)
  have hg4 := Blk.new' (w.alloc (.cells (runv r n F L nf cf nl cl) 35)) 128 #[.slice none 0 0, .slice none 0 0] (n := w.heap.size + 1) (by simp)
  have H0 := Lib.hid (And.intro (h.below hB) (And.intro hB (And.intro hg3 (And.intro hg4 hlen))))
  clear h hB hg3 hg4 hT hlen
  unfold runv at H0 ⊢
  go_enter Tryd.func53, Tryd.ntmps53
  go_wp2_with fail
  generalize ((w.alloc (.cells #[.int .i64 r.1, .int .i64 r.2.1, .int .i64 n, .slice F nf cf, .slice L nl cl] 35)).alloc (.cells #[.slice none 0 0, .slice none 0 0] 128)) = w1 at H0 ⊢
  refine (tnone_any H0.out.1).mono ?_
  rintro e w2 ⟨rfl, hbx⟩
  have hb2 := H0.out.2.1.trans (hbx.mono H0.out.2.1.size)
  have hr := gread_any (H0.out.1.below hbx) H0.out.2.2.2.2 r
  have hg3 := H0.out.2.2.1.below hbx H0.out.2.2.1.lt
  have H2 := Lib.hid (And.intro hb2 (And.intro (H0.out.2.2.2.1.below hbx H0.out.2.2.2.1.lt) (H0.out.1.below hbx)))
  have e1 := hg3.at_ 0 (v := .int .i64 r.1) rfl
  have e2 := hg3.at_ 1 (v := .int .i64 r.2.1) rfl
  clear hbx hb2 hg3 H0
  go_wp2_with (first
    | ((with_reducible show wpList _ _ _ ((⟨some 17, _, _, _, _, _⟩ : Oper) :: _) _ _); refine wpList_load_mid (o := ⟨some 17, _, _, _, _, _⟩) (range2 (b := w.heap.size) (off := 0) (u := .int .i64 r.1) (v := .int .i64 r.2.1) (e1) (e2)) (by rfl) _ _ (by rfl) (by rfl) _ Tryd.underlying33 (by rfl) size_ref (by rfl) ?_)
    | fail)
  refine hr.mono ?_
  rintro e w3 ⟨v1, rfl, ⟨v2, A, c, B, c1, C, rfl, -, hA, hBy, hca, hce, hcm, -, hAl, hBl⟩, hL⟩
  have hg4 := hL.1.blk H2.out.2.2 H2.out.2.1 (by decide)
  obtain ⟨o, ho⟩ : ∃ o, o = (glook g d f r).2.1 := ⟨_, rfl⟩
  obtain ⟨cd, hcd⟩ : ∃ cd, cd = (glook g d f r).1 := ⟨_, rfl⟩
  rw [← ho] at hA hBy hca hce hL ⊢
  rw [← hcd]
  have hcode := @glook_code g d f r
  rw [← ho, ← hcd] at hcode
  have HT := Lib.hid (And.intro (show o = none → T = (cd, ([], []), (glook g d f r).2.2) from fun e => by rw [hcd, HTT.out]; exact topen_none (ho.symm.trans e)) (And.intro (show ∀ b, o = some b → kparse b.2.2.2.1 = none → T = (13, ([], []), (glook g d f r).2.2) from fun b e e2 => by rw [HTT.out]; exact topen_bad (ho.symm.trans e) e2)
    (show ∀ b ks, o = some b → kparse b.2.2.2.1 = some ks → T = if b.1 = 2 ∧ b.2.2.1 ≠ [] ∧ b.2.2.1.length = ks.length then (0, (b.2.2.1, ks), (glook g d f r).2.2) else (13, ([], []), (glook g d f r).2.2) from fun b ks e e2 => by rw [HTT.out]; exact topen_some (ho.symm.trans e) e2)))
  have HB := Lib.hid (show ∀ b, o = some b → b.2.2.2.1.length ≤ 860 ∧ b.2.2.1.length ≤ 16 from fun b e => look_body (ho.symm.trans e))
  clear HTT
  generalize (glook g d f r).2.2 = g2 at hL HT hcode
  have hg6 := Blk.new w3 91 #[.int .i64 0, .int .i64 0, .int .i64 0, .slice none 0 0, .slice none 0 0]
  have H3 := Lib.hid (And.intro hL (And.intro hA (And.intro hBy hg4)))
  clear hL hA hBy ho hcd hr hg4 e1 e2
  cases o with
  | none =>
    have hc0 := hcode.1 rfl
    have kc : (cd != 0) = true := bne_iff_ne.2 hc0
    have HF := Lib.hid (HT.out.1 rfl)
    clear hcode HT HB
    go_wp2_with (first
      | ((with_reducible show wpList _ _ _ ((⟨none, _, _, _, _, _⟩ : Oper) :: _) _ _); refine wpList_store_blk (o := ⟨none, _, _, _, _, _⟩) (hg6) (by rfl) _ _ _ (by rfl) (by rfl) (gbc ((none : Option GBT).getD GB.none_) A c B c1) (by rfl) (sizeGB) (by rfl) (by rfl) (gbc_one _ _ _ _ _) ?_; intro w5 h5 hu5; have hb5 := ((Below.refl w3.heap.size w3).alloc (Nat.le_refl _) (.cells #[.int .i64 0, .int .i64 0, .int .i64 0, .slice none 0 0, .slice none 0 0] 91)).upd hu5 (Nat.le_refl _); have h54 := H3.out.2.2.2.below hb5 H3.out.2.2.2.lt; have H5 := Lib.hid hb5; clear hu5 hb5 h5)
      | ((with_reducible show wpList _ _ _ ((⟨none, _, _, _, _, _⟩ : Oper) :: _) _ _); refine wpList_store_blk (o := ⟨none, _, _, _, _, _⟩) (h54) (by rfl) _ _ _ (by rfl) (by rfl) (#[.slice none 0 0, .slice none 0 0]) (by rfl) (sizeIx) (by rfl) (by rfl) (by simp [Value.oneCell']) ?_; intro w6 h6 hu6)
      | fail)
    have hup := ((GPost.trans1 H2.out.1 H3.out.1.1).below H5.out).upd hu6 (Nat.le_succ _) (fun q' hq' => hq'.offT h54 (by decide))
    have HP := Lib.hid hup
    clear hup hu6 h54
    refine bodyPost_ret (results_row_tmp (by rfl) _ _ (w.heap.size + 1) _ _ _ (by rfl) h6 Tryd.underlying128 (by rfl) sizeIx) rfl ?_
    refine ⟨none, 0, none, 0, by rw [HF.out]; rfl, by rw [HF.out]; exact IndexAt.nil _, ?_⟩
    rw [HF.out]
    exact ⟨HP.out, fun e => absurd (of_decide_eq_true e) hc0⟩
  | some b =>
    obtain ⟨rfl, rfl⟩ := hcode.2 (by simp)
    have hbd := HB.out b rfl
    have HT2 := Lib.hid (And.intro (HT.out.2.1 b rfl) (fun ks => HT.out.2.2 b ks rfl))
    have HC := Lib.hid (And.intro hca (And.intro hce (And.intro hcm (And.intro hAl (And.intro hBl hbd)))))
    clear hcode HT HB hca hce hcm hAl hBl hbd
    go_wp2_with (first
      | ((with_reducible show wpList _ _ _ ((⟨none, _, _, _, _, _⟩ : Oper) :: _) _ _); refine wpList_store_blk (o := ⟨none, _, _, _, _, _⟩) (hg6) (by rfl) _ _ _ (by rfl) (by rfl) (gbc ((some b : Option GBT).getD GB.none_) A c B c1) (by rfl) (sizeGB) (by rfl) (by rfl) (gbc_one _ _ _ _ _) ?_; intro w5 h5 hu5; have hb5 := ((Below.refl w3.heap.size w3).alloc (Nat.le_refl _) (.cells #[.int .i64 0, .int .i64 0, .int .i64 0, .slice none 0 0, .slice none 0 0] 91)).upd hu5 (Nat.le_refl _); have h54 := H3.out.2.2.2.below hb5 H3.out.2.2.2.lt; have d0 := h5.at_ 0 (v := .int .i64 b.1) rfl; have d3 := h5.at_ 3 (v := .slice A b.2.2.1.length c) rfl; have d4 := h5.at_ 4 (v := .slice B b.2.2.2.1.length c1) rfl; have H5 := Lib.hid (And.intro hb5 (And.intro h54 h5)); clear hu5 hb5 h54 h5)
      | ((with_reducible show wpList _ _ _ ((⟨none, _, _, _, _, _⟩ : Oper) :: _) _ _); refine wpList_store_blk (o := ⟨none, _, _, _, _, _⟩) ((Blk.new w5 128 #[.slice none 0 0, .slice none 0 0])) (by rfl) _ _ _ (by rfl) (by rfl) (#[.slice A b.2.2.1.length c, .slice none 0 0]) (by rfl) (sizeIx) (by rfl) (by rfl) (by simp [Value.oneCell']) ?_; intro w6 h6 hu6; have hb6 := ((Below.refl w5.heap.size w5).alloc (Nat.le_refl _) (.cells #[.slice none 0 0, .slice none 0 0] 128)).upd hu6 (Nat.le_refl _); have d40 := (hb6.cell (p := ⟨w3.heap.size, 4, none⟩) H5.out.2.2.lt).trans d4; have hs6 := hu6.size.trans (World.size_alloc w5 _); have HS6 := Lib.hid hs6; have H6 := Lib.hid (And.intro hb6 h6); clear hu6 hb6 h6 hs6)
      | fail)
    have hb36 := H5.out.1.trans (H6.out.1.mono H5.out.1.size)
    have hS : OpRel w6 w5.heap.size b.2.2.2.1.length (.slice A b.2.2.1.length c) (kparse b.2.2.2.1) (.slice B b.2.2.2.1.length c1) w6 :=
      ⟨[], b.2.2.2.1, .slice none 0 0, [], [], B, c1, rfl, Bytes.below H3.out.2.2.1 hb36, HC.out.2.1, HC.out.2.2.1, H6.out.2, KeysN.nil _ _, by unfold kfin; cases kparse b.2.2.2.1 <;> rfl, by simp, fun ad e hne => by
        obtain ⟨b', o', e', h', _⟩ := Bytes.at_ H3.out.2.2.1 (List.length_pos_iff.2 hne)
        rw [e] at e'; injection e' with e'; subst e'; exact Nat.lt_of_lt_of_le h' H5.out.1.size, Near.refl _ _⟩
    have H7 := Lib.hid (And.intro hS hb36)
    clear hS hb36 d40
    go_loopw [9] (fun v wr => OpRel w6 w5.heap.size b.2.2.2.1.length (.slice A b.2.2.1.length c) (kparse b.2.2.2.1) v wr) (fun v _ => svLen v)
    case atStart => exact H7.out.1
    case round =>
      obtain ⟨ko, s, vk, rows, sp, As, cs, rfl, hBs, hcs, hcsm, hgx, hK, hfin, hlen2, hlow, hN⟩ := hrel
      have h54 := (H5.out.2.1.below H6.out.1 H5.out.2.1.lt).near hN (fun hm => by
        have := List.mem_singleton.1 hm
        have := H3.out.2.2.2.lt
        have := H5.out.1.size
        omega)
      have h6g := (H5.out.2.2.below H6.out.1 H5.out.2.2.lt).near hN (fun hm => by
        have := List.mem_singleton.1 hm
        have := H5.out.2.2.lt
        omega)
      cases s with
      | nil =>
        have hks : kparse b.2.2.2.1 = some ko := by rw [← hfin]; unfold kfin; rw [kparse_nil, Option.map_some, List.append_nil]
        have hT := HT2.out.2 ko hks
        obtain ⟨Ak, ck, rfl, hkc, hkm, hKe⟩ := hK.keys
        have d5 := h6g.at_ 0 (v := .int .i64 b.1) rfl
        have d6 := hgx.at_ 0 (v := .slice A b.2.2.1.length c) rfl
        have d7 := hgx.at_ 1 (v := .slice Ak ko.length ck) rfl
        have hPw : GPost w q g2 d f wr := by
          have hp5 := (GPost.trans1 H2.out.1 H3.out.1.1).below (H5.out.1.trans (H6.out.1.mono H5.out.1.size))
          obtain ⟨q', e1, e2, e3, x1, x2, x3⟩ := hp5
          refine ⟨q', e1, e2, e3, x1.near hN (fun x hx hm => ?_), Near.high x2 hN (fun y hy => ?_), x3⟩
          · rw [List.mem_singleton.1 hm] at hx
            exact x1.offT H6.out.2 (by decide) hx
          · rw [List.mem_singleton.1 hy]
            exact Nat.le_trans (Nat.le_trans H2.out.1.size (by obtain ⟨_, _, _, _, _, x2, _⟩ := H3.out.1.1; exact x2.size)) H5.out.1.size
        have hBw : Below w.heap.size w wr := by
          have hb3 := H3.out.1.2 rfl
          have hb6 := (H2.out.1.trans (hb3.mono H2.out.1.size)).trans (H7.out.2.mono (H2.out.1.trans (hb3.mono H2.out.1.size)).size)
          exact hb6.trans (hN.toBelow (fun x hx => by rw [List.mem_singleton.1 hx]; exact Nat.le_trans (H2.out.1.trans (hb3.mono H2.out.1.size)).size H5.out.1.size) hb6.size)
        have hRf : Refs wr A b.2.2.1 := by
          have h1 : Refs w6 A b.2.2.1 := H3.out.2.1.below H7.out.2
          intro hp
          obtain ⟨b', o', e', h', _⟩ := H3.out.2.1 hp
          exact h1.near hN (fun ad e hm => by
            rw [e] at e'; injection e' with e'; subst e'
            have := List.mem_singleton.1 hm
            have := H5.out.1.size
            simp only at *
            omega) hp
        have hgx0 := hgx
        obtain ⟨bk, hbk⟩ : ∃ bk, bk = (b.1 != 2) := ⟨_, rfl⟩
        obtain ⟨lr, hlr⟩ : ∃ lr, lr = b.2.2.1.length := ⟨_, rfl⟩
        obtain ⟨lk, hlk⟩ : ∃ lk, lk = ko.length := ⟨_, rfl⟩
        have HX := Lib.hid (And.intro hT (And.intro h54 (And.intro hPw (And.intro hBw (And.intro hRf (And.intro hKe (And.intro hbk (And.intro hlr (And.intro hlk (And.intro hkc (And.intro hkm hK)))))))))))
        rw [← hlr] at d6
        rw [← hlk] at d7
        have hbk2 := hbk.symm
        simp only [List.length_nil]
        clear hks hT hkc hkm hKe hPw hBw hRf hbk hlr hlk hBs hcs hcsm hgx hK hfin hlen2 hlow hN h6g
        cases bk
        case true =>
          have HF := Lib.hid (HX.out.1.trans (if_neg (fun h => by have := hbk2; rw [h.1] at this; cases this)))
          clear d6 d7
          go_wp2_with (first
            | ((with_reducible show wpList _ _ _ ((⟨none, _, _, _, _, _⟩ : Oper) :: _) _ _); refine wpList_store_blk (o := ⟨none, _, _, _, _, _⟩) (h54) (by rfl) _ _ _ (by rfl) (by rfl) (#[.slice none 0 0, .slice none 0 0]) (by rfl) (sizeIx) (by rfl) (by rfl) (by simp [Value.oneCell']) ?_; intro w9 h9 hu9)
            | fail)
          have hup := HX.out.2.2.1.upd hu9 (Nat.le_succ _) (fun q' hq' => hq'.offT HX.out.2.1 (by decide))
          have HP := Lib.hid hup
          clear hup hu9
          refine bodyPost_ret (results_row_tmp (by rfl) _ _ (w.heap.size + 1) _ _ _ (by rfl) h9 Tryd.underlying128 (by rfl) sizeIx) rfl ?_
          refine ⟨none, 0, none, 0, by rw [HF.out]; rfl, by rw [HF.out]; exact IndexAt.nil _, ?_⟩
          rw [HF.out]
          exact ⟨HP.out, fun e => absurd (of_decide_eq_true e) (by simp)⟩
        case false =>
        have hk2 : b.1 = 2 := by simpa using hbk2
        by_cases hl0 : lr = 0
        · have k0 : ((lr : Int) == 0) = true := beq_iff_eq.2 (by omega)
          have HF := Lib.hid (HX.out.1.trans (if_neg (fun h => h.2.1 (List.eq_nil_of_length_eq_zero (by rw [← HX.out.2.2.2.2.2.2.2.1]; exact hl0)))))
          clear hl0 hk2
          go_wp2_with (first
            | ((with_reducible show wpList _ _ _ ((⟨none, _, _, _, _, _⟩ : Oper) :: _) _ _); refine wpList_store_blk (o := ⟨none, _, _, _, _, _⟩) (h54) (by rfl) _ _ _ (by rfl) (by rfl) (#[.slice none 0 0, .slice none 0 0]) (by rfl) (sizeIx) (by rfl) (by rfl) (by simp [Value.oneCell']) ?_; intro w9 h9 hu9)
            | fail)
          have hup := HX.out.2.2.1.upd hu9 (Nat.le_succ _) (fun q' hq' => hq'.offT HX.out.2.1 (by decide))
          have HP := Lib.hid hup
          clear hup hu9
          refine bodyPost_ret (results_row_tmp (by rfl) _ _ (w.heap.size + 1) _ _ _ (by rfl) h9 Tryd.underlying128 (by rfl) sizeIx) rfl ?_
          refine ⟨none, 0, none, 0, by rw [HF.out]; rfl, by rw [HF.out]; exact IndexAt.nil _, ?_⟩
          rw [HF.out]
          exact ⟨HP.out, fun e => absurd (of_decide_eq_true e) (by simp)⟩
        have k0 : ((lr : Int) == 0) = false := beq_eq_false_iff_ne.2 (by omega)
        by_cases hll : lr = lk
        case neg =>
          have k1 : ((lr : Int) != (lk : Int)) = true := bne_iff_ne.2 (by omega)
          have HF := Lib.hid (HX.out.1.trans (if_neg (fun h => hll (by rw [HX.out.2.2.2.2.2.2.2.1, HX.out.2.2.2.2.2.2.2.2.1]; exact h.2.2))))
          clear hl0 hll hk2
          go_wp2_with (first
            | ((with_reducible show wpList _ _ _ ((⟨none, _, _, _, _, _⟩ : Oper) :: _) _ _); refine wpList_store_blk (o := ⟨none, _, _, _, _, _⟩) (h54) (by rfl) _ _ _ (by rfl) (by rfl) (#[.slice none 0 0, .slice none 0 0]) (by rfl) (sizeIx) (by rfl) (by rfl) (by simp [Value.oneCell']) ?_; intro w9 h9 hu9)
            | fail)
          have hup := HX.out.2.2.1.upd hu9 (Nat.le_succ _) (fun q' hq' => hq'.offT HX.out.2.1 (by decide))
          have HP := Lib.hid hup
          clear hup hu9
          refine bodyPost_ret (results_row_tmp (by rfl) _ _ (w.heap.size + 1) _ _ _ (by rfl) h9 Tryd.underlying128 (by rfl) sizeIx) rfl ?_
          refine ⟨none, 0, none, 0, by rw [HF.out]; rfl, by rw [HF.out]; exact IndexAt.nil _, ?_⟩
          rw [HF.out]
          exact ⟨HP.out, fun e => absurd (of_decide_eq_true e) (by simp)⟩
        have k1 : ((lr : Int) != (lk : Int)) = false := by rw [hll]; simp
        have HF := Lib.hid (HX.out.1.trans (if_pos ⟨hk2, fun h => hl0 (by rw [HX.out.2.2.2.2.2.2.2.1, h]; rfl), by rw [← HX.out.2.2.2.2.2.2.2.1, ← HX.out.2.2.2.2.2.2.2.2.1]; exact hll⟩))
        have hgl : Blk wr w5.heap.size 128 #[.slice A lr c, .slice Ak lk ck] := by rw [HX.out.2.2.2.2.2.2.2.1, HX.out.2.2.2.2.2.2.2.2.1]; exact hgx0
        clear hl0 hll hk2
        go_wp2_with (first
          | ((with_reducible show wpList _ _ _ ((⟨some 75, _, _, _, _, _⟩ : Oper) :: _) _ _); refine wpList_load_blk (o := ⟨some 75, _, _, _, _, _⟩) (hgl) (by rfl) _ _ (by rfl) (by rfl) _ Tryd.underlying128 (by rfl) (sizeIx) (by rfl) ?_)
          | ((with_reducible show wpList _ _ _ ((⟨none, _, _, _, _, _⟩ : Oper) :: _) _ _); refine wpList_store_blk (o := ⟨none, _, _, _, _, _⟩) (h54) (by rfl) _ _ _ (by rfl) (by rfl) (#[.slice A lr c, .slice Ak lk ck]) (by rfl) (sizeIx) (by rfl) (by rfl) (by simp [Value.oneCell']) ?_; intro w9 h9 hu9)
          | fail)
        have hup := HX.out.2.2.1.upd hu9 (Nat.le_succ _) (fun q' hq' => hq'.offT HX.out.2.1 (by decide))
        have hix : IndexAt w9 A c Ak ck (b.2.2.1, ko) := by
          have hN9 : Near [w.heap.size + 1] wr w9 := Near.upd hu9 (by simp)
          have hK9 := HX.out.2.2.2.2.2.2.2.2.2.2.2.upd0 hu9 HX.out.2.1 (by decide) (by simp)
          obtain ⟨A', c', e', k1', k2', k3'⟩ := hK9.keys
          injection e' with e1 _ e3
          subst e1 e3
          refine ⟨HX.out.2.2.2.2.1.near hN9 (fun ad e hm => ?_), k3', HC.out.1, k1', k2'⟩
          have := HC.out.2.2.2.1 ad e
          have := List.mem_singleton.1 hm
          have := H2.out.2.1.lt
          omega
        have HP := Lib.hid (And.intro hup (And.intro hix (HX.out.2.2.2.1.upd hu9 (Nat.le_succ _))))
        clear hup hu9 hix
        refine bodyPost_ret (results_row_tmp (by rfl) _ _ (w.heap.size + 1) _ _ _ (by rfl) h9 Tryd.underlying128 (by rfl) sizeIx) rfl ?_
        refine ⟨A, c, Ak, ck, by rw [HF.out, HX.out.2.2.2.2.2.2.2.1, HX.out.2.2.2.2.2.2.2.2.1]; rfl, by rw [HF.out]; exact HP.out.2.1, ?_⟩
        rw [HF.out]
        exact ⟨HP.out.1, fun _ => HP.out.2.2⟩
      | cons n0 rs =>
        obtain ⟨bA, oA, rfl, hbl, hcell⟩ := Bytes.at_ hBs (by simp)
        have d1 := hcell 0 (by simp)
        obtain ⟨nn, hnn⟩ : ∃ nn, nn = n0.toNat := ⟨_, rfl⟩
        obtain ⟨lr, hlr⟩ : ∃ lr, lr = rs.length := ⟨_, rfl⟩
        have hnn2 : nn < 256 := by have := n0.toNat_lt; omega
        have hlr9 : lr ≤ 860 := by have := HC.out.2.2.2.2.2.1; simp at hlen2; omega
        rw [Nat.add_zero] at d1
        rw [show (n0 :: rs).getD 0 0 = n0 from rfl, show iu8 n0 = (nn : Int) by rw [hnn]; rfl] at d1
        simp only [List.length_cons] at hcs ⊢
        rw [← hlr] at hcs ⊢
        have kw : wrap64 (((lr + 1 : Nat) : Int) - 1) = (lr : Int) := by rw [w64_in (by omega)]; omega
        have kw2 : wrap64 ((lr : Int) + 1 - 1) = (lr : Int) := by rw [w64_in (by omega)]; omega
        have HX := Lib.hid (And.intro hBs (And.intro hcsm (And.intro hgx (And.intro hK (And.intro hfin (And.intro hlen2 (And.intro hlow (And.intro hN (And.intro hnn (And.intro hlr (And.intro h54 hbl)))))))))))
        have HCS := Lib.hid hcs
        clear hBs hcsm hgx hK hfin hlen2 hlow hN hnn hlr hbl hcell h6g hcs
        by_cases hbig : lr < nn
        · have k1 : decide ((nn : Int) > (lr : Int)) = true := decide_eq_true (by omega)
          have k2 : decide (lr < nn) = true := decide_eq_true hbig
          have hkn : kparse b.2.2.2.1 = none := by
            rw [← HX.out.2.2.2.2.1]
            unfold kfin
            rw [kparse_none (by rw [← HX.out.2.2.2.2.2.2.2.2.1, ← HX.out.2.2.2.2.2.2.2.2.2.1]; exact hbig)]
            rfl
          have HF := Lib.hid (HT2.out.1 hkn)
          clear hkn hbig
          go_wp2_with (first
            | ((with_reducible show wpList _ _ _ ((⟨none, _, _, _, _, _⟩ : Oper) :: _) _ _); refine wpList_store_blk (o := ⟨none, _, _, _, _, _⟩) (h54) (by rfl) _ _ _ (by rfl) (by rfl) (#[.slice none 0 0, .slice none 0 0]) (by rfl) (sizeIx) (by rfl) (by rfl) (by simp [Value.oneCell']) ?_; intro w9 h9 hu9)
            | fail)
          have hbw := H7.out.2
          have hPw : GPost w q g2 d f wr := by
            have hp5 := (GPost.trans1 H2.out.1 H3.out.1.1).below (H5.out.1.trans (H6.out.1.mono H5.out.1.size))
            obtain ⟨q', e1, e2, e3, x1, x2, x3⟩ := hp5
            refine ⟨q', e1, e2, e3, x1.near HX.out.2.2.2.2.2.2.2.1 (fun x hx hm => ?_), Near.high x2 HX.out.2.2.2.2.2.2.2.1 (fun y hy => ?_), x3⟩
            · rw [List.mem_singleton.1 hm] at hx
              exact x1.offT H6.out.2 (by decide) hx
            · rw [List.mem_singleton.1 hy]
              exact Nat.le_trans (Nat.le_trans H2.out.1.size (by obtain ⟨_, _, _, _, _, x2, _⟩ := H3.out.1.1; exact x2.size)) H5.out.1.size
          have hup := hPw.upd hu9 (Nat.le_succ _) (fun q' hq' => hq'.offT HX.out.2.2.2.2.2.2.2.2.2.2.1 (by decide))
          have HP := Lib.hid hup
          clear hPw hup hu9 hbw
          refine bodyPost_ret (results_row_tmp (by rfl) _ _ (w.heap.size + 1) _ _ _ (by rfl) h9 Tryd.underlying128 (by rfl) sizeIx) rfl ?_
          refine ⟨none, 0, none, 0, by rw [HF.out]; rfl, by rw [HF.out]; exact IndexAt.nil _, ?_⟩
          rw [HF.out]
          exact ⟨HP.out, fun e => absurd (of_decide_eq_true e) (by simp)⟩
        have k1 : decide ((nn : Int) > (lr : Int)) = false := decide_eq_false (by omega)
        have k2 : decide (lr < nn) = false := decide_eq_false hbig
        have hsum : wrap64 (1 + (nn : Int)) = ((1 + nn : Nat) : Int) := by rw [w64_in (by omega)]; omega
        have hHC := HCS.out
        have dgx := HX.out.2.2.1.at_ 1 (v := vk) rfl
        have fgx := HX.out.2.2.1.frozen 1
        have HKS := Lib.hid (kfin_step (o := ko) (n := n0) (r := rs) (by rw [← HX.out.2.2.2.2.2.2.2.2.1, ← HX.out.2.2.2.2.2.2.2.2.2.1]; omega))
        have hnl : nn ≤ lr := by omega
        obtain ⟨Ak, ck, hvk, -, -, -, -⟩ := OwnsC.reads HX.out.2.2.2.1.own
        obtain ⟨kn, hkn⟩ : ∃ kn, kn = (ko.map kgr).length := ⟨_, rfl⟩
        rw [← hkn] at hvk
        have HKN := Lib.hid hkn
        subst hvk
        clear hbig hkn
        go_wp2_with fail
        refine wp_region_treeT (fun w' => w'.cell? ⟨w5.heap.size, 1, none⟩ = some (.slice Ak kn ck)) [9] (PlanT.takes [0, 2, 3, 4] (PlanT.takes [5] (PlanT.takes [1] (.opt 6 (.opt 7 (PlanT.takes [8] (.opt 9 .done .no)) .no) .no)))) (by kernel_rfl) (by kernel_rfl) dgx ?_
        refine wpTree_pure _ _ _ (by rfl) (by rfl) ?_
        dsimp only [List.filterMap, List.getElem?_cons_zero, List.getElem?_cons_succ]
        repeat (go_big_quiet_step (fail))
        refine wpQuiet_nil ?_
        refine wpTree_takeL _ _ _ (by rfl) (by rfl) (dgx) ?_
        dsimp only [List.filterMap, List.getElem?_cons_zero, List.getElem?_cons_succ]
        (refine wpQuiet_cutB (by rfl) _ _ _ _ (by rfl) 5 Tryd.underlying22 size1 (some ⟨bA, oA, none⟩) (lr + 1) cs .i64 .i64 1 (1 + nn) (by rfl) (by rfl) (by rw [show ((1 + nn : Nat) : Int) = 1 + (nn : Int) by omega]; rfl) (by omega) (by omega) ?_; simp only [Act.put, List.setIfInBounds_toArray, List.set_cons_zero, List.set_cons_succ])
        refine wpQuiet_nil ?_
        refine wpTree_takeL _ _ _ (by rfl) (by rfl) (dgx) ?_
        dsimp only [List.filterMap, List.getElem?_cons_zero, List.getElem?_cons_succ]
        (refine wpQuiet_load_cell (fun w' hw' => hw') (by rfl) _ _ (by rfl) (by rfl) _ Tryd.underlying83 (by rfl) ?_; simp only [Act.put, List.setIfInBounds_toArray, List.set_cons_zero, List.set_cons_succ])
        refine wpQuiet_nil ?_
        obtain ⟨A2, hA2⟩ : ∃ A2, A2 = (if cs = 1 then (some ⟨bA, oA, none⟩ : Option Addr) else Option.map (fun x : Addr => x.add 1) (some ⟨bA, oA, none⟩)) := ⟨_, rfl⟩
        rw [← hA2, show 1 + nn - 1 = nn by omega]
        have hlen1 : (n0 :: rs).length = lr + 1 := by rw [List.length_cons, ← HX.out.2.2.2.2.2.2.2.2.2.1]
        have hb2 : Bytes wr A2 (rs.take nn) := by
          have := Bytes.cutB (c := cs) HX.out.1 (lo := 1) (hi := 1 + nn) (by rw [hlen1]; omega) (by rw [hlen1]; exact HCS.out)
          rw [show 1 + nn - 1 = nn by omega, ← hA2] at this
          exact this
        have hA2l : ∀ ad, A2 = some ad → ad.block < w5.heap.size := fun ad e => by
          have hl := HX.out.2.2.2.2.2.2.1 ⟨bA, oA, none⟩ rfl (by simp)
          rw [hA2] at e
          split at e
          · injection e with e; subst e; exact hl
          · simp only [Option.map_some, Option.some.injEq] at e
            rw [← e]; unfold Addr.add; split <;> exact hl
        have htk : (rs.take nn).length = nn := by rw [List.length_take, ← HX.out.2.2.2.2.2.2.2.2.2.1]; omega
        have HA := Lib.hid (And.intro hb2 (And.intro hA2l htk))
        clear hA2 hb2 hA2l htk hlen1
        refine wpTree_one _ rfl ?_
        go_wp2_with fail
        have hbl := ((Below.refl wr.heap.size wr).alloc (Nat.le_refl _) (.cells #[.slice A2 nn (cs - 1)] 22)).drew
        have hra : Reads (wr.alloc (.cells #[.slice A2 nn (cs - 1)] 22)).drew (some ⟨wr.heap.size, 0, none⟩) [.slice A2 nn (cs - 1)] := (reads_new wr 22 [.slice A2 nn (cs - 1)]).below (Below.refl _ _).drew
        have hK1 := HX.out.2.2.2.1.below hbl
        have hg1 := HX.out.2.2.1.below hbl HX.out.2.2.1.lt
        have hN1 := HX.out.2.2.2.2.2.2.2.1.trans (Near.below hbl)
        have dg1 := hg1.at_ 1 (v := .slice Ak kn ck) (by rw [HKN.out]; rfl)
        have H8 := Lib.hid (And.intro hra (And.intro hK1 (And.intro hg1 (And.intro hN1 (And.intro (Bytes.below HA.out.1 hbl) (Bytes.below HX.out.1 hbl))))))
        clear hbl hra hK1 hg1 hN1 dgx fgx
        generalize (wr.alloc (.cells #[.slice A2 nn (cs - 1)] 22)).drew = w8 at H8 dg1 ⊢
        refine TreeQ.in_ dg1 ?_
        refine wpTree_one _ rfl ?_
        have hko : OwnsC 22 1 w8 w5.heap.size (.slice Ak kn ck) kn rows sp := by have := H8.out.2.1.own; rw [← HKN.out] at this; exact this
        have hkl : kn ≤ 1000 := by rw [HKN.out, List.length_map]; have := HX.out.2.2.2.2.2.1; have := HC.out.2.2.2.2.2.1; omega
        have HO := Lib.hid (And.intro hko hkl)
        clear hko hkl
        go_wp2_with (first
          | ((with_reducible show wpList _ _ _ ((⟨some 50, _, _, _, _, _⟩ : Oper) :: _) _ _); refine wpList_append_vals (o := ⟨some 50, _, _, _, _, _⟩) (by rfl) _ _ _ (by rfl) w5.heap.size 22 (.slice none 0 0) 1 24 Tryd.underlying83 infoSl (by rfl) (by omega) (.slice Ak kn ck) kn rows sp (by rfl) HO.out.1 (some ⟨wr.heap.size, 0, none⟩) 1 1 [.slice A2 nn (cs - 1)] (by rfl) (by rfl) H8.out.1 (by simp [Value.oneCell']) (by have := HO.out.2; simp only [maxLen]; omega) (by have := HO.out.2; omega) (Nat.le_trans H6.out.1.size H8.out.2.2.2.1.size) ?_; intro v9 w9 sp9 ho9 hg9 hv9 hn9; refine stopped ?_)
          | fail)
        refine Stopped.mk ?_
        have hNk : Near (Value.slice Ak kn ck).ownBlock.toList w8 w9 := Near.grown hg9 (fun x hx => Option.mem_toList.2 hx)
        have hlow9 : ∀ x ∈ (Value.slice Ak kn ck).ownBlock.toList, w5.heap.size ≤ x ∧ x ≠ w5.heap.size := fun x hx => ⟨(OwnsC.lt H8.out.2.1.own x (Option.mem_toList.1 hx)).1, fun e => by
          obtain ⟨cs', hb'⟩ := ownBlk H8.out.2.1.own (Option.mem_toList.1 hx)
          rw [e] at hb'
          exact hb'.apart H8.out.2.2.1 (by decide) rfl⟩
        have hKn := H8.out.2.1.add (p := (rs.take nn, [], false, ())) (A := A2) (c := cs - 1) (by rw [HA.out.2.2]; have := HCS.out; omega) (by have := HX.out.2.1; omega) H8.out.2.2.2.2.1 (fun ad e => ⟨HA.out.2.1 ad e, trivial⟩) hNk (by rw [← HKN.out, HA.out.2.2]; exact ho9)
        have hg9b := H8.out.2.2.1.near hNk (fun hm => (hlow9 _ hm).2 rfl)
        have hN9 : Near [w5.heap.size] w6 w9 := H8.out.2.2.2.1.high hNk (fun x hx => by have := hlow9 x hx; have := HS6.out; omega)
        have dg9 := hg9b.at_ 1 (v := .slice Ak kn ck) (by rw [HKN.out]; rfl)
        have fg9 := hg9b.frozen 1
        obtain ⟨A9, c9, rfl, -, -, -, -⟩ := OwnsC.reads ho9
        have hgx10 := hg9b.set_ 1 (.slice A9 (kn + 1) c9)
        have hN10 := hN9.trans (near_set (X := [w5.heap.size]) (g := w5.heap.size) (Near.refl _ w9) (by simp) 1 (.slice A9 (kn + 1) c9))
        have hK10 := hKn.near (near_set (X := [w5.heap.size]) (g := w5.heap.size) (Near.refl _ w9) (by simp) 1 (.slice A9 (kn + 1) c9)) (fun x hx hm => by
          rw [List.mem_singleton.1 hm] at hx
          obtain ⟨cs', hb'⟩ := ownBlk hKn.own hx
          exact hb'.apart hg9b (by decide) rfl) (fun x hx => by rw [List.mem_singleton.1 hx]; exact Nat.le_refl _)
        have hlr := HX.out.2.2.2.2.2.2.2.2.2.1
        have hbA : bA < w5.heap.size := HX.out.2.2.2.2.2.2.1 ⟨bA, oA, none⟩ rfl (by simp)
        have hbs10 := Bytes.near (Bytes.near H8.out.2.2.2.2.2 hNk (fun ad e hm => by injection e with e; subst e; have := (hlow9 _ hm).1; simp only at this; omega)) (near_set (X := [w5.heap.size]) (g := w5.heap.size) (Near.refl _ w9) (by simp) 1 (.slice A9 (kn + 1) c9)) (fun ad e hm => by injection e with e; subst e; have := List.mem_singleton.1 hm; simp only at this; omega)
        have hdr : (n0 :: rs).drop (1 + nn) = rs.drop nn := by rw [Nat.add_comm]; rfl
        have HZ := Lib.hid (And.intro hbs10 (And.intro hgx10 (And.intro hK10 (And.intro hN10 (And.intro hdr hlr)))))
        have hcsn : 1 + nn ≤ lr + 1 := by omega
        clear hNk hlow9 hKn hg9b hN9 hgx10 hN10 hK10 hbs10 hdr hlr hbA ho9 hg9 hv9 hn9
        go_wp2_with fail
        refine TreeQ.in_ dg9 ?_
        refine wpTree_pure _ _ _ (by rfl) (by rfl) ?_
        dsimp only [List.filterMap, List.getElem?_cons_zero, List.getElem?_cons_succ]
        repeat (go_big_quiet_step (fail))
        refine wpQuiet_nil ?_
        refine wpTree_one _ rfl ?_
        go_wp2_with fail
        refine TreeQ.out (by rfl) ?_
        refine wpTree_done ?_
        clear dg9 fg9 dg1
        go_wp2_with (first
          | ((with_reducible show wpList _ _ _ ((⟨some 55, _, _, _, _, _⟩ : Oper) :: _) _ _); refine wpList_cut_bytes (o := ⟨some 55, _, _, _, _, _⟩) (by rfl) _ _ _ (by rfl) _ Tryd.underlying22 size1 (some ⟨bA, oA, none⟩) (lr + 1) (cs) .i64 (1 + nn) (by rfl) (by rfl) (n0 :: rs) ((by rw [List.length_cons, ← HZ.out.2.2.2.2.2])) (hcsn) (HCS.out) (HZ.out.1) ?_; intro A5 h5x _; rename_i hA5; refine stopped ?_)
          | fail)
        refine Stopped.mk ?_
        have hlen3 : (List.drop (1 + nn) (n0 :: rs)).length = (rs.drop nn).length := by rw [HZ.out.2.2.2.2.1]
        have hR : OpRel w6 w5.heap.size b.2.2.2.1.length (.slice A b.2.2.1.length c) (kparse b.2.2.2.1) (.slice A5 (rs.drop nn).length (cs - (1 + nn))) (w9.setCell ⟨w5.heap.size, 1, none⟩ (.slice A9 (kn + 1) c9)) := by
          refine ⟨ko ++ [rs.take nn], rs.drop nn, .slice A9 (kn + 1) c9, rows ++ [.slice A2 (rs.take nn).length (cs - 1)], sp9, A5, cs - (1 + nn), rfl, by rw [← HZ.out.2.2.2.2.1]; exact h5x, by rw [List.length_drop, ← HZ.out.2.2.2.2.2]; have := HCS.out; omega, by have := HX.out.2.1; omega, ?_, ?_, ?_, ?_, fun ad e _ => ?_, HZ.out.2.2.2.1⟩
          · have := HZ.out.2.1
            simpa using this
          · rw [List.map_append]; exact HZ.out.2.2.1
          · rw [← HX.out.2.2.2.2.1, HKS.out, ← HX.out.2.2.2.2.2.2.2.2.1]
          · have := HX.out.2.2.2.2.2.1
            simp only [List.length_append, List.length_nil, List.length_cons, List.length_drop] at this ⊢
            omega
          · obtain ⟨ad0, e0, e1⟩ := hA5 ad e
            rw [← e1]; exact HX.out.2.2.2.2.2.2.1 ad0 e0 (by simp)
        have hms : svLen (.slice A5 (rs.drop nn).length (cs - (1 + nn))) < svLen (.slice (some ⟨bA, oA, none⟩) (lr + 1) cs) := by
          show (rs.drop nn).length < lr + 1
          rw [List.length_drop, ← HZ.out.2.2.2.2.2]; omega
        have hdl : (rs.drop nn).length = rs.length + 1 - (1 + nn) := by rw [List.length_drop]; omega
        rw [hdl] at hR hms
        have HQ := Lib.hid (And.intro hR hms)
        clear hR hms h5x hA5 hlen3 hdl
        go_wp2_with fail
        go_roundw
        case rel => exact HQ.out.1
        case measure => exact HQ.out.2
end
end Go.Proofs.YtgkljncigbiffaaDoor

/- A key is looked for among keys: sort.Search with Get's function. Conditions: the keys can be read and are in order. -/
namespace Go.Proofs.YtgkljncigbiffaaDoor
open Go.RowKit
set_option maxRecDepth 100000 in
set_option maxHeartbeats 2000000 in
theorem getf_any (gx gk : Nat) (A K B : Option Addr) (lr c ck ce : Nat) (ks : List (List UInt8)) (key : List UInt8) (i : Nat) (hi : i < ks.length) (w : World) (hx : Blk w gx 128 #[.slice A lr c, .slice K ks.length ck]) (hk : Blk w gk 22 #[.slice B key.length ce]) (hK : Keys w K ks) (hB : Bytes w B key) :
    Calls Tryd.prog 55 #[.int .i64 (i : Int), .pointer (some ⟨gx, 0, none⟩), .pointer (some ⟨gk, 0, none⟩)] w fun e w' => e = .returned (.bool (decide (key < ks[i]))) ∧ Below w.heap.size w w' := by
  obtain ⟨b, off, rfl, hlt, hc⟩ := hK (by omega)
  obtain ⟨A1, c1, d3, k1, k2, hb1⟩ := hc i hi
  have d1 := hx.at_ 1 (v := .slice (some ⟨b, off, none⟩) ks.length ck) rfl
  have d2 := hk.at_ 0 (v := .slice B key.length ce) rfl
  obtain ⟨kx, hkx⟩ : ∃ kx, kx = ks[i] := ⟨_, rfl⟩
  rw [← hkx] at d3 hb1 ⊢
  have HH := Lib.hid (And.intro hb1 hB)
  clear hx hk hK hB hb1 hc hkx k1 k2
  go_enter Tryd.func55, Tryd.ntmps55
  go_wp2_with fail
  refine wp_region_planT (fun w' => w'.cell? ⟨gx, 1, none⟩ = some (.slice (some ⟨b, off, none⟩) ks.length ck) ∧ w'.cell? ⟨b, off + i, none⟩ = some (.slice A1 kx.length c1) ∧ w'.cell? ⟨gk, 0, none⟩ = some (.slice B key.length ce)) [] [(true, 0), (true, 2), (true, 1), (true, 5), (true, 3), (true, 4), (false, 6), (true, 7), (true, 8)] (by kernel_rfl) (by kernel_rfl) (⟨d1, d3, d2⟩) ?_
  refine wpPlan_pure [0, 2] [(true, 1), (true, 5), (true, 3), (true, 4), (false, 6), (true, 7), (true, 8)] _ (by rfl) (by rfl) ?_
  dsimp only [List.filterMap, List.getElem?_cons_zero, List.getElem?_cons_succ]
  repeat (go_big_quiet_step (fail))
  refine wpQuiet_nil ?_
  refine wpPlan_takeL [1, 5] [(true, 3), (true, 4), (false, 6), (true, 7), (true, 8)] _ (by rfl) (by rfl) (⟨d1, d3, d2⟩) ?_
  dsimp only [List.filterMap, List.getElem?_cons_zero, List.getElem?_cons_succ]
  (refine wpQuiet_load_cell (fun w' hw' => hw'.1) (by rfl) _ _ (by rfl) (by rfl) _ Tryd.underlying83 (by rfl) ?_; simp only [Act.put, List.setIfInBounds_toArray, List.set_cons_zero, List.set_cons_succ])
  (refine wpQuiet_load_cell (fun w' hw' => hw'.2.2) (by rfl) _ _ (by rfl) (by rfl) _ Tryd.underlying22 (by rfl) ?_; simp only [Act.put, List.setIfInBounds_toArray, List.set_cons_zero, List.set_cons_succ])
  refine wpQuiet_nil ?_
  refine wpPlan_pure [3] [(true, 4), (false, 6), (true, 7), (true, 8)] _ (by rfl) (by rfl) ?_
  dsimp only [List.filterMap, List.getElem?_cons_zero, List.getElem?_cons_succ]
  repeat (go_big_quiet_step (fail))
  refine wpQuiet_nil ?_
  refine wpPlan_takeL [4] [(false, 6), (true, 7), (true, 8)] _ (by rfl) (by rfl) (⟨d1, d3, d2⟩) ?_
  dsimp only [List.filterMap, List.getElem?_cons_zero, List.getElem?_cons_succ]
  (refine wpQuiet_load_cell (fun w' hw' => hw'.2.1) (by rfl) _ _ (by rfl) (by rfl) _ Tryd.underlying22 (by rfl) ?_; simp only [Act.put, List.setIfInBounds_toArray, List.set_cons_zero, List.set_cons_succ])
  refine wpQuiet_nil ?_
  refine wpPlan_forceL _ rfl ?_
  go_wp2_with fail
  refine (compare_any A1 B kx.length key.length c1 ce kx key rfl rfl w.drew (Bytes.below HH.out.1 (Below.refl _ _).drew) (Bytes.below HH.out.2 (Below.refl _ _).drew)).mono ?_
  rintro z w2 ⟨rfl, hw⟩
  subst hw
  have hc2 := And.intro d1 (And.intro d3 d2)
  clear d1 d3 d2
  go_wp2_with fail
  refine PlanQ.in_ hc2 ?_
  refine wpPlan_pure [7, 8] [] _ (by rfl) (by rfl) ?_
  dsimp only [List.filterMap, List.getElem?_cons_zero, List.getElem?_cons_succ]
  repeat (go_big_quiet_step (fail))
  refine wpQuiet_nil ?_
  refine wpPlan_tidy ?_
  clear hc2
  rw [cmp_gt0]
  go_wp2
  go_ret
  exact ⟨rfl, (Below.refl _ _).drew⟩
/-- What the halving knows ahead of each step. -/
def SrRel (w : World) (n : Nat) (p : Nat → Bool) (v5 v6 : Value) (wr : World) : Prop := ∃ lo hi : Nat, lo ≤ hi ∧ hi ≤ n ∧ v5 = .int .i64 (lo : Int) ∧ v6 = .int .i64 (hi : Int) ∧ (∀ i, i < lo → p i = false) ∧ (∀ i, hi ≤ i → i < n → p i = true) ∧ Below w.heap.size w wr
set_option maxRecDepth 100000 in
set_option maxHeartbeats 2000000 in
theorem search_any (n : Nat) (hn : n ≤ 65536) (p : Nat → Bool) (hmono : ∀ a b, a ≤ b → b < n → p a = true → p b = true) (gx gk : Nat) (w : World)
    (hf : ∀ (i : Nat) (w' : World), i < n → Below w.heap.size w w' → Calls Tryd.prog 55 #[.int .i64 (i : Int), .pointer (some ⟨gx, 0, none⟩), .pointer (some ⟨gk, 0, none⟩)] w' fun e w'' => e = .returned (.bool (p i)) ∧ Below w'.heap.size w' w'') :
    Calls Tryd.prog 54 #[.int .i64 (n : Int), .func (.func 55) #[] #[.pointer (some ⟨gx, 0, none⟩), .pointer (some ⟨gk, 0, none⟩)]] w fun e w' => ∃ at_ : Nat, e = .returned (.int .i64 (at_ : Int)) ∧ at_ ≤ n ∧ (∀ i, i < at_ → p i = false) ∧ (∀ i, at_ ≤ i → i < n → p i = true) ∧ Below w.heap.size w w' := by
  have HH := Lib.hid (And.intro hf hmono)
  clear hf hmono
  go_enter Tryd.func54, Tryd.ntmps54
  go_wp2_with fail
  go_loopw [5, 6] (fun v5 v6 wr => SrRel w n p v5 v6 wr) (fun v5 v6 _ => (intOf v6 - intOf v5).toNat)
  case atStart => exact ⟨0, n, Nat.zero_le _, Nat.le_refl _, rfl, rfl, fun i h => absurd h (by omega), fun i h1 h2 => absurd h1 (by omega), Below.refl _ _⟩
  case round =>
    obtain ⟨lo, hi, h1, h2, rfl, rfl, h3, h4, hB⟩ := hrel
    by_cases hlt : lo < hi
    case neg =>
      have kd : decide (lo < hi) = false := decide_eq_false hlt
      obtain rfl : lo = hi := by omega
      have HX := Lib.hid (And.intro h3 (And.intro h4 hB))
      clear h1 h3 h4 hB
      go_wp2_with fail
      go_ret
      exact ⟨lo, rfl, h2, HX.out⟩
    have kd : decide (lo < hi) = true := decide_eq_true hlt
    have kd2 : decide ((lo : Int) < (hi : Int)) = true := decide_eq_true (by omega)
    have ks : wrap64 ((lo : Int) + (hi : Int)) = ((lo + hi : Nat) : Int) := by rw [w64_in (by omega)]; omega
    have HX := Lib.hid (And.intro h3 (And.intro h4 hB))
    clear h3 h4 hB
    go_wp2_with fail
    refine (HH.out.1 ((lo + hi) / 2) wr (by omega) HX.out.2.2).mono ?_
    rintro e w2 ⟨rfl, hbx⟩
    have hB2 := HX.out.2.2.trans (hbx.mono HX.out.2.2.size)
    have hmi : ((lo : Int) + (hi : Int)) / 2 = (((lo + hi) / 2 : Nat) : Int) := by omega
    rw [hmi]
    cases hp : p ((lo + hi) / 2)
    · have hlow : ∀ i, i < (lo + hi) / 2 + 1 → p i = false := fun i hi' => by
        cases hpi : p i
        · rfl
        · have h9 := HH.out.2 i ((lo + hi) / 2) (by omega) (by omega) hpi
          rw [hp] at h9
          cases h9
      have HF := Lib.hid (show SrRel w n p (.int .i64 (((lo + hi) / 2 + 1 : Nat) : Int)) (.int .i64 (hi : Int)) w2 from ⟨(lo + hi) / 2 + 1, hi, by omega, h2, rfl, rfl, hlow, HX.out.2.1, hB2⟩)
      have hmd : (lo + hi) / 2 < 65536 := by omega
      obtain ⟨md, hmd0⟩ : ∃ md, md = (lo + hi) / 2 := ⟨_, rfl⟩
      rw [← hmd0] at HF hmd ⊢
      have HM := Lib.hid (And.intro hmd0 hlt)
      clear hp hbx hB2 hmd0 hlow hmi
      go_wp2_with fail
      refine ⟨?_, ?_⟩
      · exact HF.out
      · have := HM.out.1; have := HM.out.2; show ((hi : Int) - ((md : Int) + 1)).toNat < ((hi : Int) - (lo : Int)).toNat; omega
    · have HF := Lib.hid (show SrRel w n p (.int .i64 (lo : Int)) (.int .i64 (((lo + hi) / 2 : Nat) : Int)) w2 from ⟨lo, (lo + hi) / 2, by omega, by omega, rfl, rfl, HX.out.1, fun i h1' h2' => HH.out.2 ((lo + hi) / 2) i h1' h2' hp, hB2⟩)
      obtain ⟨md, hmd0⟩ : ∃ md, md = (lo + hi) / 2 := ⟨_, rfl⟩
      rw [← hmd0] at HF ⊢
      have HM := Lib.hid (And.intro hmd0 hlt)
      clear hp hbx hB2 hmd0 hmi
      go_wp2_with fail
      refine ⟨?_, ?_⟩
      · exact HF.out
      · have := HM.out.1; have := HM.out.2; show ((md : Int) - (lo : Int)).toNat < ((hi : Int) - (lo : Int)).toNat; omega
end Go.Proofs.YtgkljncigbiffaaDoor
