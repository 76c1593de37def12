/- Copies are laid on a disk: the program's lay. Conditions: the disk is known; the bytes are 512. -/
import Derived.Test.YtmhfehhpfkjloaaM613
namespace Go.Proofs.Ytmhfehhpfkjloaa
open Go.RowKit
theorem times_succ (k : Nat) (b : List UInt8) : times (k + 1) b = times k b ++ b := by
  unfold times; rw [List.replicate_succ', List.flatten_append]; simp
theorem times_length (k : Nat) (b : List UInt8) : (times k b).length = k * b.length := by
  induction k with
  | zero => simp [times]
  | succ k ih => rw [times_succ, List.length_append, ih, Nat.succ_mul]
/-- A disk, known. -/
structure DkOk (w : World) (p : Pl) (gf : Option Nat) (d : Dsk) (f : Option Fus) : Prop where
  dr : DskR w p gf d
  fr : FusR w gf f
  ok : d.Ok
theorem DkOk.near {w w' : World} {p : Pl} {gf : Option Nat} {d : Dsk} {f : Option Fus} (h : DkOk w p gf d f) (k : Near [] w w') : DkOk w' p gf d f := ⟨h.dr.near k ⟨by simp, by simp, by simp⟩, h.fr.near k (fun _ _ => by simp), h.ok⟩
/-- What a call that changes the disk leaves. -/
def DkPost (w : World) (p : Pl) (gf : Option Nat) (r : Int × Dsk × Option Fus) (e : Ending) (w' : World) : Prop := e = .returned (.int .i64 r.1) ∧ DkOk w' p gf r.2.1 r.2.2 ∧ Near (p.all gf) w w'
theorem DkOk.lt {w : World} {p : Pl} {gf : Option Nat} {d : Dsk} {f : Option Fus} (h : DkOk w p gf d f) : ∀ x ∈ p.all gf, x < w.heap.size := fun x hx => by
  obtain ⟨h1, h2, h3⟩ := h.dr.lt
  unfold Pl.all at hx
  simp only [List.cons_append, List.nil_append, List.mem_cons, Option.mem_toList] at hx
  rcases hx with rfl | rfl | rfl | hx
  · exact h1
  · exact h2
  · exact h3
  · exact h.fr.lt hx
theorem write_ok' (at_ : Int) (n cap : Nat) (A : Option Addr) (b : List UInt8) (w : World) {p : Pl} {gf : Option Nat} {d : Dsk} {f : Option Fus} (hn : n = b.length) (hby : Bytes w A b) (hA : ∀ ad, A = some ad → ad.block ∉ p.all gf) (hcap : b.length ≤ cap) (hbl : b.length ≤ 140737488355328) (h : DkOk w p gf d f) :
    Calls Try.prog 39 #[.pointer (some ⟨p.gd, 0, none⟩), .int .i64 at_, .slice A n cap] w (DkPost w p gf (d.write f at_ b)) := by
  subst hn
  exact (write_all at_ cap A b hby hA hcap hbl h.dr h.ok h.fr).mono fun e w' ⟨h1, h2, h3, h4⟩ => ⟨h1, ⟨h2, h3, Dsk.write_ok h.ok⟩, h4⟩
theorem flush_ok' (w : World) {p : Pl} {gf : Option Nat} {d : Dsk} {f : Option Fus} (h : DkOk w p gf d f) : Calls Try.prog 43 #[.pointer (some ⟨p.gd, 0, none⟩)] w (DkPost w p gf (d.flush f)) :=
  (flush_all h.dr h.fr).mono fun _ _ ⟨h1, h2, h3, h4⟩ => ⟨h1, ⟨h2, h3, Dsk.flush_ok h.ok⟩, h4⟩
def LayRel (w : World) (g n : Nat) (b : List UInt8) (v i : Value) (wr : World) : Prop := ∃ k sp, k ≤ n ∧ i = .int .i64 (k : Int) ∧ OwnB 5 wr (g + 1) v (times k b) sp ∧ Below (g + 1) w wr
set_option maxRecDepth 100000 in
set_option maxHeartbeats 2000000 in
theorem lay_all (b : List UInt8) (from_ n : Nat) (w : World) {p : Pl} {gf : Option Nat} {d : Dsk} {f : Option Fus} (hb : b.length = 512) (hfr : from_ ≤ 8) (hn : n ≤ 8) (h : DkOk w p gf d f) :
    Calls Try.prog 58 #[.pointer (some ⟨p.gd, 0, none⟩), .agg (b.map u8v).toArray, .int .i64 (from_ : Int), .int .i64 (n : Int)] w (DkPost w p gf (Sp.lay d f b from_ n)) := by
  have hB := (Below.refl w.heap.size w).alloc (Nat.le_refl _) (.cells (b.map u8v).toArray 94)
  have hx := Blk.new w 94 (b.map u8v).toArray
  have hz : (w.alloc (.cells (b.map u8v).toArray 94)).heap.size = w.heap.size + 1 := World.size_alloc ..
  have H0 := Lib.hid (And.intro hB (And.intro hx (And.intro hz (And.intro h hb))))
  clear hB hx hz h hb
  go_enter Try.func58, Try.ntmps58
  go_wp2_with fail
  generalize w.alloc (.cells (b.map u8v).toArray 94) = w1 at H0 ⊢
  go_loopw [9, 12] (fun v i wr => LayRel w1 w.heap.size n b v i wr) (fun _ i _ => n - (intOf i).toNat)
  case atStart => exact ⟨0, [], Nat.zero_le _, rfl, OwnsC.nil _ _ _ _, (show Below (w.heap.size + 1) w1 w1 from Below.refl _ _)⟩
  case round =>
    obtain ⟨k, sp, hk, rfl, ho, hBr⟩ := hrel
    obtain ⟨A, c, rfl, hc, hc2, hby⟩ := OwnB.open_ ho
    have hlen : (times k b).length = k * 512 := by rw [times_length, H0.out.2.2.2.2]
    rw [hlen] at hc ho ⊢
    have HR := Lib.hid (And.intro ho (And.intro hBr hlen))
    have HB := Lib.hid (And.intro hby hc2)
    clear ho hBr hby hc2 hlen
    by_cases hlt : k < n
    · have hsz := HR.out.2.1.size
      have hxb : Bytes wr (some ⟨w.heap.size, 0, none⟩) b := Blk.bytes (H0.out.2.1.below HR.out.2.1 (Nat.lt_succ_self _))
      have hs1 : w.heap.size + 1 ≤ wr.heap.size := by have := H0.out.2.2.1; omega
      have hk8 : k < 8 := by omega
      go_wp2_with (first
        | (((with_reducible show wpList _ _ _ ((⟨some 16, _, _, _, _, _⟩ : Oper) :: _) _ _); skip); refine wpList_append_bytes (o := ⟨some 16, _, _, _, _, _⟩) (by rfl) _ _ _ (by rfl) (w.heap.size + 1) _ Try.underlying43 u8info (.slice A (k * 512) c) (times k b) sp (by rfl) HR.out.1 (some ⟨w.heap.size, 0, none⟩) 512 b (by rw [H0.out.2.2.2.2]; rfl) hxb (by rw [HR.out.2.2, H0.out.2.2.2.2]; omega) hs1 ?_; intro v5 w5 sp5 ho5 hg5 _ _; have HX := Lib.hid (And.intro ho5 hg5); clear ho5 hg5)
        | fail)
      refine ⟨⟨k + 1, sp5, by omega, by go_num, by rw [times_succ]; exact HX.out.1, HR.out.2.1.grown HX.out.2 hs1 (fun j hj => (OwnsC.lt HR.out.1 j hj).1)⟩, by simp [intOf]; omega⟩
    · obtain rfl : k = n := by omega
      have hnr : Near [] w wr := Near.below (H0.out.1.trans (HR.out.2.1.mono (Nat.le_succ _)))
      have hdk := H0.out.2.2.2.1.near hnr
      have hap : ∀ ad, A = some ad → ad.block ∉ p.all gf := fun ad e hx => by
        have h1 := (OwnsC.lt HR.out.1 ad.block (by rw [e]; rfl)).1
        have h2 := H0.out.2.2.2.1.lt _ hx
        omega
      have hW := write_ok' (2 * from_ : Nat) (k * 512) c A (times k b) wr HR.out.2.2.symm HB.out.1 hap (by rw [HR.out.2.2]; exact hc) (by rw [HR.out.2.2]; omega) hdk
      rw [show ((2 * from_ : Nat) : Int) = (from_ : Int) * 2 by omega] at hW
      have HW := Lib.hid (And.intro hW hnr)
      clear hW hnr hdk hap
      go_wp2_with fail
      refine HW.out.1.mono ?_
      rintro e w2 ⟨rfl, hdk2, hn2⟩
      have HE : Hid (Sp.lay d f b from_ k = if (d.write f ((from_ : Int) * 2) (times k b)).1 ≠ 0 then d.write f ((from_ : Int) * 2) (times k b) else (d.write f ((from_ : Int) * 2) (times k b)).2.1.flush (d.write f ((from_ : Int) * 2) (times k b)).2.2) := Lib.hid (by
        unfold Sp.lay
        rw [show ((2 * from_ : Nat) : Int) = (from_ : Int) * 2 by omega])
      generalize d.write f ((from_ : Int) * 2) (times k b) = r at hdk2 HE ⊢
      have H2 := Lib.hid (And.intro hdk2 ((HW.out.2.wider (Y := p.all gf) (by simp)).trans hn2))
      clear hdk2 hn2 HW HB HR H0
      obtain ⟨c0, d2, f2⟩ := r
      simp only at HE H2 ⊢
      by_cases he : c0 = 0
      · subst he
        rw [if_neg (by simp)] at HE
        go_wp2_with fail
        refine (flush_ok' w2 H2.out.1).mono ?_
        rintro e w3 ⟨rfl, hdk3, hn3⟩
        have H3 := Lib.hid (And.intro hdk3 (H2.out.2.trans hn3))
        clear hdk3 hn3 H2
        generalize d2.flush f2 = r3 at H3 HE ⊢
        go_wp2
        go_ret
        rw [HE.out]
        exact ⟨rfl, H3.out.1, H3.out.2⟩
      · rw [if_pos he] at HE
        have he' : (c0 != 0) = true := by simpa using he
        go_wp2
        go_ret
        rw [HE.out]
        exact ⟨rfl, H2.out.1, H2.out.2⟩
end Go.Proofs.Ytmhfehhpfkjloaa

/- Which copy is open: plain facts. No condition. -/
namespace Go.Proofs.Ytmhfehhpfkjloaa
/-- What has been picked: nothing, or a copy that is read and stands twice. -/
def Sp.Picked (cs : List (List UInt8)) (p : SpT × List UInt8) : Prop := p = (Sp.none_, zero512) ∨ ∃ b ∈ cs, p = ((Sp.read b).2, b) ∧ (Sp.read b).1 = 0 ∧ 2 ≤ cs.count b ∧ 0 < (Sp.read b).2.1 0
theorem Sp.fold_picked (cs : List (List UInt8)) : ∀ (l : List (List UInt8)) (p : SpT × List UInt8), (∀ b ∈ l, b ∈ cs) → Sp.Picked cs p →
    Sp.Picked cs (l.foldl (Sp.step cs) p) ∧ p.1.1 0 ≤ (l.foldl (Sp.step cs) p).1.1 0 ∧ ∀ b ∈ l, (Sp.read b).1 = 0 → 2 ≤ cs.count b → (Sp.read b).2.1 0 ≤ (l.foldl (Sp.step cs) p).1.1 0
  | [], p, _, hp => ⟨hp, Int.le_refl _, fun b hb => by cases hb⟩
  | b :: l, p, hl, hp => by
    have h0 : 0 ≤ p.1.1 0 := by
      rcases hp with rfl | ⟨b, _, rfl, _, _, h⟩
      · exact Int.le_refl 0
      · exact Int.le_of_lt h
    have hs : Sp.Picked cs (Sp.step cs p b) ∧ p.1.1 0 ≤ (Sp.step cs p b).1.1 0 ∧ ((Sp.read b).1 = 0 → 2 ≤ cs.count b → (Sp.read b).2.1 0 ≤ (Sp.step cs p b).1.1 0) := by
      unfold Sp.step
      by_cases hc : (Sp.read b).1 = 0 ∧ 2 ≤ cs.count b ∧ p.1.1 0 < (Sp.read b).2.1 0
      · rw [if_pos hc]
        exact ⟨.inr ⟨b, hl b (.head _), rfl, hc.1, hc.2.1, by omega⟩, Int.le_of_lt hc.2.2, fun _ _ => Int.le_refl _⟩
      · rw [if_neg hc]
        exact ⟨hp, Int.le_refl _, fun h1 h2 => by
          have : ¬ p.1.1 0 < (Sp.read b).2.1 0 := fun h => hc ⟨h1, h2, h⟩
          omega⟩
    obtain ⟨h1, h2, h3⟩ := Sp.fold_picked cs l (Sp.step cs p b) (fun x hx => hl x (.tail _ hx)) hs.1
    refine ⟨h1, Int.le_trans hs.2.1 h2, fun x hx => ?_⟩
    rcases List.mem_cons.1 hx with rfl | hx
    · exact fun a c => Int.le_trans (hs.2.2 a c) h2
    · exact h3 x hx
theorem Sp.best_picked (cs : List (List UInt8)) : Sp.Picked cs (Sp.best cs) := (Sp.fold_picked cs cs _ (fun _ h => h) (.inl rfl)).1
theorem Sp.best_most (cs : List (List UInt8)) : ∀ b ∈ cs, (Sp.read b).1 = 0 → 2 ≤ cs.count b → (Sp.read b).2.1 0 ≤ (Sp.best cs).1.1 0 := (Sp.fold_picked cs cs _ (fun _ h => h) (.inl rfl)).2.2
theorem Sp.best_range (cs : List (List UInt8)) (h : 0 < (Sp.best cs).1.1 0) : (Sp.best cs).1.1 0 ≤ 1073741824 ∧ (Sp.read (Sp.best cs).2) = (0, (Sp.best cs).1) ∧ Sp.ok (Sp.best cs).1 = true ∧ Sp.bytes (Sp.best cs).1 = (Sp.best cs).2 ∧ (Sp.best cs).2 ∈ cs ∧ 2 ≤ cs.count (Sp.best cs).2 := by
  rcases Sp.best_picked cs with e | ⟨b, hb, e, h0, h2, _⟩
  · rw [e] at h; exact absurd h (by decide)
  · rw [e]
    rcases Sp.read_cases b with (h3 | h3) | ⟨h3, h4, h5, h6⟩
    · rw [h3] at h0; exact absurd h0 (by decide)
    · rw [h3] at h0; exact absurd h0 (by decide)
    · rw [h3]
      have hh := (Sp.ok_spec h5).1.2.1 0 (by simp)
      exact ⟨hh.2, rfl, h5, h6, hb, h2⟩
theorem Sp.best_len {cs : List (List UInt8)} (h : ∀ b ∈ cs, b.length = 512) : (Sp.best cs).2.length = 512 := by
  rcases Sp.best_picked cs with e | ⟨b, hb, e, _⟩
  · rw [e]; show zero512.length = 512; unfold zero512; rw [List.length_replicate]
  · rw [e]; exact h b hb
theorem cpys_len {d : Dsk} (h : d.Ok) (hN : 8 ≤ d.N) : ∀ b ∈ d.cpys, b.length = 512 := by
  have hc : ∀ k, k < 4 → (d.cpy k).length = 512 := fun k hk => by unfold Dsk.cpy; rw [List.length_take, List.length_drop, h.len]; omega
  intro b hb
  simp only [Dsk.cpys, List.mem_cons, List.not_mem_nil, or_false] at hb
  rcases hb with rfl | rfl | rfl | rfl <;> exact hc _ (by omega)
theorem Sp.seq_ok {s : SpT} (n : Int) : (Sp.seq n s).1 0 = n := by show (if (0 : Nat) = 0 then n else s.1 0) = n; exact if_pos rfl
theorem Sp.seq_spc (n : Int) (f : HdF) (fe : Bool) (hs : List (Int × Int)) : Sp.seq n (f, fe, hs) = (fun i => if i = 0 then n else f i, fe, hs) := rfl
theorem Sp.seq_same {n : Int} {s t : SpT} (h : Sp.same s t) : Sp.same (Sp.seq n s) (Sp.seq n t) := by
  refine ⟨fun i hi => ?_, h.2⟩
  show (if i = 0 then n else s.1 i) = (if i = 0 then n else t.1 i)
  by_cases e : i = 0
  · rw [if_pos e, if_pos e]
  · rw [if_neg e, if_neg e, h.1 i hi]
end Go.Proofs.Ytmhfehhpfkjloaa

/- What is open, and a format: the program's Open, Format. Conditions: the disk is known. -/
namespace Go.Proofs.Ytmhfehhpfkjloaa
open Go.RowKit
/-- What Open, Write tell: a superblock, and an error. -/
def SupPost (w : World) (r : Int × SpT) (B : Option Addr) (e : Ending) (w' : World) : Prop :=
  ∃ (fs : HdF) (fe : Bool) (dd : Nat) (hs : List (Int × Int)), e = .returned (.tuple #[.agg (spc fs fe (.slice B hs.length dd)), .int .i64 r.1]) ∧ Sp.same (fs, fe, hs) r.2 ∧ Heads w' B hs ∧ hs.length ≤ dd ∧ (∀ ad, B = some ad → w.heap.size ≤ ad.block)
theorem SupPost.no {w w' : World} {c : Int} : SupPost w (c, Sp.none_) none (.returned (.tuple #[.agg spz, .int .i64 c])) w' := ⟨fun _ => 0, false, 0, [], rfl, ⟨fun _ _ => rfl, rfl, rfl⟩, fun h => absurd h (by simp), Nat.le_refl _, fun _ h => by cases h⟩
set_option maxRecDepth 100000 in
set_option maxHeartbeats 2000000 in
theorem spOpen_all (w : World) {p : Pl} {gf : Option Nat} {d : Dsk} {f : Option Fus} (h : DkOk w p gf d f) :
    Calls Try.prog 13 #[.pointer (some ⟨p.gd, 0, none⟩)] w fun e w' => (∃ B, SupPost w (Sp.open_ d f) B e w') ∧ Below w.heap.size w w' := by
  have hz := zeroSuper
  have hzr := zeroRaw
  have hB := (Below.refl w.heap.size w).alloc (Nat.le_refl _) (.cells spz 26)
  have hx := Blk.new w 26 spz
  have hrd := spReady_all (h.near (Near.below hB)).dr (h.near (Near.below hB)).fr h.ok
  have H0 := Lib.hid (And.intro hB (And.intro hx (And.intro h hrd)))
  clear hB hx h hrd
  go_enter Try.func13, Try.ntmps13
  go_wp2_with fail
  refine H0.out.2.2.2.mono ?_
  rintro e w1 ⟨rfl, hw⟩
  obtain rfl := hw.symm
  clear hw
  by_cases hr : d.rdy f = 0
  · rw [hr]
    have ho : d.isOut f = false := by unfold Dsk.rdy at hr; cases hq : d.isOut f <;> simp [hq] at hr ⊢
    have hN : 8 ≤ d.N := by unfold Dsk.rdy at hr; rw [ho] at hr; simp at hr; omega
    have hnw := (H0.out.2.2.1.near (Near.below H0.out.1))
    have hop := open_any p gf d f _ hnw.dr hnw.fr hnw.ok ho hN
    have H1 := Lib.hid (And.intro hop (And.intro hr hN))
    clear hop hnw ho hN hr
    go_wp2_with fail
    refine H1.out.1.mono ?_
    rintro e w2 ⟨fs, fe, B, dd, hs, rfl, hsm, hhd, hle, hfr, hb2⟩
    have hbl := Sp.best_len (cpys_len H0.out.2.2.1.ok H1.out.2.2)
    have hx2 := (H0.out.2.1.below hb2 H0.out.2.1.lt)
    have hw2 : w.heap.size < w2.heap.size := hx2.lt
    have hx3 := (hx2.alloc (.cells spz 26)).alloc (.cells raw0 94)
    have hA := (Blk.new w2 26 spz).alloc (.cells raw0 94)
    have hR : Blk ((w2.alloc (.cells spz 26)).alloc (.cells raw0 94)) (w2.heap.size + 1) 94 raw0 := Blk.new' _ _ _ (by simp)
    have hn3 := Near.below (X := []) (((Below.refl w2.heap.size w2).alloc (Nat.le_refl _) (.cells spz 26)).alloc (by simp) (.cells raw0 94))
    have H2 := Lib.hid (And.intro hsm (And.intro hhd (And.intro hle (And.intro (show ∀ ad, B = some ad → w.heap.size + 1 ≤ ad.block from fun ad e => by have h := hfr ad e; simpa using h) (And.intro hbl (And.intro (H0.out.1.trans (hb2.mono H0.out.1.size)) hn3))))))
    have HX := Lib.hid (And.intro hx3 (And.intro hA hR))
    have HW := Lib.hid hw2
    clear hsm hhd hle hfr hb2 hbl hx2 hw2 hx3 hA hR hn3
    have HO : Hid (Sp.open_ d f = if 0 < (Sp.best d.cpys).1.1 0 then (0, (Sp.best d.cpys).1) else (10, Sp.none_)) := Lib.hid (by unfold Sp.open_; rw [H1.out.2.1]; rfl)
    by_cases hpos : 0 < (Sp.best d.cpys).1.1 0
    · rw [if_pos hpos] at HO
      rw [decide_eq_true hpos]
      clear hpos
      go_wp2_with (first
        | ((with_reducible show wpList _ _ _ ((⟨none, _, _, _, _, _⟩ : Oper) :: _) _ _); refine wpList_store_blk (o := ⟨none, _, _, _, _, _⟩) (HX.out.2.1) (by rfl) _ _ _ (by rfl) (by rfl) (spc fs fe (.slice B hs.length dd)) (by rfl) (sizeSuper) (spc_size _ _ _) (spc_size _ _ _) (spc_one _ _ _ rfl) ?_; intro w4 h4 hu4; have H4 := Lib.hid (And.intro h4 hu4); clear h4 hu4)
        | ((with_reducible show wpList _ _ _ ((⟨none, _, _, _, _, _⟩ : Oper) :: _) _ _); refine wpList_store_blk (o := ⟨none, _, _, _, _, _⟩) ((HX.out.2.2.near (Near.upd (X := [w2.heap.size]) H4.out.2 (by simp)) (by simp))) (by rfl) _ _ _ (by rfl) (by rfl) (((Sp.best d.cpys).2.map u8v).toArray) (by rfl) (sizeRaw) (by rw [raw0_list, List.size_toArray, List.length_map, List.length_replicate]) (by rw [List.size_toArray, List.length_map]; exact H2.out.2.2.2.2.1) (u8_all _) ?_; intro w5 h5 hu5; have H5 := Lib.hid (And.intro (H4.out.1.near (Near.upd (X := [w2.heap.size + 1]) hu5 (by simp)) (by simp)) hu5); clear h5 hu5)
        | ((with_reducible show wpList _ _ _ ((⟨some 23, _, _, _, _, _⟩ : Oper) :: _) _ _); refine wpList_load_blk (o := ⟨some 23, _, _, _, _, _⟩) (H5.out.1) (by rfl) _ _ (by rfl) (by rfl) _ Try.underlying26 (by rfl) (sizeSuper) (by exact spc_size _ _ _) ?_)
        | ((with_reducible show wpList _ _ _ ((⟨none, _, _, _, _, _⟩ : Oper) :: _) _ _); refine wpList_store_blk (o := ⟨none, _, _, _, _, _⟩) (((HX.out.1.near (Near.upd (X := [w2.heap.size]) H4.out.2 (by simp)) (by have := HW.out; simp; omega)).near (Near.upd (X := [w2.heap.size + 1]) H5.out.2 (by simp)) (by have := HW.out; simp; omega))) (by rfl) _ _ _ (by rfl) (by rfl) (spc fs fe (.slice B hs.length dd)) (by rfl) (sizeSuper) (spc_size _ _ _) (spc_size _ _ _) (spc_one _ _ _ rfl) ?_; intro w6 h6 hu6)
        | fail)
      refine bodyPost_ret (results_row_tmp (by rfl) _ _ _ _ _ _ (by rfl) h6 Try.underlying26 (by rfl) sizeSuper) rfl ?_
      have hn5 := (H2.out.2.2.2.2.2.2.high (Near.upd (X := [w2.heap.size]) H4.out.2 (by simp)) (by simp)).high (Near.upd (X := [w2.heap.size + 1]) H5.out.2 (by simp)) (by simp)
      have hn6 := (hn5.wider (Y := [w.heap.size]) (by simp)).trans (Near.upd hu6 (by simp))
      rw [HO.out]
      exact ⟨⟨B, fs, fe, dd, hs, rfl, H2.out.1, H2.out.2.1.near hn6 (fun ad e => by have := H2.out.2.2.2.1 ad e; simp; omega), H2.out.2.2.1, fun ad e => by have := H2.out.2.2.2.1 ad e; omega⟩, below_near H2.out.2.2.2.2.2.1 hn6 (by simp) (by have := HW.out; omega)⟩
    · rw [if_neg hpos] at HO
      rw [decide_eq_false hpos]
      clear hpos
      go_wp2_with (first
        | ((with_reducible show wpList _ _ _ ((⟨none, _, _, _, _, _⟩ : Oper) :: _) _ _); refine wpList_store_blk (o := ⟨none, _, _, _, _, _⟩) (HX.out.2.1) (by rfl) _ _ _ (by rfl) (by rfl) (spc fs fe (.slice B hs.length dd)) (by rfl) (sizeSuper) (spc_size _ _ _) (spc_size _ _ _) (spc_one _ _ _ rfl) ?_; intro w4 h4 hu4; have H4 := Lib.hid (And.intro h4 hu4); clear h4 hu4)
        | ((with_reducible show wpList _ _ _ ((⟨none, _, _, _, _, _⟩ : Oper) :: _) _ _); refine wpList_store_blk (o := ⟨none, _, _, _, _, _⟩) ((HX.out.2.2.near (Near.upd (X := [w2.heap.size]) H4.out.2 (by simp)) (by simp))) (by rfl) _ _ _ (by rfl) (by rfl) (((Sp.best d.cpys).2.map u8v).toArray) (by rfl) (sizeRaw) (by rw [raw0_list, List.size_toArray, List.length_map, List.length_replicate]) (by rw [List.size_toArray, List.length_map]; exact H2.out.2.2.2.2.1) (u8_all _) ?_; intro w5 h5 hu5; have H5 := Lib.hid (And.intro (H4.out.1.near (Near.upd (X := [w2.heap.size + 1]) hu5 (by simp)) (by simp)) hu5); clear h5 hu5)
        | ((with_reducible show wpList _ _ _ ((⟨none, _, _, _, _, _⟩ : Oper) :: _) _ _); refine wpList_store_blk (o := ⟨none, _, _, _, _, _⟩) (((HX.out.1.near (Near.upd (X := [w2.heap.size]) H4.out.2 (by simp)) (by have := HW.out; simp; omega)).near (Near.upd (X := [w2.heap.size + 1]) H5.out.2 (by simp)) (by have := HW.out; simp; omega))) (by rfl) _ _ _ (by rfl) (by rfl) (spz) (by rfl) (sizeSuper) (spc_size _ _ _) (spc_size _ _ _) (spc_one _ _ _ rfl) ?_; intro w6 h6 hu6)
        | fail)
      refine bodyPost_ret (results_row_tmp (by rfl) _ _ _ _ _ _ (by rfl) h6 Try.underlying26 (by rfl) sizeSuper) rfl ?_
      have hn5 := (H2.out.2.2.2.2.2.2.high (Near.upd (X := [w2.heap.size]) H4.out.2 (by simp)) (by simp)).high (Near.upd (X := [w2.heap.size + 1]) H5.out.2 (by simp)) (by simp)
      have hn6 := (hn5.wider (Y := [w.heap.size]) (by simp)).trans (Near.upd hu6 (by simp))
      rw [HO.out]
      exact ⟨⟨none, SupPost.no⟩, below_near H2.out.2.2.2.2.2.1 hn6 (by simp) (by have := HW.out; omega)⟩
  · have hr' : (d.rdy f != 0) = true := by simpa using hr
    have HO : Hid (Sp.open_ d f = (d.rdy f, Sp.none_)) := Lib.hid (by unfold Sp.open_; rw [if_pos hr])
    have HX := Lib.hid (And.intro H0.out.1 H0.out.2.1)
    clear H0 hr
    go_wp2_with (first
      | ((with_reducible show wpList _ _ _ ((⟨none, _, _, _, _, _⟩ : Oper) :: _) _ _); refine wpList_store_blk (o := ⟨none, _, _, _, _, _⟩) (HX.out.2) (by rfl) _ _ _ (by rfl) (by rfl) (spz) (by rfl) (sizeSuper) (spc_size _ _ _) (spc_size _ _ _) (spc_one _ _ _ rfl) ?_; intro w4 h4 hu4)
      | fail)
    refine bodyPost_ret (results_row_tmp (by rfl) _ _ _ _ _ _ (by rfl) h4 Try.underlying26 (by rfl) sizeSuper) rfl ?_
    rw [HO.out]
    exact ⟨⟨none, SupPost.no⟩, HX.out.1.upd hu4 (Nat.le_refl _)⟩
end Go.Proofs.Ytmhfehhpfkjloaa

/- A superblock is written for the first time: the program's Format. Conditions: the disk is known; the heads can be read, and are at most 1000. -/
namespace Go.Proofs.Ytmhfehhpfkjloaa
open Go.RowKit
theorem spc_seq (n : Int) (f : HdF) (fe : Bool) (hv : Value) : (spc f fe hv).setIfInBounds 0 (.int .i64 n) = spc (fun i => if i = 0 then n else f i) fe hv := rfl
set_option maxRecDepth 100000 in
set_option maxHeartbeats 2000000 in
theorem spFormat_all (f0 : HdF) (fe : Bool) (A : Option Addr) (n c : Nat) (hs : List (Int × Int)) (w : World) {p : Pl} {gf : Option Nat} {d : Dsk} {f : Option Fus} (hn : n = hs.length) (hlen : hs.length ≤ 1000) (hh : Heads w A hs) (h : DkOk w p gf d f) :
    Calls Try.prog 17 #[.pointer (some ⟨p.gd, 0, none⟩), .agg (spc f0 fe (.slice A n c))] w (DkPost w p gf (Sp.format d f (f0, fe, hs))) := by
  subst hn
  obtain ⟨w0, hw0⟩ : ∃ w0, w0 = w.alloc (.cells (spc f0 fe (.slice A hs.length c)) 26) := ⟨_, rfl⟩
  have hx : Blk w0 w.heap.size 26 (spc f0 fe (.slice A hs.length c)) := hw0 ▸ Blk.new w _ _
  have hn0 : Near [] w w0 := hw0 ▸ Near.below ((Below.refl w.heap.size w).alloc (Nat.le_refl _) _)
  have h1 := h.near hn0
  have hsec := sectors_all h1.dr
  have hN0 : ((d.N : Int) == 0) = false := by have := h.ok.n1; rw [beq_eq_false_iff_ne]; omega
  have H0 := Lib.hid (And.intro hx (And.intro hn0 (And.intro h1 (And.intro hsec (And.intro hh h)))))
  have HLn := Lib.hid hlen
  clear hx hn0 h1 hsec hh h hlen
  unfold spc
  go_enter Try.func17, Try.ntmps17
  go_wp2_with fail
  change Calls _ _ _ (w.alloc (.cells (spc f0 fe (.slice A hs.length c)) 26)) _
  rw [← hw0]
  refine H0.out.2.2.2.1.mono ?_
  rintro e w1 ⟨rfl, hw⟩
  obtain rfl := hw.symm
  clear hw hw0
  have d0 := H0.out.1.at_ 0 (v := .int .i64 (f0 0)) rfl
  have f0' := H0.out.1.frozen 0
  have hx1 := H0.out.1.set_ 0 (.int .i64 1)
  rw [spc_seq] at hx1
  have hn1 : Near [] w (w0.setCell ⟨w.heap.size, 0, none⟩ (.int .i64 1)) := H0.out.2.1.high (Near.upd (X := [w.heap.size]) ((Upd.refl _ _).set 0 _) (by simp)) (by simp)
  obtain ⟨f1, hf1⟩ : ∃ f1, f1 = fun i => if i = 0 then (1 : Int) else f0 i := ⟨_, rfl⟩
  rw [← hf1] at hx1
  have hbk : (spc f0 fe (.slice A hs.length c)).size = 11 := rfl
  have hu1 : Near [w.heap.size] w0 (w0.setCell ⟨w.heap.size, 0, none⟩ (.int .i64 1)) := Near.upd ((Upd.refl _ _).set 0 _) (by simp)
  have H1 := Lib.hid (And.intro hx1 (And.intro hn1 (And.intro (show Sp.seq 1 (f0, fe, hs) = (f1, fe, hs) from by rw [hf1]; rfl) hu1)))
  clear hx1 hn1 hf1 hbk hu1
  have hdk2 := H0.out.2.2.2.2.2.near H1.out.2.1
  have hh2 := H0.out.2.2.2.2.1.near H1.out.2.1 (by simp)
  have hchk := spCheck_any f1 fe A hs.length c hs _ rfl HLn.out hh2
  have H2 := Lib.hid (And.intro hdk2 (And.intro hh2 hchk))
  clear hdk2 hh2 hchk
  go_wp2_with (first
    | ((with_reducible show wpList _ _ _ ((⟨some 11, _, _, _, _, _⟩ : Oper) :: _) _ _); refine wpList_load_blk (o := ⟨some 11, _, _, _, _, _⟩) (H1.out.1) (by rfl) _ _ (by rfl) (by rfl) _ Try.underlying26 (by rfl) (sizeSuper) (by exact spc_size _ _ _) ?_)
    | fail)
  generalize w0.setCell ⟨w.heap.size, 0, none⟩ (.int .i64 1) = w1 at H1 H2 ⊢
  clear d0 f0' H0
  refine H2.out.2.2.mono ?_
  rintro e w2 ⟨rfl, hb2⟩
  have hn2 := Near.below (X := []) hb2
  have hdk2 := H2.out.1.near hn2
  have hrd := spReady_all hdk2.dr hdk2.fr hdk2.ok
  have H3 := Lib.hid (And.intro (H1.out.1.near hn2 (by simp)) (And.intro (H1.out.2.1.trans hn2) (And.intro hdk2 (And.intro hrd (H2.out.2.1.near hn2 (by simp))))))
  have HS := H1.out.2.2.1
  have HF : Hid (Sp.format d f (f0, fe, hs) = if Sp.ok (f1, fe, hs) ≠ true then (2, d, f) else if d.rdy f ≠ 0 then (d.rdy f, d, f) else Sp.lay d f (Sp.bytes (f1, fe, hs)) 0 4) := Lib.hid (by unfold Sp.format; rw [HS])
  clear HS hn2 hdk2 hrd hb2 H2 H1
  by_cases hok : Sp.ok (f1, fe, hs) = true
  case neg =>
    rw [if_pos hok] at HF
    rw [show spCode (f1, fe, hs) = 2 from if_neg hok]
    clear hok
    go_wp2
    go_ret
    rw [HF.out]
    exact ⟨rfl, H3.out.2.2.1, H3.out.2.1.wider (by simp)⟩
  rw [if_neg (by simpa using hok)] at HF
  rw [show spCode (f1, fe, hs) = 0 from if_pos hok]
  have HO := Lib.hid hok
  clear hok
  go_wp2_with fail
  refine H3.out.2.2.2.1.mono ?_
  rintro e w3 ⟨rfl, hw⟩
  obtain rfl := hw.symm
  clear hw
  by_cases hr : d.rdy f = 0
  case neg =>
    rw [if_pos hr] at HF
    have hr' : (d.rdy f != 0) = true := by simpa using hr
    clear hr
    go_wp2
    go_ret
    rw [HF.out]
    exact ⟨rfl, H3.out.2.2.1, H3.out.2.1.wider (by simp)⟩
  rw [if_neg (by simpa using hr)] at HF
  rw [hr]
  have hla := spLaid_any f1 fe A hs.length c hs w2 rfl HO.out H3.out.2.2.2.2
  have H4 := Lib.hid hla
  clear hr hla
  go_wp2_with (first
    | ((with_reducible show wpList _ _ _ ((⟨some 22, _, _, _, _, _⟩ : Oper) :: _) _ _); refine wpList_load_blk (o := ⟨some 22, _, _, _, _, _⟩) (H3.out.1) (by rfl) _ _ (by rfl) (by rfl) _ Try.underlying26 (by rfl) (sizeSuper) (by exact spc_size _ _ _) ?_)
    | fail)
  refine H4.out.mono ?_
  rintro e w4 ⟨rfl, hb4⟩
  have hn4 := Near.below (X := []) hb4
  have hl : (Sp.bytes (f1, fe, hs)).length = 512 := Sp.bytes_length _ (Sp.ok_spec HO.out).2.1
  have hla := lay_all (Sp.bytes (f1, fe, hs)) 0 4 w4 hl (by omega) (by omega) (H3.out.2.2.1.near hn4)
  have H5 := Lib.hid (And.intro hla (H3.out.2.1.trans hn4))
  clear hla hn4 hb4 hl H4 H3
  generalize Sp.lay d f (Sp.bytes (f1, fe, hs)) 0 4 = r at HF H5
  go_wp2_with fail
  refine H5.out.1.mono ?_
  rintro e w5 ⟨rfl, hdk5, hn5⟩
  have H6 := Lib.hid (And.intro hdk5 ((H5.out.2.wider (by simp)).trans hn5))
  clear hdk5 hn5 H5
  go_wp2
  go_ret
  rw [HF.out]
  exact ⟨rfl, H6.out.1, H6.out.2⟩
end Go.Proofs.Ytmhfehhpfkjloaa

/- What a write leaves of a disk's copies. Plain facts. No condition. -/
namespace Go
theorem wr_get {L b : List UInt8} {p : Nat} (h : p + b.length ≤ L.length) (i : Nat) : (wr L p b)[i]? = if p ≤ i ∧ i < p + b.length then b[i - p]? else L[i]? := by
  have hl : (L.take p).length = p := by rw [List.length_take]; omega
  unfold wr
  by_cases h1 : i < p
  · rw [if_neg (by omega), List.getElem?_append_left (by omega), List.getElem?_take, if_pos h1]
  · rw [List.getElem?_append_right (by omega), hl]
    by_cases h2 : i < p + b.length
    · rw [if_pos ⟨by omega, h2⟩, List.getElem?_append_left (by omega)]
    · rw [if_neg (by omega), List.getElem?_append_right (by omega), List.getElem?_drop]
      congr 1; omega
theorem wr_off {L b : List UInt8} {p q n : Nat} (h : p + b.length ≤ L.length) (ha : q + n ≤ p ∨ p + b.length ≤ q) : ((wr L p b).drop q).take n = (L.drop q).take n := by
  apply List.ext_getElem?
  intro i
  rw [List.getElem?_take, List.getElem?_take]
  by_cases hi : i < n
  · rw [if_pos hi, if_pos hi, List.getElem?_drop, List.getElem?_drop, wr_get h, if_neg (by omega)]
  · rw [if_neg hi, if_neg hi]
theorem wr_in {L b : List UInt8} {p q n : Nat} (h : p + b.length ≤ L.length) (ha : p ≤ q) (hb : q + n ≤ p + b.length) : ((wr L p b).drop q).take n = (b.drop (q - p)).take n := by
  apply List.ext_getElem?
  intro i
  rw [List.getElem?_take, List.getElem?_take]
  by_cases hi : i < n
  · rw [if_pos hi, if_pos hi, List.getElem?_drop, List.getElem?_drop, wr_get h, if_pos (by omega)]
    congr 1; omega
  · rw [if_neg hi, if_neg hi]
/-- A write that is done: the disk is not out; its bytes. -/
theorem Dsk.write_done {d : Dsk} {f : Option Fus} {k : Nat} {b : List UInt8} (_hok : d.Ok) (ho : d.isOut f = false) (hb : b.length % 256 = 0) (hb0 : 0 < b.length) (hN : 256 * k + b.length ≤ d.N * 256) (h0 : (d.write f (k : Nat) b).1 = 0) :
    (d.write f (k : Nat) b).2.1.isOut (d.write f (k : Nat) b).2.2 = false ∧ (d.write f (k : Nat) b).2.1.N = d.N ∧ (d.write f (k : Nat) b).2.1.L = wr d.L (256 * k) b := by
  have hd : d.out = false := by unfold Dsk.isOut at ho; cases h : d.out <;> simp [h] at ho ⊢
  have e : d.write f (k : Nat) b = chg d f fun d => d.put k b := by
    unfold Dsk.write
    rw [if_neg (by rw [ho]; simp), if_neg (by omega), if_neg (by omega)]
    rfl
  rw [e] at h0 ⊢
  unfold chg at h0 ⊢
  cases f with
  | none => exact ⟨by unfold Dsk.isOut; simp [Dsk.put, Dsk.tick, hd], rfl, rfl⟩
  | some f =>
    simp only at h0 ⊢
    by_cases hl : f.left = 0
    · rw [if_pos hl] at h0; exact absurd h0 (by simp)
    · rw [if_neg hl]
      have hg : f.gone = false := by unfold Dsk.isOut at ho; simp [hd] at ho; exact ho
      exact ⟨by unfold Dsk.isOut; simp [Dsk.put, Dsk.tick, hd, hg], rfl, rfl⟩
theorem Dsk.flush_done {d : Dsk} {f : Option Fus} (ho : d.isOut f = false) (h0 : (d.flush f).1 = 0) : (d.flush f).2.1.isOut (d.flush f).2.2 = false ∧ (d.flush f).2.1.N = d.N ∧ (d.flush f).2.1.L = d.L := by
  have hd : d.out = false := by unfold Dsk.isOut at ho; cases h : d.out <;> simp [h] at ho ⊢
  have e : d.flush f = chg d f Dsk.safe := by unfold Dsk.flush; rw [if_neg (by rw [ho]; simp)]
  rw [e] at h0 ⊢
  unfold chg at h0 ⊢
  cases f with
  | none => exact ⟨by unfold Dsk.isOut; simp [Dsk.safe, Dsk.tick, hd], rfl, rfl⟩
  | some f =>
    simp only at h0 ⊢
    by_cases hl : f.left = 0
    · rw [if_pos hl] at h0; exact absurd h0 (by simp)
    · rw [if_neg hl]
      have hg : f.gone = false := by unfold Dsk.isOut at ho; simp [hd] at ho; exact ho
      exact ⟨by unfold Dsk.isOut; simp [Dsk.safe, Dsk.tick, hd, hg], rfl, rfl⟩
/-- A copy is written: the others stay. -/
theorem Dsk.write_cpy {d : Dsk} {f : Option Fus} {k : Nat} {b : List UInt8} (hok : d.Ok) (ho : d.isOut f = false) (hN : 8 ≤ d.N) (hk : k < 4) (hb : b.length = 512) (h0 : (d.write f (2 * k : Nat) b).1 = 0) :
    (d.write f (2 * k : Nat) b).2.1.isOut (d.write f (2 * k : Nat) b).2.2 = false ∧ (d.write f (2 * k : Nat) b).2.1.N = d.N ∧ (∀ j, j ≠ k → (d.write f (2 * k : Nat) b).2.1.cpy j = d.cpy j) ∧ (d.write f (2 * k : Nat) b).2.1.cpy k = b := by
  have hl := hok.len
  obtain ⟨h1, h2, h3⟩ := Dsk.write_done hok ho (by omega) (by omega) (k := 2 * k) (by omega) h0
  refine ⟨h1, h2, fun j hj => ?_, ?_⟩
  · unfold Dsk.cpy
    rw [h3, wr_off (by omega) (by omega)]
  · unfold Dsk.cpy
    rw [h3, wr_in (by omega) (by omega) (by omega), show 512 * k - 256 * (2 * k) = 0 by omega, List.drop_zero, ← hb, List.take_length]
end Go

/- A region that draws its order, with calls, by a plan, in the round of a loop over a function. Plain facts over any program. No condition. -/
namespace Go
def Op.noDeferB : Op → Bool
  | .defer _ => false
  | _ => true
section
variable {P : Program} {ops : Array Oper} {md : Region.Mode} {l n : Nat}
theorem calls_round {f : FuncId} {args : Array Value} {w : World} {R : Ending → World → Prop} (h : Calls P f args w R) : CallsIn (Fence.wide.inRound l) n P f args w R := (callsIn_wide.2 h).inRound l
theorem rows_round {row : String} {args : Array Value} {w : World} {R : Value → World → Prop} (h : Rows P row args w R) : RowsIn (Fence.wide.inRound l) n P row args w R := fun c cs _ => by
  obtain ⟨v, w', r, s⟩ := h c cs
  exact ⟨v, w', r, stepsIn_wide.2 s⟩
theorem operIn_round {o : Oper} {a : Act} {w : World} {K K' : Act → World → Prop} {Q : Exit → Act → World → Prop} (hd : o.op.noDeferB = true) (hk : ∀ a w, K a w → K' a w) (h : o.wp P a w K (strict Q)) : o.wpIn (Fence.wide.inRound l) n P a w K' Q := by
  unfold Oper.wp at h
  refine ⟨fun _ _ => trivial, ?_⟩
  rw [Oper.semAt_eq _ _ _ fun c hc => by rw [hc] at hd; cases hd]
  generalize (execOp a.eval o).run P w = r at h
  cases r with
  | ok x w' =>
    cases x <;> first | exact hk _ _ h | exact h.elim | skip
    case enter f args =>
      refine ⟨fun hh => ?_, ?_⟩
      · simp [Fence.wide, Fence.inRound] at hh
      · refine (calls_round h).mono fun e w'' he => ?_
        cases e with
        | returned v => exact hk _ _ he
        | panicked c => exact he
        | outgrown =>
          obtain ⟨_, _, hq⟩ := he
          exact hq.elim
    case row row args =>
      refine ⟨fun hh => ?_, ?_⟩
      · simp [Fence.wide, Fence.inRound] at hh
      · exact RowsIn.mono (rows_round h) fun v w'' he => hk _ _ he
  | halt x w' => cases x <;> first | exact h | exact h.elim
theorem opIn_round {Q : Exit → Act → World → Prop} {i : Nat} {K K' : Act → World → Prop} {a : Act} {w : World} (hd : (ops.all fun o => o.op.noDeferB) = true) (hk : ∀ a w, K a w → K' a w)
    (h : wpOp P ops (strict Q) i K a w) : wpOpIn (Fence.wide.inRound l) n P ops Q i K' a w := by
  unfold wpOp at h
  unfold wpOpIn
  cases ho : ops[i]? with
  | none => rw [ho] at h; exact hk _ _ h
  | some o =>
    rw [ho] at h
    have hdo : o.op.noDeferB = true := by
      have := Array.all_eq_true'.1 hd o (Array.mem_of_getElem? ho)
      simpa using this
    simp only at h ⊢
    split
    · rename_i hw
      rw [if_pos hw] at h
      exact operIn_round hdo hk (h.resolve_right fun hh => by obtain ⟨_, _, hq⟩ := hh.2; exact hq)
    · rename_i hw
      rw [if_neg hw] at h
      exact ⟨fun _ _ => trivial, hk _ _ h⟩
theorem anyIn_round {Q : Exit → Act → World → Prop} (hd : (ops.all fun o => o.op.noDeferB) = true) : ∀ (fuel : Nat) (s : Array Bool) (a : Act) (w : World), wpAny P md ops (strict Q) fuel s a w → wpAnyIn (Fence.wide.inRound l) n P md ops Q fuel s a w
  | 0, _, _, _, h => h
  | fuel + 1, _, _, _, h => ⟨h.1, fun i hi => opIn_round hd (fun a w => anyIn_round hd fuel _ a w) (h.2 i hi)⟩
theorem wpIn_region_treeC {id : Nat} {a : Act} {w : World} {ls : List Oper} {Q : Exit → Act → World → Prop} (C : World → Prop) (Z : List Nat) (t : PlanT) (hm : P.follows .mixedOrders = true)
    (hB : (Region.noSelect ls.toArray && Region.treeB .any ls.toArray Z t true ls.toArray.size (Array.replicate ls.toArray.size false) && Region.treeZ Z t true) = true)
    (hc : (ls.toArray.all fun o => o.op.noDeferB) = true)
    (hC : C w.drew) (h : wpTree P ls.toArray C Z (tidy Q) t a w.drew) : (Code.region id ls.toArray true).wpIn (Fence.wide.inRound l) n P Q a w := by
  simp only [Bool.and_eq_true] at hB
  refine wpIn_mono (wpIn_region_any (Q := tidy Q) hm (anyIn_round hc _ _ _ _ ?_)) (tidy_le Q)
  rw [strict_tidy]
  exact wpAny_of_C _ _ _ _ ((anyC_of_tree hB.1.1 (fun _ _ _ _ _ q => q.elim) t true _ _ a w.drew hB.2 (fun _ => hC) h).1 hB.1.2)
end
end Go

/- Copies are put right: the program's heal. Conditions: the disk is not out, and has eight sectors; the bytes are 512. -/
namespace Go.Proofs.Ytmhfehhpfkjloaa
open Go.RowKit
attribute [local go_sem] Oper.semAt_some
theorem noselRaw' : Try.prog.eqGuardType Try.prog.depth 94 = false := by kernel_rfl
/-- The blocks that heal laid, and the disk. -/
structure HlSt (w : World) (p : Pl) (gf : Option Nat) (b : List UInt8) (wrong : Bool) (d : Dsk) (f : Option Fus) (W : World) : Prop where
  ptr : Blk W w.heap.size 27 #[.pointer (some ⟨p.gd, 0, none⟩)]
  raw : Blk W (w.heap.size + 1) 94 (b.map u8v).toArray
  err : Blk W (w.heap.size + 2) 34 #[.int .i64 0]
  wrg : Blk W (w.heap.size + 3) 4 #[.bool wrong]
  box : Blk W (w.heap.size + 4) 27 #[.pointer (some ⟨p.gd, 0, none⟩)]
  dk : DkOk W p gf d f
  near : Near (p.all gf) w W
theorem DkOk.keptW {W W' : World} {p : Pl} {gf : Option Nat} {d : Dsk} {f : Option Fus} {B : Nat} (h : DkOk W p gf d f) (k : Kept B W W') (hB : p.gm < B) : DkOk W' p gf d f := by
  refine ⟨?_, ?_, h.ok⟩
  · obtain ⟨es, c, ⟨h1, h2, h3⟩, h4⟩ := h.dr
    exact ⟨es, c, ⟨h1.keptW k, h2.keptW k, h3.keptW k hB⟩, h4⟩
  · cases gf with
    | none => obtain e := h.fr.none_; subst e; exact trivial
    | some g =>
      obtain ⟨x, rfl, hx⟩ := h.fr.has
      exact (show FuseB W' g x.left x.gone from Blk.keptW (hx : Blk W g _ _) k)
theorem HlSt.keptW {w W W' : World} {p : Pl} {gf : Option Nat} {b : List UInt8} {wrong : Bool} {d : Dsk} {f : Option Fus} {B : Nat} (h : HlSt w p gf b wrong d f W) (k : Kept B W W') (hB : w.heap.size + 5 ≤ B) (hm : p.gm < w.heap.size) : HlSt w p gf b wrong d f W' :=
  ⟨h.ptr.keptW k, h.raw.keptW k, h.err.keptW k, h.wrg.keptW k, h.box.keptW k, h.dk.keptW k (by omega), h.near.keptW k (by omega)⟩
theorem HlSt.keep {w W W' : World} {p : Pl} {gf : Option Nat} {b : List UInt8} {wrong : Bool} {d : Dsk} {f : Option Fus} (h : HlSt w p gf b wrong d f W) (k : Near [] W W') : HlSt w p gf b wrong d f W' :=
  ⟨h.ptr.near k (by simp), h.raw.near k (by simp), h.err.near k (by simp), h.wrg.near k (by simp), h.box.near k (by simp), h.dk.near k, h.near.trans (k.wider (by simp))⟩
theorem HlSt.set {w W : World} {p : Pl} {gf : Option Nat} {b : List UInt8} {wrong : Bool} {d : Dsk} {f : Option Fus} (h : HlSt w p gf b wrong d f W) (hlt : ∀ x ∈ p.all gf, x < w.heap.size) (u : Bool) : HlSt w p gf b u d f (W.setCell ⟨w.heap.size + 3, 0, none⟩ (.bool u)) := by
  have hu : Upd (w.heap.size + 3) W (W.setCell ⟨w.heap.size + 3, 0, none⟩ (.bool u)) := (Upd.refl _ _).set 0 _
  have hn : Near [w.heap.size + 3] W (W.setCell ⟨w.heap.size + 3, 0, none⟩ (.bool u)) := Near.upd hu (List.mem_singleton_self _)
  have hx : ∀ x ∈ p.all gf, x ∉ [w.heap.size + 3] := fun x hx e => by have := hlt x hx; rw [List.mem_singleton] at e; omega
  refine ⟨h.ptr.near hn (by simp), h.raw.near hn (by simp), h.err.near hn (by simp), (h.wrg.set_ 0 (.bool u)).sub (by simp), h.box.near hn (by simp), ⟨h.dk.dr.near hn ⟨hx _ (by simp [Pl.all]), hx _ (by simp [Pl.all]), hx _ (by simp [Pl.all])⟩, h.dk.fr.near hn (fun g hg => hx g (by simp [Pl.all, hg])), h.dk.ok⟩, h.near.high hn (by simp)⟩
/-- Ahead of round k. -/
def HlAt (w : World) (p : Pl) (gf : Option Nat) (b : List UInt8) (d : Dsk) (f : Option Fus) (k : Nat) (W : World) : Prop :=
  ∃ wrong dk fk, HlSt w p gf b wrong dk fk W ∧ dk.isOut fk = false ∧ 8 ≤ dk.N ∧ (∀ j, k ≤ j → dk.cpy j = d.cpy j) ∧ Sp.heals b ([0, 1, 2, 3].drop k) wrong dk fk = Sp.heals b [0, 1, 2, 3] false d f
/-- Behind an error. -/
def HlNo (w : World) (p : Pl) (gf : Option Nat) (r : Int × Dsk × Option Fus) (c : Code) (W : World) : Prop :=
  c = .ret ∧ Blk W (w.heap.size + 2) 34 #[.int .i64 r.1] ∧ DkOk W p gf r.2.1 r.2.2 ∧ Near (p.all gf) w W
set_option maxRecDepth 100000 in
set_option maxHeartbeats 4000000 in
theorem heal_all (b : List UInt8) (w : World) {p : Pl} {gf : Option Nat} {d : Dsk} {f : Option Fus} (hb : b.length = 512) (h : DkOk w p gf d f) (ho : d.isOut f = false) (hN : 8 ≤ d.N) :
    Calls Try.prog 56 #[.pointer (some ⟨p.gd, 0, none⟩), .agg (b.map u8v).toArray] w (DkPost w p gf (Sp.heals b [0, 1, 2, 3] false d f)) := by
  have hzr := zeroRaw
  have hlt := h.lt
  have hgm := h.dr.lt.2.2
  have H0 := Lib.hid (And.intro h (And.intro ho (And.intro hN (And.intro hb (And.intro hlt hgm)))))
  clear h ho hN hb hlt hgm
  refine callsIn_wide (n := 3).1 ?_
  refine callsIn_of_wp_marks Try.func56 rfl trivial ?_ rfl
  simp only [Try.ntmps56, List.size_toArray, List.length_cons, List.length_nil, Nat.reduceAdd, Nat.reduceSub, Array.replicate_succ, Array.replicate_zero, List.push_toArray, List.append_toArray, List.nil_append, List.cons_append]
  refine wpIn_wide.2 ?_
  go_wp2_with fail
  refine (copies_any p.gd _).mono ?_
  rintro e w' ⟨rfl, rfl⟩
  have hS : HlSt w p gf b false d f (((((w.alloc (.cells #[.pointer (some ⟨p.gd, 0, none⟩)] 27)).alloc (.cells (b.map u8v).toArray 94)).alloc (.cells #[.int .i64 0] 34)).alloc (.cells #[.bool false] 4)).alloc (.cells #[.pointer (some ⟨p.gd, 0, none⟩)] 27)) := by
    have hbl := (((((Below.refl w.heap.size w).alloc (Nat.le_refl _) (.cells #[.pointer (some ⟨p.gd, 0, none⟩)] 27)).alloc (by simp) (.cells (b.map u8v).toArray 94)).alloc (by simp; omega) (.cells #[.int .i64 0] 34)).alloc (by simp; omega) (.cells #[.bool false] 4)).alloc (by simp; omega) (.cells #[.pointer (some ⟨p.gd, 0, none⟩)] 27)
    exact ⟨((((Blk.new w _ _).alloc _).alloc _).alloc _).alloc _, (((Blk.new' _ _ _ (by simp)).alloc _).alloc _).alloc _, ((Blk.new' _ _ _ (by simp)).alloc _).alloc _, (Blk.new' _ _ _ (by simp)).alloc _, Blk.new' _ _ _ (by simp), H0.out.1.near (Near.below hbl), Near.below hbl⟩
  have hz5 : (((((w.alloc (.cells #[.pointer (some ⟨p.gd, 0, none⟩)] 27)).alloc (.cells (b.map u8v).toArray 94)).alloc (.cells #[.int .i64 0] 34)).alloc (.cells #[.bool false] 4)).alloc (.cells #[.pointer (some ⟨p.gd, 0, none⟩)] 27)).heap.size = w.heap.size + 5 := by simp
  have eb : ((((w.alloc (.cells #[.pointer (some ⟨p.gd, 0, none⟩)] 27)).alloc (.cells (b.map u8v).toArray 94)).alloc (.cells #[.int .i64 0] 34)).alloc (.cells #[.bool false] 4)).heap.size = w.heap.size + 4 := by simp
  rw [eb]
  simp only [show w.heap.size + 1 + 1 + 1 = w.heap.size + 3 from rfl, show w.heap.size + 1 + 1 = w.heap.size + 2 from rfl]
  generalize ((((w.alloc (.cells #[.pointer (some ⟨p.gd, 0, none⟩)] 27)).alloc (.cells (b.map u8v).toArray 94)).alloc (.cells #[.int .i64 0] 34)).alloc (.cells #[.bool false] 4)).alloc (.cells #[.pointer (some ⟨p.gd, 0, none⟩)] 27) = w5 at hS hz5 ⊢
  have H5 := Lib.hid (And.intro hS hz5)
  clear hS hz5 eb
  go_wp2_with fail
  refine wpIn_wide (n := 3).1 ?_
  refine wpIn_rangeRow rfl (by omega) (gf := 104) (lb := #[.pointer (some ⟨w.heap.size + 4, 0, none⟩)]) rfl trivial (enters_of Try.func104 (by kernel_rfl) rfl)
    (encC d.cpy) (fun _ => rfl) 4 (fun k W => HlAt w p gf b d f k W) (fun c W => HlNo w p gf (Sp.heals b [0, 1, 2, 3] false d f) c W)
    (fun k W W' h kw => ?hI) (fun c W W' h kw => ?hIx) ⟨false, d, f, H5.out.1, H0.out.2.1, H0.out.2.2.1, fun _ _ => rfl, rfl⟩ ?row ?round ?done ?stop
  case hI =>
    obtain ⟨wr, dk, fk, h1, h2⟩ := h
    exact ⟨wr, dk, fk, h1.keptW kw (by rw [H5.out.2]; exact Nat.le_refl _) H0.out.2.2.2.2.2, h2⟩
  case hIx =>
    obtain ⟨h1, h2, h3, h4⟩ := h
    exact ⟨h1, h2.keptW kw, h3.keptW kw (by have := H5.out.2; have := H0.out.2.2.2.2.2; omega), h4.keptW kw (by have := H5.out.2; omega)⟩
  case row =>
    refine copies_row 2 (by omega) p gf (w.heap.size + 4) d.cpy _ fun k W h => ?_
    obtain ⟨wr, dk, fk, h1, h2, h3, h4, h5⟩ := h
    exact ⟨h1.box, fun _ => ⟨dk, fk, h1.dk.dr, h1.dk.fr, h1.dk.ok, h2, h3, h4 k (Nat.le_refl _)⟩⟩
  case round =>
    intro l k W hl1 hl2 hI hk
    have hcl : (d.cpy k).length = 512 := cpy_len H0.out.1.ok H0.out.2.2.1 hk
    obtain ⟨wr, dk, fk, h1, h2⟩ := hI
    have HI := Lib.hid (And.intro h1 (And.intro h2 hcl))
    clear h1 h2 hcl
    unfold encC
    gi_wp2_with (first
      | ((with_reducible show wpListIn _ _ _ _ _ ((⟨none, _, _, _, _, _⟩ : Oper) :: _) _ _); refine wpListIn_of (by rfl) ?_; refine wpList_store_blk (o := ⟨none, _, _, _, _, _⟩) ((Blk.new W 94 raw0)) (by rfl) _ _ _ (by rfl) (by rfl) (((d.cpy k).map u8v).toArray) (by rfl) (sizeRaw) (arr_size _ _) (by rw [List.size_toArray, List.length_map]; exact HI.out.2.2) (u8_all _) ?_; intro W5 h5 hu5; refine ⟨rfl, ?_⟩)
      | fail)
    refine ⟨((Below.refl _ _).alloc (Nat.le_refl _) _).upd hu5 (Nat.le_refl _), fun W6 hW6 => ?_⟩
    have hn5 := Near.below (X := []) (((Below.refl W.heap.size W).alloc (Nat.le_refl _) (.cells raw0 94)).upd hu5 (Nat.le_refl _))
    have hI6 := (HI.out.1.keep hn5).keptW hW6 (by rw [H5.out.2]; exact Nat.le_refl _) H0.out.2.2.2.2.2
    have h6 : Blk W6 W.heap.size 94 ((d.cpy k).map u8v).toArray := h5.keptW hW6
    have hgt : w.heap.size + 5 ≤ W.heap.size := by have := H5.out.2; omega
    have H6 := Lib.hid (And.intro hI6 (And.intro h6 (And.intro HI.out.2.2 (And.intro hgt HI.out.2.1))))
    clear hI6 h6 hgt h5 hu5 hW6 HI hn5
    generalize W.heap.size = gx at H6 ⊢
    simp only [Act.put]
    have hdrop : [0, 1, 2, 3].drop k = k :: [0, 1, 2, 3].drop (k + 1) := by
      have : k = 0 ∨ k = 1 ∨ k = 2 ∨ k = 3 := by omega
      rcases this with rfl | rfl | rfl | rfl <;> rfl
    have HD := Lib.hid hdrop
    clear hdrop
    by_cases hc : d.cpy k = b
    · have HC := Lib.hid hc
      clear hc
      gi_wp2_with (first
        | ((with_reducible show wpListIn _ _ _ _ _ ((⟨some 13, _, _, _, _, _⟩ : Oper) :: _) _ _); refine wpListIn_of (by rfl) ?_; refine wpList_load_blk (o := ⟨some 13, _, _, _, _, _⟩) (H6.out.2.1) (by rfl) _ _ (by rfl) (by rfl) _ Try.underlying94 (by rfl) (sizeRaw) (by rw [List.size_toArray, List.length_map]; exact H6.out.2.2.1) ?_; refine ⟨rfl, ?_⟩)
        | ((with_reducible show wpListIn _ _ _ _ _ ((⟨some 14, _, _, _, _, _⟩ : Oper) :: _) _ _); refine wpListIn_of (by rfl) ?_; refine wpList_load_blk (o := ⟨some 14, _, _, _, _, _⟩) (H6.out.1.raw) (by rfl) _ _ (by rfl) (by rfl) _ Try.underlying94 (by rfl) (sizeRaw) (by rw [List.size_toArray, List.length_map]; exact H0.out.2.2.2.1) ?_; refine ⟨rfl, ?_⟩)
        | ((with_reducible show wpListIn _ _ _ _ _ ((⟨some 15, _, _, _, _, _⟩ : Oper) :: _) _ _); refine wpListIn_of (by rfl) ?_; refine wpList_eql_bytes (o := ⟨some 15, _, _, _, _, _⟩) (by rfl) _ _ _ _ _ (by rfl) 512 Try.underlying94 Try.underlying5 size1 noselRaw' (d.cpy k) b (by rfl) (by rfl) H6.out.2.2.1 H0.out.2.2.2.1 ?_; refine ⟨rfl, ?_⟩)
        | fail)
      have hek : Sp.heals b (k :: [0, 1, 2, 3].drop (k + 1)) wr dk fk = Sp.heals b ([0, 1, 2, 3].drop (k + 1)) wr dk fk := by
        rw [Sp.heals, if_pos ((H6.out.2.2.2.2.2.2.1 k (Nat.le_refl _)).trans HC.out)]
      refine ⟨KeepsFrom.near (Near.refl [] _) (by simp), wr, dk, fk, H6.out.1, H6.out.2.2.2.2.1, H6.out.2.2.2.2.2.1, fun j hj => H6.out.2.2.2.2.2.2.1 j (by omega), ?_⟩
      rw [← hek, ← HD.out]; exact H6.out.2.2.2.2.2.2.2
    · have hc' : decide (d.cpy k = b) = false := decide_eq_false hc
      have HC := Lib.hid hc
      have d3 := H6.out.1.wrg.at_ 0 (v := .bool wr) rfl
      have f3 := H6.out.1.wrg.frozen 0
      clear hc
      gi_wp2_with (first
        | ((with_reducible show wpListIn _ _ _ _ _ ((⟨some 13, _, _, _, _, _⟩ : Oper) :: _) _ _); refine wpListIn_of (by rfl) ?_; refine wpList_load_blk (o := ⟨some 13, _, _, _, _, _⟩) (H6.out.2.1) (by rfl) _ _ (by rfl) (by rfl) _ Try.underlying94 (by rfl) (sizeRaw) (by rw [List.size_toArray, List.length_map]; exact H6.out.2.2.1) ?_; refine ⟨rfl, ?_⟩)
        | ((with_reducible show wpListIn _ _ _ _ _ ((⟨some 14, _, _, _, _, _⟩ : Oper) :: _) _ _); refine wpListIn_of (by rfl) ?_; refine wpList_load_blk (o := ⟨some 14, _, _, _, _, _⟩) (H6.out.1.raw) (by rfl) _ _ (by rfl) (by rfl) _ Try.underlying94 (by rfl) (sizeRaw) (by rw [List.size_toArray, List.length_map]; exact H0.out.2.2.2.1) ?_; refine ⟨rfl, ?_⟩)
        | ((with_reducible show wpListIn _ _ _ _ _ ((⟨some 15, _, _, _, _, _⟩ : Oper) :: _) _ _); refine wpListIn_of (by rfl) ?_; refine wpList_eql_bytes (o := ⟨some 15, _, _, _, _, _⟩) (by rfl) _ _ _ _ _ (by rfl) 512 Try.underlying94 Try.underlying5 size1 noselRaw' (d.cpy k) b (by rfl) (by rfl) H6.out.2.2.1 H0.out.2.2.2.1 ?_; refine ⟨rfl, ?_⟩)
        | fail)
      have h7 := H6.out.1.set H0.out.2.2.2.2.1 true
      have hn7 : Near [w.heap.size + 3] W6 (W6.setCell ⟨w.heap.size + 3, 0, none⟩ (.bool true)) := Near.upd ((Upd.refl _ _).set 0 _) (List.mem_singleton_self _)
      generalize W6.setCell ⟨w.heap.size + 3, 0, none⟩ (.bool true) = W7 at h7 hn7 ⊢
      have H7 := Lib.hid (And.intro h7 hn7)
      clear h7 hn7 d3 f3 hc'
      have hC0 := (Near.refl (p.all gf) W7).drew
      have hoff : ∀ j, w.heap.size ≤ j → j ∉ p.all gf := fun j hj hx => by have := H0.out.2.2.2.2.1 j hx; omega
      have hW := write_ok' (2 * k : Nat) 512 512 (some ⟨w.heap.size + 1, 0, none⟩) b W7.drew H0.out.2.2.2.1.symm (Blk.bytes (H7.out.1.raw.drew)) (fun ad e => by cases e; exact hoff _ (Nat.le_succ _)) (by rw [H0.out.2.2.2.1]; exact Nat.le_refl _) (by rw [H0.out.2.2.2.1]; omega) (H7.out.1.dk.near (Near.refl [] W7).drew)
      rw [show ((2 * k : Nat) : Int) = (k : Int) * 2 by omega] at hW
      have HW := Lib.hid (And.intro hW hoff)
      clear hW hoff
      have hk4 : k < 65536 := by omega
      refine wpIn_region_treeC (Near (p.all gf) W7) [] (PlanT.takes [1, 2, 3] (PlanT.takes [0] (.opt 4 (PlanT.takes [5] .done) .no))) (by kernel_rfl) (by kernel_rfl) (by kernel_rfl) (hC0) ?_
      refine wpTree_pure _ _ _ (by rfl) (by rfl) ?_
      dsimp only [List.filterMap, List.getElem?_cons_zero, List.getElem?_cons_succ]
      repeat (go_big_quiet_step (fail))
      refine wpQuiet_nil ?_
      refine wpTree_takeL _ _ _ (by rfl) (by rfl) (hC0) ?_
      dsimp only [List.filterMap, List.getElem?_cons_zero, List.getElem?_cons_succ]
      (refine wpQuiet_load_cell (fun w' hw' => (Blk.near H7.out.1.ptr hw' (HW.out.2 _ (Nat.le_refl _))).at_ 0 (v := .pointer (some ⟨p.gd, 0, none⟩)) rfl) (by rfl) _ _ (by rfl) (by rfl) _ Try.underlying27 (by rfl) ?_; simp only [Act.put, List.setIfInBounds_toArray, List.set_cons_zero, List.set_cons_succ])
      refine wpQuiet_nil ?_
      refine wpTree_one _ rfl ?_
      go_wp2_with fail
      refine HW.out.1.mono ?_
      rintro e w8 ⟨rfl, hdk8, hn8⟩
      have hwd := fun h0 => Dsk.write_cpy (k := k) H6.out.1.dk.ok H6.out.2.2.2.2.1 H6.out.2.2.2.2.2.1 hk H0.out.2.2.2.1 h0
      have hhl : Sp.heals b (k :: [0, 1, 2, 3].drop (k + 1)) wr dk fk = if (dk.write fk (2 * k : Nat) b).1 ≠ 0 then dk.write fk (2 * k : Nat) b else Sp.heals b ([0, 1, 2, 3].drop (k + 1)) true (dk.write fk (2 * k : Nat) b).2.1 (dk.write fk (2 * k : Nat) b).2.2 := by
        rw [Sp.heals, if_neg (fun e => HC.out ((H6.out.2.2.2.2.2.2.1 k (Nat.le_refl _)).symm.trans e))]
      rw [← HD.out, H6.out.2.2.2.2.2.2.2] at hhl
      rw [show ((2 * k : Nat) : Int) = (k : Int) * 2 by omega] at hwd hhl
      have h8 : HlSt w p gf b true (dk.write fk ((k : Int) * 2) b).2.1 (dk.write fk ((k : Int) * 2) b).2.2 w8 := by
        have hn := (show Near (p.all gf) W7 w8 from (Near.refl (p.all gf) W7).drew.trans hn8)
        exact ⟨H7.out.1.ptr.near hn (HW.out.2 _ (by omega)), H7.out.1.raw.near hn (HW.out.2 _ (by omega)), H7.out.1.err.near hn (HW.out.2 _ (by omega)), H7.out.1.wrg.near hn (HW.out.2 _ (by omega)), H7.out.1.box.near hn (HW.out.2 _ (by omega)), hdk8, H7.out.1.near.trans hn⟩
      have hC8 : Near (p.all gf) W7 w8 := hC0.trans hn8
      generalize dk.write fk ((k : Int) * 2) b = r at hwd hhl h8 ⊢
      obtain ⟨c0, d2, f2⟩ := r
      have H8 := Lib.hid (And.intro h8 (And.intro hwd hhl))
      have hkf : KeepsFrom w5.heap.size W6 w8 := by
        refine KeepsFrom.near (X := (w.heap.size + 3) :: p.all gf) ((H7.out.2.wider (by simp)).trans (hC8.wider (fun x hx => List.mem_cons_of_mem _ hx))) (fun x hx => ?_)
        rw [H5.out.2]
        rcases List.mem_cons.1 hx with rfl | hx
        · omega
        · have := H0.out.2.2.2.2.1 x hx; omega
      have HK := Lib.hid hkf
      clear hwd hhl h8 hdk8 hn8 hkf
      simp only
      go_wp2_with fail
      refine TreeQ.in_ hC8 ?_
      refine wpTree_pure _ _ _ (by rfl) (by rfl) ?_
      dsimp only [List.filterMap, List.getElem?_cons_zero, List.getElem?_cons_succ]
      repeat (go_big_quiet_step (fail))
      refine wpQuiet_nil ?_
      refine wpTree_done ?_
      clear hC0 hC8
      by_cases he : c0 = 0
      · subst he
        gi_wp2_with fail
        obtain ⟨q1, q2, q3, -⟩ := H8.out.2.1 trivial
        refine ⟨HK.out, true, d2, f2, H8.out.1, q1, ?_, fun j hj => (q3 j (by omega)).trans (H6.out.2.2.2.2.2.2.1 j (by omega)), ?_⟩
        · have hN' : d2.N = dk.N := q2
          rw [hN']; exact H6.out.2.2.2.2.2.1
        · rw [H8.out.2.2]; exact (if_neg (by simp)).symm
      · have he' : (c0 != 0) = true := by simpa using he
        have d2' := H8.out.1.err.at_ 0 (v := .int .i64 0) rfl
        have f2' := H8.out.1.err.frozen 0
        gi_wp2_with fail
        have htot : Sp.heals b [0, 1, 2, 3] false d f = (c0, d2, f2) := by rw [H8.out.2.2]; exact if_pos he
        have hu : Near [w.heap.size + 2] w8 (w8.setCell ⟨w.heap.size + 2, 0, none⟩ (.int .i64 c0)) := Near.upd ((Upd.refl _ _).set 0 _) (List.mem_singleton_self _)
        have hx : ∀ x ∈ p.all gf, x ∉ [w.heap.size + 2] := fun x hx e => by have := H0.out.2.2.2.2.1 x hx; rw [List.mem_singleton] at e; omega
        refine ⟨HK.out.trans (KeepsFrom.near hu (fun x hx => by rw [List.mem_singleton.1 hx, H5.out.2]; omega)), rfl, ?_, ?_, H8.out.1.near.high hu (by simp)⟩
        · rw [htot]; exact (H8.out.1.err.set_ 0 (.int .i64 c0)).sub (by simp)
        · rw [htot]
          exact ⟨H8.out.1.dk.dr.near hu ⟨hx _ (by simp [Pl.all]), hx _ (by simp [Pl.all]), hx _ (by simp [Pl.all])⟩, H8.out.1.dk.fr.near hu (fun g hg => hx g (by simp [Pl.all, hg])), H8.out.1.dk.ok⟩
  case stop =>
    rintro D c W hD ⟨rfl, h1, h2, h3⟩ hK
    have HX := Lib.hid (And.intro h1 (And.intro h2 (And.intro h3 hK)))
    clear h1 h2 h3 hK
    refine wpIn_ret ?_
    simp only [Exit.inBlock, Exit.then]
    refine ⟨by simp, .inl ⟨_, _, rfl, run_takeDeferred HX.out.2.2.2, ?_⟩⟩
    have k1 := mark_kept (B := w.heap.size + 5) (by rw [← H5.out.2]; exact hD) HX.out.2.2.2
    exact ⟨_, results_cell rfl _ _ (w.heap.size + 2) _ _ rfl ((HX.out.1.keptW k1).at_ 0 (v := .int .i64 (Sp.heals b [0, 1, 2, 3] false d f).1) rfl) Try.underlying34 rfl, rfl, HX.out.2.1.keptW k1 (by have := H0.out.2.2.2.2.2; omega), HX.out.2.2.1.keptW k1 (by omega)⟩
  case done =>
    intro D W hD hI hK
    obtain ⟨wr, dk, fk, h1, h2, h3, h4, h5⟩ := hI
    rw [show [0, 1, 2, 3].drop 4 = ([] : List Nat) from rfl, Sp.heals] at h5
    have HX := Lib.hid (And.intro h1 (And.intro hK h5))
    have d3 := h1.wrg.at_ 0 (v := .bool wr) rfl
    have d0 := h1.ptr.at_ 0 (v := .pointer (some ⟨p.gd, 0, none⟩)) rfl
    have d2 := h1.err.at_ 0 (v := .int .i64 0) rfl
    have f2 := h1.err.frozen 0
    clear h1 h2 h3 h4 h5 hK
    have hput : ∀ (W' : World) (c : Int), Near [] W W' → Near [w.heap.size + 2] W' (W'.setCell ⟨w.heap.size + 2, 0, none⟩ (.int .i64 c)) := fun W' c _ => Near.upd ((Upd.refl _ _).set 0 _) (List.mem_singleton_self _)
    cases wr
    · go_wp2_with fail
      have hn := hput W 0 (Near.refl _ _)
      have he := (HX.out.1.err.set_ 0 (.int .i64 0)).at_ 0 (v := .int .i64 0) rfl
      have hx : ∀ x ∈ p.all gf, x ∉ [w.heap.size + 2] := fun x hx e => by have := H0.out.2.2.2.2.1 x hx; rw [List.mem_singleton] at e; omega
      have hdk : DkOk (W.setCell ⟨w.heap.size + 2, 0, none⟩ (.int .i64 0)) p gf dk fk := ⟨HX.out.1.dk.dr.near hn ⟨hx _ (by simp [Pl.all]), hx _ (by simp [Pl.all]), hx _ (by simp [Pl.all])⟩, HX.out.1.dk.fr.near hn (fun g hg => hx g (by simp [Pl.all, hg])), HX.out.1.dk.ok⟩
      have hnn := HX.out.1.near.high hn (by simp)
      have hKD : (W.setCell ⟨w.heap.size + 2, 0, none⟩ (.int .i64 0)).heap[D]? = some (.deferred (some [])) := (hn.block D (Array.getElem?_eq_some_iff.1 HX.out.2.1).1 (by have := H5.out.2; simp; omega)).trans HX.out.2.1
      generalize W.setCell ⟨w.heap.size + 2, 0, none⟩ (.int .i64 0) = W2 at he hdk hnn hKD ⊢
      refine ⟨by simp, .inl ⟨_, _, rfl, run_takeDeferred hKD, ?_⟩⟩
      have k1 := mark_kept (B := w.heap.size + 5) (by rw [← H5.out.2]; exact hD) hKD
      refine ⟨_, results_cell rfl _ _ (w.heap.size + 2) _ _ rfl (k1.cell he) Try.underlying34 rfl, ?_⟩
      have htot := HX.out.2.2
      rw [if_neg (by simp)] at htot
      rw [← htot]
      exact ⟨rfl, hdk.keptW k1 (by have := H0.out.2.2.2.2.2; omega), hnn.keptW k1 (by omega)⟩
    · go_wp2_with fail
      have htot := HX.out.2.2
      rw [if_pos (by simp)] at htot
      have HT := Lib.hid htot
      clear htot d3 d0 d2 f2 hput
      refine (flush_ok' W HX.out.1.dk).mono ?_
      rintro e W2 ⟨rfl, hdk2, hn2⟩
      have hoff : ∀ j, w.heap.size ≤ j → j ∉ p.all gf := fun j hj hx => by have := H0.out.2.2.2.2.1 j hx; omega
      have h2 := HX.out.1.err.near hn2 (hoff _ (by omega))
      have hKD : W2.heap[D]? = some (.deferred (some [])) := (hn2.block D (Array.getElem?_eq_some_iff.1 HX.out.2.1).1 (hoff _ (by have := H5.out.2; omega))).trans HX.out.2.1
      have H2 := Lib.hid (And.intro h2 (And.intro hKD (And.intro hdk2 (HX.out.1.near.trans hn2))))
      have d2 := h2.at_ 0 (v := .int .i64 0) rfl
      have f2 := h2.frozen 0
      clear h2 hKD hdk2 hn2 HX hoff
      generalize hr : dk.flush fk = r at H2 HT ⊢
      clear hr
      go_wp2_with fail
      have hn : Near [w.heap.size + 2] W2 (W2.setCell ⟨w.heap.size + 2, 0, none⟩ (.int .i64 r.1)) := Near.upd ((Upd.refl _ _).set 0 _) (List.mem_singleton_self _)
      have he := (H2.out.1.set_ 0 (.int .i64 r.1)).at_ 0 (v := .int .i64 r.1) rfl
      have hx : ∀ x ∈ p.all gf, x ∉ [w.heap.size + 2] := fun x hx e => by have := H0.out.2.2.2.2.1 x hx; rw [List.mem_singleton] at e; omega
      have hdk : DkOk (W2.setCell ⟨w.heap.size + 2, 0, none⟩ (.int .i64 r.1)) p gf r.2.1 r.2.2 := ⟨H2.out.2.2.1.dr.near hn ⟨hx _ (by simp [Pl.all]), hx _ (by simp [Pl.all]), hx _ (by simp [Pl.all])⟩, H2.out.2.2.1.fr.near hn (fun g hg => hx g (by simp [Pl.all, hg])), H2.out.2.2.1.ok⟩
      have hnn := H2.out.2.2.2.high hn (by simp)
      have hKD : (W2.setCell ⟨w.heap.size + 2, 0, none⟩ (.int .i64 r.1)).heap[D]? = some (.deferred (some [])) := (hn.block D (Array.getElem?_eq_some_iff.1 H2.out.2.1).1 (by have := H5.out.2; simp; omega)).trans H2.out.2.1
      generalize W2.setCell ⟨w.heap.size + 2, 0, none⟩ (.int .i64 r.1) = W3 at he hdk hnn hKD ⊢
      refine ⟨by simp, .inl ⟨_, _, rfl, run_takeDeferred hKD, ?_⟩⟩
      have k1 := mark_kept (B := w.heap.size + 5) (by rw [← H5.out.2]; exact hD) hKD
      refine ⟨_, results_cell rfl _ _ (w.heap.size + 2) _ _ rfl (k1.cell he) Try.underlying34 rfl, ?_⟩
      rw [← HT.out]
      exact ⟨rfl, hdk.keptW k1 (by have := H0.out.2.2.2.2.2; omega), hnn.keptW k1 (by omega)⟩
end Go.Proofs.Ytmhfehhpfkjloaa
