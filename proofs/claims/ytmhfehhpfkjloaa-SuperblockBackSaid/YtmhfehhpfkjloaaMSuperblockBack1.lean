/- A turned byte of a copy; which copy is open where some are turned. Plain facts. No condition. -/
import Derived.Test.YtmhfehhpfkjloaaM616
namespace Go
def flip (b : List UInt8) (i : Nat) (m : UInt8) : List UInt8 := b.set i (b.getD i 0 ^^^ m)
theorem flip_length (b : List UInt8) (i : Nat) (m : UInt8) : (flip b i m).length = b.length := by unfold flip; rw [List.length_set]
theorem flip_at {b : List UInt8} {i : Nat} (m : UInt8) (hi : i < b.length) : (flip b i m).getD i 0 = b.getD i 0 ^^^ m := by
  unfold flip
  rw [List.getD_eq_getElem?_getD, List.getElem?_set_self hi]; rfl
theorem flip_off (b : List UInt8) {i j : Nat} (m : UInt8) (hj : j ≠ i) : (flip b i m).getD j 0 = b.getD j 0 := by
  unfold flip
  rw [List.getD_eq_getElem?_getD, List.getElem?_set_ne (fun e => hj e.symm), List.getD_eq_getElem?_getD]
theorem xor_one_ne (x : UInt8) : x ^^^ 1 ≠ x := by
  intro h
  have h2 : x ^^^ 1 ^^^ x = x ^^^ x := by rw [h]
  rw [UInt8.xor_comm x 1, UInt8.xor_assoc, UInt8.xor_self] at h2
  exact absurd h2 (by decide)
theorem flip_ne {b : List UInt8} {i : Nat} (hi : i < b.length) : flip b i 1 ≠ b := fun e => by
  have h := flip_at (b := b) 1 hi
  rw [e] at h
  exact xor_one_ne _ h.symm
theorem flip_ne_flip {b : List UInt8} {i j : Nat} (hi : i < b.length) (hij : i ≠ j) : flip b i 1 ≠ flip b j 1 := fun e => by
  have h := flip_at (b := b) 1 hi
  rw [e, flip_off b 1 hij] at h
  exact xor_one_ne _ h.symm
theorem Dsk.turn_cpy {d : Dsk} (hok : d.Ok) {s a : Nat} (hs : s < d.N) (ha : a < 256) (m : UInt8) :
    ∃ d', d.turn (s : Nat) (a : Nat) m = (0, d') ∧ d'.Ok ∧ d'.N = d.N ∧ d'.out = d.out ∧ (512 * (s / 2) + 512 ≤ d.N * 256 → d'.cpy (s / 2) = flip (d.cpy (s / 2)) (256 * (s % 2) + a) m) ∧ ∀ j, j ≠ s / 2 → d'.cpy j = d.cpy j := by
  have hl := hok.len
  have e : d.turn (s : Nat) (a : Nat) m = (0, { d with L := d.L.set (s * 256 + a) (d.L.getD (s * 256 + a) 0 ^^^ m) }) := by
    unfold Dsk.turn
    rw [if_neg (by omega)]
    rfl
  refine ⟨_, e, ?_, rfl, rfl, fun hfit => ?_, fun j hj => ?_⟩
  · have := Dsk.turn_ok (s := (s : Nat)) (a := (a : Nat)) (m := m) hok
    rw [e] at this; exact this
  · unfold Dsk.cpy flip
    have hg : ((d.L.drop (512 * (s / 2))).take 512).getD (256 * (s % 2) + a) 0 = d.L.getD (s * 256 + a) 0 := by
      rw [List.getD_eq_getElem?_getD, List.getElem?_take, if_pos (by omega), List.getElem?_drop, List.getD_eq_getElem?_getD]
      congr 2; omega
    apply List.ext_getElem?
    intro i
    rw [hg]
    by_cases hi : i < 512
    · rw [List.getElem?_take, if_pos hi, List.getElem?_drop]
      by_cases hq : i = 256 * (s % 2) + a
      · subst hq
        rw [show 512 * (s / 2) + (256 * (s % 2) + a) = s * 256 + a by omega, List.getElem?_set_self (by omega), List.getElem?_set_self (by rw [List.length_take, List.length_drop]; omega)]
      · rw [List.getElem?_set_ne (by omega), List.getElem?_set_ne (fun e => hq e.symm), List.getElem?_take, if_pos hi, List.getElem?_drop]
    · rw [List.getElem?_eq_none (by rw [List.length_take]; omega), List.getElem?_eq_none (by rw [List.length_set, List.length_take]; omega)]
  · unfold Dsk.cpy
    apply List.ext_getElem?
    intro i
    rw [List.getElem?_take, List.getElem?_take]
    by_cases hi : i < 512
    · rw [if_pos hi, if_pos hi, List.getElem?_drop, List.getElem?_drop, List.getElem?_set_ne (by omega)]
    · rw [if_neg hi, if_neg hi]
end Go
namespace Go.Proofs.Ytmhfehhpfkjloaa
theorem Up8.turn {d : Dsk} (h : Up8 d) {s a : Nat} (hs : s < 8) (ha : a < 256) (m : UInt8) :
    ∃ d', d.turn (s : Nat) (a : Nat) m = (0, d') ∧ Up8 d' ∧ d'.N = d.N ∧ d'.cpy (s / 2) = flip (d.cpy (s / 2)) (256 * (s % 2) + a) m ∧ ∀ j, j ≠ s / 2 → d'.cpy j = d.cpy j := by
  have h8 := h.n8
  obtain ⟨d', e, h1, h2, h3, h4, h5⟩ := Dsk.turn_cpy h.ok (s := s) (a := a) (by omega) ha m
  exact ⟨d', e, ⟨h1, by rw [h3]; exact h.out, by rw [h2]; exact h8⟩, h2, h4 (by omega), h5⟩
theorem Sp.best_of2 {cs : List (List UInt8)} {b : List UInt8} {s : SpT} (h : ∀ x ∈ cs, (Sp.read x).1 = 0 → 2 ≤ cs.count x → x = b) (hb : b ∈ cs) (h2 : 2 ≤ cs.count b) (hr : Sp.read b = (0, s)) (h0 : 0 < s.1 0) : Sp.best cs = (s, b) := by
  have hm := Sp.best_most cs b hb (by rw [hr]) h2
  rw [hr] at hm
  rcases Sp.best_picked cs with e | ⟨x, hx, e, h3, h4, _⟩
  · rw [e] at hm; have hm : s.1 0 ≤ 0 := hm; omega
  · have := h x hx h3 h4
    subst this
    rw [e, hr]
theorem open_of2 {d : Dsk} (hu : Up8 d) {b : List UInt8} {s : SpT} (h : ∀ x ∈ d.cpys, (Sp.read x).1 = 0 → 2 ≤ d.cpys.count x → x = b) (hb : b ∈ d.cpys) (h2 : 2 ≤ d.cpys.count b) (hr : Sp.read b = (0, s)) (h0 : 0 < s.1 0) : Sp.open_ d none = (0, s) := by
  have e := Sp.best_of2 h hb h2 hr h0
  unfold Sp.open_
  rw [hu.rdy, e, if_neg (by simp), if_pos h0]
theorem open_none {d : Dsk} (hu : Up8 d) (h : ∀ x ∈ d.cpys, (Sp.read x).1 = 0 → ¬ 2 ≤ d.cpys.count x) : Sp.open_ d none = (10, Sp.none_) := by
  have e : Sp.best d.cpys = (Sp.none_, zero512) := by
    rcases Sp.best_picked d.cpys with e | ⟨x, hx, e, h3, h4, _⟩
    · exact e
    · exact absurd h4 (h x hx h3)
  unfold Sp.open_
  rw [hu.rdy, e, if_neg (by simp), if_neg (by decide)]
theorem read_zero (b : List UInt8) (h : at4 b 16 = 0) : (Sp.read b).1 ≠ 0 := by
  rcases Sp.read_cases b with (e | e) | ⟨e, _, h2, _⟩
  · rw [e]; decide
  · rw [e]; decide
  · have h3 := (Sp.ok_spec h2).1.1
    have h4 : (Sp.parse b).1 0 = (at4 b 16 : Int) := rfl
    rw [h4, h] at h3
    exact absurd h3 (by decide)
theorem new_cpy {k : Nat} (hk : k < 4) : (Dsk.new 8).cpy k = List.replicate 512 0 := by
  unfold Dsk.cpy Dsk.new
  simp only [List.drop_replicate, List.take_replicate]
  congr 1; omega
theorem open_new : Sp.open_ (Dsk.new 8) none = (10, Sp.none_) := by
  refine open_none Up8.new fun x hx h0 => absurd h0 (read_zero x ?_)
  have hx : x = List.replicate 512 (0 : UInt8) := by
    unfold Dsk.cpys at hx
    rw [new_cpy (by omega), new_cpy (by omega), new_cpy (by omega), new_cpy (by omega)] at hx
    generalize List.replicate 512 (0 : UInt8) = z at hx ⊢
    simpa using hx
  subst hx
  decide +kernel
/-- Two copies are turned. -/
theorem open_two {d : Dsk} (hu : Up8 d) {b : List UInt8} {s : SpT} (hl : b.length = 512) (hr : Sp.read b = (0, s)) (h0 : 0 < s.1 0) (c0 : d.cpy 0 = flip b 20 1) (c1 : d.cpy 1 = flip b 456 1) (c2 : d.cpy 2 = b) (c3 : d.cpy 3 = b) : Sp.open_ d none = (0, s) := by
  have e : d.cpys = [flip b 20 1, flip b 456 1, b, b] := by unfold Dsk.cpys; rw [c0, c1, c2, c3]
  have n1 : flip b 20 1 ≠ b := flip_ne (by omega)
  have n2 : flip b 456 1 ≠ b := flip_ne (by omega)
  have n3 : flip b 20 1 ≠ flip b 456 1 := flip_ne_flip (by omega) (by decide)
  refine open_of2 hu (fun x hx _ hc => ?_) (by rw [e]; simp) ?_ hr h0
  · rw [e] at hx hc
    simp only [List.mem_cons, List.not_mem_nil, or_false] at hx
    rcases hx with rfl | rfl | rfl | rfl
    · rw [List.count_cons_self, List.count_cons_of_ne (fun h => n3 h.symm), List.count_cons_of_ne (fun h => n1 h.symm), List.count_cons_of_ne (fun h => n1 h.symm)] at hc
      simp at hc
    · rw [List.count_cons_of_ne n3, List.count_cons_self, List.count_cons_of_ne (fun h => n2 h.symm), List.count_cons_of_ne (fun h => n2 h.symm)] at hc
      simp at hc
    · rfl
    · rfl
  · rw [e, List.count_cons_of_ne n1, List.count_cons_of_ne n2]; simp
theorem open_three {d : Dsk} (hu : Up8 d) {b : List UInt8} (hl : b.length = 512) (c0 : d.cpy 0 = flip b 20 1) (c1 : d.cpy 1 = flip b 456 1) (c2 : d.cpy 2 = flip b 0 1) (c3 : d.cpy 3 = b) : Sp.open_ d none = (10, Sp.none_) := by
  have e : d.cpys = [flip b 20 1, flip b 456 1, flip b 0 1, b] := by unfold Dsk.cpys; rw [c0, c1, c2, c3]
  have n1 : flip b 20 1 ≠ b := flip_ne (by omega)
  have n2 : flip b 456 1 ≠ b := flip_ne (by omega)
  have n4 : flip b 0 1 ≠ b := flip_ne (by omega)
  have n3 : flip b 20 1 ≠ flip b 456 1 := flip_ne_flip (by omega) (by decide)
  have n5 : flip b 20 1 ≠ flip b 0 1 := flip_ne_flip (by omega) (by decide)
  have n6 : flip b 456 1 ≠ flip b 0 1 := flip_ne_flip (by omega) (by decide)
  refine open_none hu fun x hx _ hc => ?_
  rw [e] at hx hc
  have hnd : [flip b 20 1, flip b 456 1, flip b 0 1, b].Nodup := by
    simp [n1, n2, n3, n4, n5, n6]
  have := List.nodup_iff_count.1 hnd x
  omega
end Go.Proofs.Ytmhfehhpfkjloaa

/- SuperblockKnown's walk. No condition. -/
namespace Go.Proofs.Ytmhfehhpfkjloaa
open Go.RowKit
theorem open_small : Sp.open_ (Dsk.new 7) none = (5, Sp.none_) := by
  unfold Sp.open_
  have h : (Dsk.new 7).rdy none = 5 := by
    unfold Dsk.rdy
    rw [show (Dsk.new 7).isOut none = false from rfl, if_neg (by simp)]
    exact if_pos (show 7 < 8 by omega)
  rw [h, if_pos (by simp)]
def fourF : HdF := fun i => if i = 0 then 1 else if i = 2 then 4 else 0
theorem near_up {w w' : World} (h : Below w.heap.size w w') : Near [] w w' := Near.below h
/-- A turned byte: the disk that Form speaks of. -/
theorem turn_dk {w : World} {p : Pl} {d d' : Dsk} {s a : Nat} {m : UInt8} (h : DkOk w p none d none) (e : d.turn (s : Nat) (a : Nat) m = (0, d')) (hd : d'.Ok) :
    Calls Try.prog 33 #[.pointer (some ⟨p.gd, 0, none⟩), .int .i64 (s : Int), .int .i64 (a : Int), .int .u8 (iu8 m)] w fun e w' => e = .returned (.int .i64 0) ∧ DkOk w' p none d' none ∧ Near (p.all none) w w' := by
  refine (turn_all (s : Nat) (a : Nat) m h.dr h.ok).mono ?_
  rintro e' w' ⟨rfl, h1, h2⟩
  rw [e] at h1
  exact ⟨by rw [e], ⟨h1, trivial, hd⟩, h2.wider (by simp [Pl.all])⟩
set_option maxRecDepth 100000 in
set_option maxHeartbeats 8000000 in
theorem known06_any (w : World) : Calls Try.prog 5 #[] w fun e w' => e = .returned (.bool true) ∧ Below w.heap.size w w' := by
  have hz := zeroSuper
  go_enter Try.func5, Try.ntmps5
  go_wp2_with fail
  refine (new_all 8 (by omega) w).mono ?_
  rintro e w1 ⟨p, rfl, hd, -, hb⟩
  have H1 := Lib.hid (And.intro (show DkOk w1 p none (Dsk.new 8) none from ⟨hd, trivial, Dsk.Ok.new (by omega)⟩) hb)
  clear hd hb
  go_wp2_with fail
  refine (new_all 7 (by omega) w1).mono ?_
  rintro e w2 ⟨q, rfl, hd, -, hb⟩
  have H2 := Lib.hid (And.intro (show DkOk w2 q none (Dsk.new 7) none from ⟨hd, trivial, Dsk.Ok.new (by omega)⟩) (And.intro (H1.out.1.near (Near.below hb)) (H1.out.2.trans (hb.mono H1.out.2.size))))
  clear hd hb H1
  go_wp2_with fail
  refine (awake06_any w2).mono ?_
  rintro e w3 ⟨rfl, hb⟩
  have H3 := Lib.hid (And.intro (H2.out.1.near (Near.below hb)) (And.intro (H2.out.2.1.near (Near.below hb)) (H2.out.2.2.trans (hb.mono H2.out.2.2.size))))
  clear hb H2
  go_wp2_with fail
  refine (spOpen_all w3 H3.out.2.1).mono ?_
  rintro e w4 ⟨⟨B, fs, fe, dd, hs, rfl, -, -, -, -⟩, hb⟩
  have H4 := Lib.hid (And.intro (H3.out.1.near (Near.below hb)) (H3.out.2.2.trans (hb.mono H3.out.2.2.size)))
  rw [show (Sp.open_ (Dsk.new 8) none).1 = 10 by rw [open_new]]
  clear hb H3
  go_wp2_with (first
    | ((with_reducible show wpList _ _ _ ((⟨none, _, _, _, _, _⟩ : Oper) :: _) _ _); refine wpList_store_blk (o := ⟨none, _, _, _, _, _⟩) ((Blk.new w4 26 spz)) (by rfl) _ _ _ (by rfl) (by rfl) (spc fs fe (.slice B hs.length dd)) (by rfl) (sizeSuper) (spc_size _ _ _) (spc_size _ _ _) (spc_one _ _ _ rfl) ?_; intro w5 h5 hu5; have hb5 := ((Below.refl w4.heap.size w4).alloc (Nat.le_refl _) (.cells spz 26)).upd hu5 (Nat.le_refl _); have H5 := Lib.hid (And.intro (H4.out.1.near (Near.below hb5)) (H4.out.2.trans (hb5.mono H4.out.2.size))); clear h5 hu5 hb5)
    | fail)
  clear H4
  refine (spOpen_all w5 H5.out.1).mono ?_
  rintro e w6 ⟨⟨B2, fs2, fe2, dd2, hs2, rfl, -, -, -, -⟩, hb⟩
  have H6 := Lib.hid (H5.out.2.trans (hb.mono H5.out.2.size))
  rw [show (Sp.open_ (Dsk.new 7) none).1 = 5 by rw [open_small]]
  clear hb H5
  go_wp2_with (first
    | ((with_reducible show wpList _ _ _ ((⟨none, _, _, _, _, _⟩ : Oper) :: _) _ _); refine wpList_store_blk (o := ⟨none, _, _, _, _, _⟩) ((Blk.new w6 26 spz)) (by rfl) _ _ _ (by rfl) (by rfl) (spc fs2 fe2 (.slice B2 hs2.length dd2)) (by rfl) (sizeSuper) (spc_size _ _ _) (spc_size _ _ _) (spc_one _ _ _ rfl) ?_; intro w7 h7 hu7; have hb7 := ((Below.refl w6.heap.size w6).alloc (Nat.le_refl _) (.cells spz 26)).upd hu7 (Nat.le_refl _); have H7 := Lib.hid (H6.out.trans (hb7.mono H6.out.size)); clear h7 hu7 hb7)
    | fail)
  clear H6
  refine (first_any w7).mono ?_
  rintro e w8 ⟨rfl, hb⟩
  have H8 := Lib.hid (H7.out.trans (hb.mono H7.out.size))
  clear hb H7
  go_wp2_with fail
  refine (spBytes_any (viewF 1 4) false none 0 0 [] w8 rfl (by simp) (fun h => absurd h (by simp))).mono ?_
  rintro e w9 ⟨(⟨-, g, rfl, -, -⟩ | ⟨h, -⟩), hb⟩
  case inr => exact absurd (show Sp.ok (viewF 1 4, false, []) = true from first_ok) (by rw [h]; simp)
  have H9 := Lib.hid (H8.out.trans (hb.mono H8.out.size))
  clear hb H8
  go_wp2_with fail
  refine (formatted_any w9).mono ?_
  rintro e w10 ⟨p, d, rfl, hf⟩
  have H10 := Lib.hid (And.intro hf (H9.out.trans (hf.below.mono H9.out.size)))
  have HFR := Lib.hid (And.intro hf.fresh H9.out.size)
  clear hf H9
  go_wp2_with fail
  change Calls _ _ #[.agg (spc fourF false (.slice none 0 0))] _ _
  refine (spCheck_any fourF false none 0 0 [] w10 rfl (by simp) (fun h => absurd h (by simp))).mono ?_
  rintro e w11 ⟨rfl, hb⟩
  rw [show spCode (fourF, false, []) = 2 from if_neg (by decide)]
  have H11 := Lib.hid (And.intro (H10.out.1.dk.near (Near.below hb)) (H10.out.2.trans (hb.mono H10.out.2.size)))
  have HU := Lib.hid (And.intro H10.out.1.up H10.out.1.all)
  clear hb H10 h
  go_wp2_with fail
  refine (viewed_any 0 5 w11).mono ?_
  rintro e w12 ⟨rfl, hb⟩
  obtain ⟨d5, e5, u5, n5, a5⟩ := write_form HU.out.1 first_ok (u := 5) viewed_ok HU.out.2 0
  have hwr := spWrite_all (viewF 0 5) false none 0 0 [] w12 rfl (Nat.le_refl _) (by simp) (fun h => absurd h (by simp)) (fun _ ad e => by cases e) (H11.out.1.near (Near.below hb))
  rw [show ((viewF 0 5, false, []) : SpT) = viewedS 0 5 from rfl, e5] at hwr
  have H12 := Lib.hid (And.intro hwr (And.intro u5 (And.intro a5 (H11.out.2.trans (hb.mono H11.out.2.size)))))
  clear hwr u5 n5 a5 hb e5 H11
  have HX : Hid (∀ x ∈ p.all none, w.heap.size ≤ x) := Lib.hid fun x hx => by
    have h := HFR.out
    simp [Pl.all] at hx
    rcases hx with rfl | rfl | rfl <;> omega
  go_wp2_with fail
  refine H12.out.1.mono ?_
  rintro e w13 ⟨⟨B3, f3, fe3, dd3, hs3, rfl, -, -, -, -⟩, hdk, hn⟩
  have H13 := Lib.hid (And.intro hdk (below_near H12.out.2.2.2 hn HX.out H12.out.2.2.2.size))
  clear hdk hn
  obtain ⟨d6, e6, u6, n6, c6, o6⟩ := H12.out.2.1.turn (s := 0) (a := 20) (by omega) (by omega) 1
  have HD6 := Lib.hid (And.intro u6 (And.intro c6 o6))
  have htn := turn_dk H13.out.1 e6 u6.ok
  clear u6 n6 c6 o6 e6
  go_wp2_with fail
  refine htn.mono ?_
  rintro e w14 ⟨rfl, hdk, hn⟩
  have H14 := Lib.hid (And.intro hdk (below_near H13.out.2 hn HX.out H13.out.2.size))
  clear hdk hn htn H13
  obtain ⟨d7, e7, u7, n7, c7, o7⟩ := HD6.out.1.turn (s := 3) (a := 200) (by omega) (by omega) 1
  have HD7 := Lib.hid (And.intro u7 (And.intro c7 o7))
  have htn := turn_dk H14.out.1 e7 u7.ok
  clear u7 n7 c7 o7 e7
  go_wp2_with fail
  refine htn.mono ?_
  rintro e w15 ⟨rfl, hdk, hn⟩
  have H15 := Lib.hid (And.intro hdk (below_near H14.out.2 hn HX.out H14.out.2.size))
  clear hdk hn htn H14
  go_wp2_with fail
  refine (viewed_any 2 5 w15).mono ?_
  rintro e w16 ⟨rfl, hb⟩
  have H16 := Lib.hid (And.intro (H15.out.1.near (Near.below hb)) (H15.out.2.trans (hb.mono H15.out.2.size)))
  clear hb H15
  go_wp2_with fail
  refine (opens_any (viewF 2 5) false none 0 0 [] w16 rfl (fun h => absurd h (by simp)) H16.out.1).mono ?_
  rintro e w17 ⟨rfl, hb⟩
  have hvok : Sp.ok (viewedS (1 + 1) 5) = true := by decide
  have hbl : (Sp.bytes (viewedS (1 + 1) 5)).length = 512 := Sp.bytes_length _ (Sp.ok_spec hvok).2.1
  have hall := H12.out.2.2.1
  have ho := open_two HD7.out.1 hbl (Sp.read_bytes _ hvok).1 (by have := (Sp.read_bytes _ hvok).2.1 0 (by omega); rw [this]; decide)
    (by rw [HD7.out.2.2 0 (by decide)]; have := HD6.out.2.1; rw [hall 0 (by omega)] at this; exact this)
    (by have := HD7.out.2.1; rw [show 3 / 2 = 1 from rfl, HD6.out.2.2 1 (by decide), hall 1 (by omega)] at this; exact this)
    (by rw [HD7.out.2.2 2 (by decide), HD6.out.2.2 2 (by decide), hall 2 (by omega)])
    (by rw [HD7.out.2.2 3 (by decide), HD6.out.2.2 3 (by decide), hall 3 (by omega)])
  have ht : (decide ((Sp.open_ d7 none).1 = 0) && Sp.sameB (Sp.open_ d7 none).2 (viewF 2 5, false, [])) = true := by
    rw [ho]
    simp only [decide_true, Bool.true_and]
    exact Sp.sameB_iff.2 (Sp.read_bytes _ hvok).2
  rw [ht]
  have H17 := Lib.hid (And.intro (H16.out.1.near (Near.below hb)) (H16.out.2.trans (hb.mono H16.out.2.size)))
  obtain ⟨d8, e8, u8, n8, c8, o8⟩ := HD7.out.1.turn (s := 4) (a := 0) (by omega) (by omega) 1
  have ho8 := open_three u8 hbl
    (by rw [o8 0 (by decide), HD7.out.2.2 0 (by decide)]; have := HD6.out.2.1; rw [hall 0 (by omega)] at this; exact this)
    (by rw [o8 1 (by decide)]; have := HD7.out.2.1; rw [show 3 / 2 = 1 from rfl, HD6.out.2.2 1 (by decide), hall 1 (by omega)] at this; exact this)
    (by have := c8; rw [show 4 / 2 = 2 from rfl, HD7.out.2.2 2 (by decide), HD6.out.2.2 2 (by decide), hall 2 (by omega)] at this; exact this)
    (by rw [o8 3 (by decide), HD7.out.2.2 3 (by decide), HD6.out.2.2 3 (by decide), hall 3 (by omega)])
  have htn := turn_dk H17.out.1 e8 u8.ok
  have HO8 := Lib.hid ho8
  clear hb ht ho ho8 u8 n8 c8 o8 e8 hvok hbl hall H16
  go_wp2_with fail
  refine htn.mono ?_
  rintro e w18 ⟨rfl, hdk, hn⟩
  have H18 := Lib.hid (And.intro hdk (below_near H17.out.2 hn HX.out H17.out.2.size))
  clear hdk hn htn H17
  go_wp2_with fail
  refine (spOpen_all w18 H18.out.1).mono ?_
  rintro e w19 ⟨⟨B4, f4, fe4, dd4, hs4, rfl, -, -, -, -⟩, hb⟩
  have H19 := Lib.hid (H18.out.2.trans (hb.mono H18.out.2.size))
  rw [show (Sp.open_ d8 none).1 = 10 by rw [HO8.out]]
  clear hb H18
  go_wp2_with (first
    | ((with_reducible show wpList _ _ _ ((⟨none, _, _, _, _, _⟩ : Oper) :: _) _ _); refine wpList_store_blk (o := ⟨none, _, _, _, _, _⟩) ((Blk.new w19 26 spz)) (by rfl) _ _ _ (by rfl) (by rfl) (spc f4 fe4 (.slice B4 hs4.length dd4)) (by rfl) (sizeSuper) (spc_size _ _ _) (spc_size _ _ _) (spc_one _ _ _ rfl) ?_; intro w20 h20 hu20; have hb20 := ((Below.refl w19.heap.size w19).alloc (Nat.le_refl _) (.cells spz 26)).upd hu20 (Nat.le_refl _); have H20 := Lib.hid (H19.out.trans (hb20.mono H19.out.size)); clear h20 hu20 hb20)
    | fail)
  go_ret
  exact ⟨rfl, H20.out⟩
end Go.Proofs.Ytmhfehhpfkjloaa

/- SuperblockBack's walk. Conditions: the heads and the bytes can be read. -/
namespace Go.Proofs.Ytmhfehhpfkjloaa
open Go.RowKit
theorem read_ok {l : List UInt8} (h : (Sp.read l).1 = 0) : Sp.ok (Sp.read l).2 = true ∧ Sp.bytes (Sp.read l).2 = l ∧ l.length = 512 := by
  rcases Sp.read_cases l with (e | e) | ⟨e, h1, h2, h3⟩
  · rw [e] at h; exact absurd h (by decide)
  · rw [e] at h; exact absurd h (by decide)
  · rw [e]; exact ⟨h2, h3, h1⟩
set_option maxRecDepth 100000 in
set_option maxHeartbeats 8000000 in
theorem back06_any (f : HdF) (fe : Bool) (A B : Option Addr) (n c m cb : Nat) (hs : List (Int × Int)) (l : List UInt8) (w : World) (hn : n = hs.length) (hm : m = l.length) (hcb : l.length ≤ cb) (hcb2 : cb ≤ 9223372036854775807) (hA : Heads w A hs) (hB : Bytes w B l) :
    Calls Try.prog 6 #[.agg (spc f fe (.slice A n c)), .slice B m cb] w fun e w' => e = .returned (.bool true) ∧ Below w.heap.size w w' := by
  have hz := zeroSuper
  obtain ⟨w0, hw0⟩ : ∃ w0, w0 = w.alloc (.cells (spc f fe (.slice A n c)) 26) := ⟨_, rfl⟩
  have hx : Blk w0 w.heap.size 26 (spc f fe (.slice A n c)) := hw0 ▸ Blk.new w _ _
  have hb0 : Below w.heap.size w w0 := hw0 ▸ (Below.refl w.heap.size w).alloc (Nat.le_refl _) _
  have H0 := Lib.hid (And.intro hx (And.intro hb0 (And.intro (hA.below hb0) (Bytes.below hB hb0))))
  have HN := Lib.hid (And.intro hn (And.intro hm (And.intro hcb hcb2)))
  clear hx hb0 hA hB hn hm hcb hcb2
  go_enter Try.func6, Try.ntmps6
  go_wp2_with fail
  rw [← hw0]
  clear hw0
  refine (known06_any w0).mono ?_
  rintro e w1 ⟨rfl, hb⟩
  have H1 := Lib.hid (And.intro (H0.out.1.below hb H0.out.1.lt) (And.intro (H0.out.2.1.trans (hb.mono H0.out.2.1.size)) (And.intro (H0.out.2.2.1.below hb) (Bytes.below H0.out.2.2.2 hb))))
  clear hb H0
  have d10 := H1.out.1.at_ 10 (v := .slice A n c) rfl
  by_cases q1 : 100 < n
  · go_wp2
    go_ret
    exact ⟨rfl, H1.out.2.1⟩
  by_cases q2 : 2000 < m
  · go_wp2
    go_ret
    exact ⟨rfl, H1.out.2.1⟩
  have hby := spBytes_any f fe A n c hs w1 HN.out.1 (by have := HN.out.1; omega) H1.out.2.2.1
  have HBY := Lib.hid hby
  clear hby
  go_wp2_with (first
    | ((with_reducible show wpList _ _ _ ((⟨some 26, _, _, _, _, _⟩ : Oper) :: _) _ _); refine wpList_load_blk (o := ⟨some 26, _, _, _, _, _⟩) (H1.out.1) (by rfl) _ _ (by rfl) (by rfl) _ Try.underlying26 (by rfl) (sizeSuper) (by exact spc_size _ _ _) ?_)
    | fail)
  refine HBY.out.mono ?_
  rintro e w2 ⟨(⟨hok, g, rfl, hg, hbg⟩ | ⟨hno, rfl⟩), hb⟩
  · have H2 := Lib.hid (And.intro (H1.out.1.below hb H1.out.1.lt) (And.intro (H1.out.2.1.trans (hb.mono H1.out.2.1.size)) (And.intro (H1.out.2.2.1.below hb) (And.intro (Bytes.below H1.out.2.2.2 hb) hbg))))
    have hbl : (Sp.bytes (f, fe, hs)).length = 512 := Sp.bytes_length _ (Sp.ok_spec hok).2.1
    have hrd := spRead_any (some ⟨g, 0, none⟩) 512 512 (Sp.bytes (f, fe, hs)) w2 hbl.symm (by omega) (by omega) (by omega) (Blk.bytes hbg)
    have HRD := Lib.hid (And.intro hrd hok)
    clear hb hbg hg hbl hrd hok HBY H1 d10
    go_wp2_with fail
    refine HRD.out.1.mono ?_
    rintro e w3 ⟨f3, fe3, B3, d3, hs3, rfl, hsm, hhd, hle, -, hb⟩
    obtain ⟨h1, h2⟩ := Sp.read_bytes _ HRD.out.2
    rw [h1] at hsm ⊢
    have hsame : Sp.sameB (f3, fe3, hs3) (f, fe, hs) = true := Sp.sameB_iff.2 (hsm.trans h2)
    have hl3 : hs3.length ≤ 1000 := by
      have h3 := (hsm.trans h2).2.2
      have h4 : hs3 = hs := h3
      have := HN.out.1
      rw [h4]; omega
    have H3 := Lib.hid (And.intro (H2.out.1.below hb H2.out.1.lt) (And.intro (H2.out.2.1.trans (hb.mono H2.out.2.1.size)) (And.intro (H2.out.2.2.1.below hb) (And.intro (Bytes.below H2.out.2.2.2.1 hb) (And.intro hhd (And.intro hsame hl3))))))
    clear hb hsm hhd hle h1 h2 hsame hl3 HRD H2
    go_wp2_with (first
      | ((with_reducible show wpList _ _ _ ((⟨none, _, _, _, _, _⟩ : Oper) :: _) _ _); refine wpList_store_blk (o := ⟨none, _, _, _, _, _⟩) ((Blk.new w3 26 spz)) (by rfl) _ _ _ (by rfl) (by rfl) (spc f3 fe3 (.slice B3 hs3.length d3)) (by rfl) (sizeSuper) (spc_size _ _ _) (spc_size _ _ _) (spc_one _ _ _ rfl) ?_; intro w4 h4 hu4; have hb4 := ((Below.refl w3.heap.size w3).alloc (Nat.le_refl _) (.cells spz 26)).upd hu4 (Nat.le_refl _); have H4 := Lib.hid (And.intro h4 (And.intro (H3.out.1.below hb4 H3.out.1.lt) (And.intro (H3.out.2.1.trans (hb4.mono H3.out.2.1.size)) (And.intro (H3.out.2.2.1.below hb4) (And.intro (Bytes.below H3.out.2.2.2.1 hb4) (H3.out.2.2.2.2.1.below hb4)))))); clear h4 hu4 hb4)
      | ((with_reducible show wpList _ _ _ ((⟨some 41, _, _, _, _, _⟩ : Oper) :: _) _ _); refine wpList_want (by rfl) ?_; refine wpList_load_blk (o := ⟨some 41, _, _, _, _, _⟩) (H4.out.1) (by rfl) _ _ (by rfl) (by rfl) _ Try.underlying26 (by rfl) (sizeSuper) (by exact spc_size _ _ _) ?_)
      | ((with_reducible show wpList _ _ _ ((⟨some 42, _, _, _, _, _⟩ : Oper) :: _) _ _); refine wpList_want (by rfl) ?_; refine wpList_load_blk (o := ⟨some 42, _, _, _, _, _⟩) (H4.out.2.1) (by rfl) _ _ (by rfl) (by rfl) _ Try.underlying26 (by rfl) (sizeSuper) (by exact spc_size _ _ _) ?_)
      | fail)
    refine (sameSuper_any f3 f fe3 fe B3 A hs3.length d3 n c hs3 hs w4 rfl HN.out.1 H3.out.2.2.2.2.2.2 H4.out.2.2.2.2.2 H4.out.2.2.2.1).mono ?_
    rintro e w5 ⟨rfl, hb⟩
    rw [H3.out.2.2.2.2.2.1]
    have H5 := Lib.hid (And.intro (H4.out.2.2.1.trans (hb.mono H4.out.2.2.1.size)) (Bytes.below H4.out.2.2.2.2.1 hb))
    clear hb H3 H4
    go_wp2_with fail
    refine (spRead_any B m cb l w5 HN.out.2.1 HN.out.2.2.1 HN.out.2.2.2 (by have := HN.out.2.1; omega) H5.out.2).mono ?_
    rintro e w6 ⟨f6, fe6, B6, d6, hs6, rfl, hsm, hhd, hle, -, hb⟩
    obtain ⟨c6, hc6⟩ : ∃ x, x = (Sp.read l).1 := ⟨_, rfl⟩
    rw [← hc6]
    have H6 := Lib.hid (And.intro (H5.out.1.trans (hb.mono H5.out.1.size)) (And.intro (Bytes.below H5.out.2 hb) (And.intro hsm (And.intro hhd (And.intro hle hc6)))))
    clear hb hsm hhd hle hc6 H5
    by_cases q3 : c6 = 0
    · subst q3
      obtain ⟨k1, k2, k3⟩ := read_ok H6.out.2.2.2.2.2.symm
      have hok6 : Sp.ok (f6, fe6, hs6) = true := by rw [Sp.same_ok H6.out.2.2.1]; exact k1
      have hby6 : Sp.bytes (f6, fe6, hs6) = l := by rw [Sp.same_bytes H6.out.2.2.1]; exact k2
      have HK := Lib.hid (And.intro hok6 (And.intro hby6 k3))
      clear k1 k2 k3 hok6 hby6
      go_wp2_with (first
        | ((with_reducible show wpList _ _ _ ((⟨none, _, _, _, _, _⟩ : Oper) :: _) _ _); refine wpList_store_blk (o := ⟨none, _, _, _, _, _⟩) ((Blk.new w6 26 spz)) (by rfl) _ _ _ (by rfl) (by rfl) (spc f6 fe6 (.slice B6 hs6.length d6)) (by rfl) (sizeSuper) (spc_size _ _ _) (spc_size _ _ _) (spc_one _ _ _ rfl) ?_; intro w7 h7 hu7; have hb7 := ((Below.refl w6.heap.size w6).alloc (Nat.le_refl _) (.cells spz 26)).upd hu7 (Nat.le_refl _); have H7 := Lib.hid (And.intro h7 (And.intro (H6.out.1.trans (hb7.mono H6.out.1.size)) (And.intro (Bytes.below H6.out.2.1 hb7) (H6.out.2.2.2.1.below hb7)))); clear h7 hu7 hb7)
        | ((with_reducible show wpList _ _ _ ((⟨some 56, _, _, _, _, _⟩ : Oper) :: _) _ _); refine wpList_load_blk (o := ⟨some 56, _, _, _, _, _⟩) (H7.out.1) (by rfl) _ _ (by rfl) (by rfl) _ Try.underlying26 (by rfl) (sizeSuper) (by exact spc_size _ _ _) ?_)
        | fail)
      refine (spBytes_any f6 fe6 B6 hs6.length d6 hs6 w7 rfl (by have := (Sp.ok_spec HK.out.1).2.1; have h2 : hs6.length ≤ 32 := this; omega) H7.out.2.2.2).mono ?_
      rintro e w8 ⟨(⟨-, g, rfl, -, hbg⟩ | ⟨h, -⟩), hb⟩
      case inr => rw [HK.out.1] at h; cases h
      rw [HK.out.2.1] at hbg
      have H8 := Lib.hid (And.intro (H7.out.2.1.trans (hb.mono H7.out.2.1.size)) (And.intro (Bytes.below H7.out.2.2.1 hb) hbg))
      clear hb hbg H7
      go_wp2_with fail
      refine (sameBytes_any (some ⟨g, 0, none⟩) B 512 m 512 cb l l HK.out.2.2.symm HN.out.2.1 w8 (Blk.bytes H8.out.2.2) H8.out.2.1).mono ?_
      rintro e w9 ⟨rfl, hw⟩
      obtain rfl := hw.symm
      clear hw
      rw [decide_eq_true rfl]
      go_wp2
      go_ret
      exact ⟨rfl, H8.out.1⟩
    · have q3' : (c6 != 0) = true := by simpa using q3
      go_wp2_with (first
        | ((with_reducible show wpList _ _ _ ((⟨none, _, _, _, _, _⟩ : Oper) :: _) _ _); refine wpList_store_blk (o := ⟨none, _, _, _, _, _⟩) ((Blk.new w6 26 spz)) (by rfl) _ _ _ (by rfl) (by rfl) (spc f6 fe6 (.slice B6 hs6.length d6)) (by rfl) (sizeSuper) (spc_size _ _ _) (spc_size _ _ _) (spc_one _ _ _ rfl) ?_; intro w7 h7 hu7; have hb7 := ((Below.refl w6.heap.size w6).alloc (Nat.le_refl _) (.cells spz 26)).upd hu7 (Nat.le_refl _); have H7 := Lib.hid (H6.out.1.trans (hb7.mono H6.out.1.size)); clear h7 hu7 hb7)
        | fail)
      go_ret
      exact ⟨rfl, H7.out⟩
  · have H2 := Lib.hid (And.intro (H1.out.1.below hb H1.out.1.lt) (And.intro (H1.out.2.1.trans (hb.mono H1.out.2.1.size)) (Bytes.below H1.out.2.2.2 hb)))
    have hrd := spRead_any none 0 0 [] w2 rfl (Nat.le_refl _) (by omega) (by simp) (Reads.nil _ _)
    have HRD := Lib.hid hrd
    clear hb hrd hno HBY H1 d10
    go_wp2_with fail
    refine HRD.out.mono ?_
    rintro e w3 ⟨f3, fe3, B3, d3, hs3, rfl, -, -, -, -, hb⟩
    have H3 := Lib.hid (And.intro (H2.out.2.1.trans (hb.mono H2.out.2.1.size)) (Bytes.below H2.out.2.2 hb))
    clear hb HRD H2
    generalize (Sp.read []).1 = c3
    go_wp2_with (first
      | ((with_reducible show wpList _ _ _ ((⟨none, _, _, _, _, _⟩ : Oper) :: _) _ _); refine wpList_store_blk (o := ⟨none, _, _, _, _, _⟩) ((Blk.new w3 26 spz)) (by rfl) _ _ _ (by rfl) (by rfl) (spc f3 fe3 (.slice B3 hs3.length d3)) (by rfl) (sizeSuper) (spc_size _ _ _) (spc_size _ _ _) (spc_one _ _ _ rfl) ?_; intro w5 h5 hu5; have hb5 := ((Below.refl w3.heap.size w3).alloc (Nat.le_refl _) (.cells spz 26)).upd hu5 (Nat.le_refl _); have H5 := Lib.hid (And.intro (H3.out.1.trans (hb5.mono H3.out.1.size)) (Bytes.below H3.out.2 hb5)); clear h5 hu5 hb5)
      | fail)
    refine (spRead_any B m cb l w5 HN.out.2.1 HN.out.2.2.1 HN.out.2.2.2 (by have := HN.out.2.1; omega) H5.out.2).mono ?_
    rintro e w6 ⟨f6, fe6, B6, d6, hs6, rfl, hsm, hhd, hle, -, hb⟩
    obtain ⟨c6, hc6⟩ : ∃ x, x = (Sp.read l).1 := ⟨_, rfl⟩
    rw [← hc6]
    have H6 := Lib.hid (And.intro (H5.out.1.trans (hb.mono H5.out.1.size)) (And.intro (Bytes.below H5.out.2 hb) (And.intro hsm (And.intro hhd (And.intro hle hc6)))))
    clear hb hsm hhd hle hc6 H5
    by_cases q3 : c6 = 0
    · subst q3
      obtain ⟨k1, k2, k3⟩ := read_ok H6.out.2.2.2.2.2.symm
      have hok6 : Sp.ok (f6, fe6, hs6) = true := by rw [Sp.same_ok H6.out.2.2.1]; exact k1
      have hby6 : Sp.bytes (f6, fe6, hs6) = l := by rw [Sp.same_bytes H6.out.2.2.1]; exact k2
      have HK := Lib.hid (And.intro hok6 (And.intro hby6 k3))
      clear k1 k2 k3 hok6 hby6
      go_wp2_with (first
        | ((with_reducible show wpList _ _ _ ((⟨none, _, _, _, _, _⟩ : Oper) :: _) _ _); refine wpList_store_blk (o := ⟨none, _, _, _, _, _⟩) ((Blk.new w6 26 spz)) (by rfl) _ _ _ (by rfl) (by rfl) (spc f6 fe6 (.slice B6 hs6.length d6)) (by rfl) (sizeSuper) (spc_size _ _ _) (spc_size _ _ _) (spc_one _ _ _ rfl) ?_; intro w7 h7 hu7; have hb7 := ((Below.refl w6.heap.size w6).alloc (Nat.le_refl _) (.cells spz 26)).upd hu7 (Nat.le_refl _); have H7 := Lib.hid (And.intro h7 (And.intro (H6.out.1.trans (hb7.mono H6.out.1.size)) (And.intro (Bytes.below H6.out.2.1 hb7) (H6.out.2.2.2.1.below hb7)))); clear h7 hu7 hb7)
        | ((with_reducible show wpList _ _ _ ((⟨some 56, _, _, _, _, _⟩ : Oper) :: _) _ _); refine wpList_load_blk (o := ⟨some 56, _, _, _, _, _⟩) (H7.out.1) (by rfl) _ _ (by rfl) (by rfl) _ Try.underlying26 (by rfl) (sizeSuper) (by exact spc_size _ _ _) ?_)
        | fail)
      refine (spBytes_any f6 fe6 B6 hs6.length d6 hs6 w7 rfl (by have := (Sp.ok_spec HK.out.1).2.1; have h2 : hs6.length ≤ 32 := this; omega) H7.out.2.2.2).mono ?_
      rintro e w8 ⟨(⟨-, g, rfl, -, hbg⟩ | ⟨h, -⟩), hb⟩
      case inr => rw [HK.out.1] at h; cases h
      rw [HK.out.2.1] at hbg
      have H8 := Lib.hid (And.intro (H7.out.2.1.trans (hb.mono H7.out.2.1.size)) (And.intro (Bytes.below H7.out.2.2.1 hb) hbg))
      clear hb hbg H7
      go_wp2_with fail
      refine (sameBytes_any (some ⟨g, 0, none⟩) B 512 m 512 cb l l HK.out.2.2.symm HN.out.2.1 w8 (Blk.bytes H8.out.2.2) H8.out.2.1).mono ?_
      rintro e w9 ⟨rfl, hw⟩
      obtain rfl := hw.symm
      clear hw
      rw [decide_eq_true rfl]
      go_wp2
      go_ret
      exact ⟨rfl, H8.out.1⟩
    · have q3' : (c6 != 0) = true := by simpa using q3
      go_wp2_with (first
        | ((with_reducible show wpList _ _ _ ((⟨none, _, _, _, _, _⟩ : Oper) :: _) _ _); refine wpList_store_blk (o := ⟨none, _, _, _, _, _⟩) ((Blk.new w6 26 spz)) (by rfl) _ _ _ (by rfl) (by rfl) (spc f6 fe6 (.slice B6 hs6.length d6)) (by rfl) (sizeSuper) (spc_size _ _ _) (spc_size _ _ _) (spc_one _ _ _ rfl) ?_; intro w7 h7 hu7; have hb7 := ((Below.refl w6.heap.size w6).alloc (Nat.le_refl _) (.cells spz 26)).upd hu7 (Nat.le_refl _); have H7 := Lib.hid (H6.out.1.trans (hb7.mono H6.out.1.size)); clear h7 hu7 hb7)
        | fail)
      go_ret
      exact ⟨rfl, H7.out⟩
end Go.Proofs.Ytmhfehhpfkjloaa

/- SuperblockBack: for every input the law answers true and every argument reads as it did. No condition. -/
namespace Go.Proofs.Ytmhfehhpfkjloaa
open Go.ChangeShapes Go.WideShapes Go.ChangeAt Go.RowKit
theorem back06_args (x : spSh.T) (cs : List Value) (R : Option Addr) (rc : Nat) (raw : List UInt8) (hrc : raw.length ≤ rc) (hrc2 : rc ≤ 9223372036854775807) (W : World) (h : Sh.Is W spSh x cs) (hR : Bytes W R raw) :
    Calls Try.prog 6 #[.agg cs.toArray, .slice R raw.length rc] W fun e w' => e = .returned (.bool true) ∧ Below W.heap.size W w' := by
  obtain ⟨f, fe, A, c, hs, rfl, _, _, hh⟩ := spSh_is h
  exact back06_any f fe A R hs.length c raw.length rc hs raw W rfl rfl hrc hrc2 hh hR
set_option maxRecDepth 100000 in
theorem superblockBack_lifted (os : Os) (started : os.Started) (H : Type) (enc : TypeId × Value → H) :
    ReturnsInHanded {} Try.checked os 6 .any (Rows.superblockBackSpec.pre6 enc Try.prog Try.f6 Rows.superblockBackRow.domain false) (Rows.superblockBackSpec.post enc Try.prog Try.f6 false true false false) := by
  refine returnsInHanded_of_change (C := Try.checked) Try.own started (by kernel_rfl) Try.func6
    (ChangeSpec.witness6 (enc := enc) (C := Try.checked) false ⟨#[], #[.agg #[.int .i64 0, .int .i64 0, .int .i64 0, .int .i64 0, .int .i64 0, .int .i64 0, .int .i64 0, .int .i64 0, .int .i64 0, .bool false, .slice none 0 0], .slice none 0 0], []⟩ 8 (by kernel_rfl) (by kernel_rfl) (by kernel_rfl) (by kernel_rfl)) ?_
  intro W base args ds gs before hval0 hW hcnd _
  have hval : ∀ (j : Nat) t v, Try.f6.params[j]? = some t → args[j]? = some v → Value.okWide Try.prog W .any base t v := hval0
  have hW' := hW
  obtain ⟨p, q, hA0, hV, rfl, hfz, hnd⟩ := hW
  have hA : DataW.TrodAll enc Try.prog W 0 (fun _ => true) true Try.f6.params.toList args.toList ds p := hA0
  rw [Try.params6] at hA hval
  obtain ⟨v0, v1, d0, d1, p0, p1, rfl, rfl, rfl, h0, h1⟩ := trodAll_two hA
  obtain ⟨rfl, rfl⟩ := trodVars_none hV
  have h0k := h0
  have h1k := h1
  obtain ⟨x, hx0⟩ := Sh.open_ (P := Try.prog) spSh (by kernel_rfl) h0
  obtain ⟨cs, rfl, hcs⟩ := arg_agg Try.underlying26 rfl (hval 0 26 v0 rfl rfl) hx0
  obtain ⟨raw, hx1⟩ := Sh.open_ (P := Try.prog) (.slice .byte) (by kernel_rfl) h1
  obtain ⟨R, rc, rfl, hrc, hrc2, hR⟩ := arg_bytes Try.underlying43 (hval 1 43 v1 rfl rfl) hx1
  clear hA0 hval0
  simp only [List.append_nil] at hW'
  have hlt : ∀ x ∈ p0 ++ p1, x.block < W.heap.size := fun x hx => by simpa using hW'.lt x hx
  refine (back06_args x cs R rc raw hrc hrc2 W hcs hR).mono fun e W' ⟨he, hw⟩ => ?_
  subst he
  refine ⟨_, rfl, _, _, _, [], p0 ++ p1, [], hW', ?_, ?_, rfl, hw.frame _, fun h => by cases h⟩
  · exact trodAll_mk1 (shut_bool Try.underlying4 true)
  · exact trodAll_mk2 (Below.trod Try.laidOut (by kernel_rfl) (of_decide_eq_true (by kernel_rfl)) h0k hw (fun x hx => hlt x (by simp [hx]))) (Below.trod Try.laidOut (by kernel_rfl) (of_decide_eq_true (by kernel_rfl)) h1k hw (fun x hx => hlt x (by simp [hx])))
theorem superblockBack_holds : Rows.SuperblockBackSaid :=
  OpenClaim.holds_of_wide 6 Try.f6 rfl rfl rfl rfl rfl rfl rfl ⟨rfl, rfl, rfl, rfl, rfl⟩ rfl rfl rfl rfl rfl (by kernel_rfl) Try.func6 (by kernel_rfl)
    (of_decide_eq_true (by kernel_rfl)) (by unfold Func.isWrapper; rw [if_neg (by decide +kernel)]; exact ⟨rfl, rfl⟩)
    (fun os started H enc _ => superblockBack_lifted os started H enc)
end Go.Proofs.Ytmhfehhpfkjloaa
