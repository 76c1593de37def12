/- A turned byte of a copy; which copy is open where some are turned. Plain facts. No condition. -/
import Derived.Test.YtmhfehhpfkjloaaM616
import Derived.Carry
namespace Go
def flip (b : List UInt8) (i : Nat) (m : UInt8) : List UInt8 := b.set i (b.getD i 0 ^^^ m)
theorem flip_length (b : List UInt8) (i : Nat) (m : UInt8) : (flip b i m).length = b.length := by unfold flip; rw [List.length_set]
theorem flip_at {b : List UInt8} {i : Nat} (m : UInt8) (hi : i < b.length) : (flip b i m).getD i 0 = b.getD i 0 ^^^ m := by
  unfold flip
  rw [List.getD_eq_getElem?_getD, List.getElem?_set_self hi]; rfl
theorem flip_off (b : List UInt8) {i j : Nat} (m : UInt8) (hj : j ≠ i) : (flip b i m).getD j 0 = b.getD j 0 := by
  unfold flip
  rw [List.getD_eq_getElem?_getD, List.getElem?_set_ne (fun e => hj e.symm), List.getD_eq_getElem?_getD]
theorem xor_one_ne (x : UInt8) : x ^^^ 1 ≠ x := by
  intro h
  have h2 : x ^^^ 1 ^^^ x = x ^^^ x := by rw [h]
  rw [UInt8.xor_comm x 1, UInt8.xor_assoc, UInt8.xor_self] at h2
  exact absurd h2 (by decide)
theorem flip_ne {b : List UInt8} {i : Nat} (hi : i < b.length) : flip b i 1 ≠ b := fun e => by
  have h := flip_at (b := b) 1 hi
  rw [e] at h
  exact xor_one_ne _ h.symm
theorem flip_ne_flip {b : List UInt8} {i j : Nat} (hi : i < b.length) (hij : i ≠ j) : flip b i 1 ≠ flip b j 1 := fun e => by
  have h := flip_at (b := b) 1 hi
  rw [e, flip_off b 1 hij] at h
  exact xor_one_ne _ h.symm
theorem Dsk.turn_cpy {d : Dsk} (hok : d.Ok) {s a : Nat} (hs : s < d.N) (ha : a < 256) (m : UInt8) :
    ∃ d', d.turn (s : Nat) (a : Nat) m = (0, d') ∧ d'.Ok ∧ d'.N = d.N ∧ d'.out = d.out ∧ (512 * (s / 2) + 512 ≤ d.N * 256 → d'.cpy (s / 2) = flip (d.cpy (s / 2)) (256 * (s % 2) + a) m) ∧ ∀ j, j ≠ s / 2 → d'.cpy j = d.cpy j := by
  have hl := hok.len
  have e : d.turn (s : Nat) (a : Nat) m = (0, { d with L := d.L.set (s * 256 + a) (d.L.getD (s * 256 + a) 0 ^^^ m) }) := by
    unfold Dsk.turn
    rw [if_neg (by omega)]
    rfl
  refine ⟨_, e, ?_, rfl, rfl, fun hfit => ?_, fun j hj => ?_⟩
  · have := Dsk.turn_ok (s := (s : Nat)) (a := (a : Nat)) (m := m) hok
    rw [e] at this; exact this
  · unfold Dsk.cpy flip
    have hg : ((d.L.drop (512 * (s / 2))).take 512).getD (256 * (s % 2) + a) 0 = d.L.getD (s * 256 + a) 0 := by
      rw [List.getD_eq_getElem?_getD, List.getElem?_take, if_pos (by omega), List.getElem?_drop, List.getD_eq_getElem?_getD]
      congr 2; omega
    apply List.ext_getElem?
    intro i
    rw [hg]
    by_cases hi : i < 512
    · rw [List.getElem?_take, if_pos hi, List.getElem?_drop]
      by_cases hq : i = 256 * (s % 2) + a
      · subst hq
        rw [show 512 * (s / 2) + (256 * (s % 2) + a) = s * 256 + a by omega, List.getElem?_set_self (by omega), List.getElem?_set_self (by rw [List.length_take, List.length_drop]; omega)]
      · rw [List.getElem?_set_ne (by omega), List.getElem?_set_ne (fun e => hq e.symm), List.getElem?_take, if_pos hi, List.getElem?_drop]
    · rw [List.getElem?_eq_none (by rw [List.length_take]; omega), List.getElem?_eq_none (by rw [List.length_set, List.length_take]; omega)]
  · unfold Dsk.cpy
    apply List.ext_getElem?
    intro i
    rw [List.getElem?_take, List.getElem?_take]
    by_cases hi : i < 512
    · rw [if_pos hi, if_pos hi, List.getElem?_drop, List.getElem?_drop, List.getElem?_set_ne (by omega)]
    · rw [if_neg hi, if_neg hi]
end Go
namespace Go.Proofs.Ytmhfehhpfkjloaa
theorem Up8.turn {d : Dsk} (h : Up8 d) {s a : Nat} (hs : s < 8) (ha : a < 256) (m : UInt8) :
    ∃ d', d.turn (s : Nat) (a : Nat) m = (0, d') ∧ Up8 d' ∧ d'.N = d.N ∧ d'.cpy (s / 2) = flip (d.cpy (s / 2)) (256 * (s % 2) + a) m ∧ ∀ j, j ≠ s / 2 → d'.cpy j = d.cpy j := by
  have h8 := h.n8
  obtain ⟨d', e, h1, h2, h3, h4, h5⟩ := Dsk.turn_cpy h.ok (s := s) (a := a) (by omega) ha m
  exact ⟨d', e, ⟨h1, by rw [h3]; exact h.out, by rw [h2]; exact h8⟩, h2, h4 (by omega), h5⟩
theorem Sp.best_of2 {cs : List (List UInt8)} {b : List UInt8} {s : SpT} (h : ∀ x ∈ cs, (Sp.read x).1 = 0 → 2 ≤ cs.count x → x = b) (hb : b ∈ cs) (h2 : 2 ≤ cs.count b) (hr : Sp.read b = (0, s)) (h0 : 0 < s.1 0) : Sp.best cs = (s, b) := by
  have hm := Sp.best_most cs b hb (by rw [hr]) h2
  rw [hr] at hm
  rcases Sp.best_picked cs with e | ⟨x, hx, e, h3, h4, _⟩
  · rw [e] at hm; have hm : s.1 0 ≤ 0 := hm; omega
  · have := h x hx h3 h4
    subst this
    rw [e, hr]
theorem open_of2 {d : Dsk} (hu : Up8 d) {b : List UInt8} {s : SpT} (h : ∀ x ∈ d.cpys, (Sp.read x).1 = 0 → 2 ≤ d.cpys.count x → x = b) (hb : b ∈ d.cpys) (h2 : 2 ≤ d.cpys.count b) (hr : Sp.read b = (0, s)) (h0 : 0 < s.1 0) : Sp.open_ d none = (0, s) := by
  have e := Sp.best_of2 h hb h2 hr h0
  unfold Sp.open_
  rw [hu.rdy, e, if_neg (by simp), if_pos h0]
theorem open_none {d : Dsk} (hu : Up8 d) (h : ∀ x ∈ d.cpys, (Sp.read x).1 = 0 → ¬ 2 ≤ d.cpys.count x) : Sp.open_ d none = (10, Sp.none_) := by
  have e : Sp.best d.cpys = (Sp.none_, zero512) := by
    rcases Sp.best_picked d.cpys with e | ⟨x, hx, e, h3, h4, _⟩
    · exact e
    · exact absurd h4 (h x hx h3)
  unfold Sp.open_
  rw [hu.rdy, e, if_neg (by simp), if_neg (by decide)]
theorem read_zero (b : List UInt8) (h : at4 b 16 = 0) : (Sp.read b).1 ≠ 0 := by
  rcases Sp.read_cases b with (e | e) | ⟨e, _, h2, _⟩
  · rw [e]; decide
  · rw [e]; decide
  · have h3 := (Sp.ok_spec h2).1.1
    have h4 : (Sp.parse b).1 0 = (at4 b 16 : Int) := rfl
    rw [h4, h] at h3
    exact absurd h3 (by decide)
theorem new_cpy {k : Nat} (hk : k < 4) : (Dsk.new 8).cpy k = List.replicate 512 0 := by
  unfold Dsk.cpy Dsk.new
  simp only [List.drop_replicate, List.take_replicate]
  congr 1; omega
theorem open_new : Sp.open_ (Dsk.new 8) none = (10, Sp.none_) := by
  refine open_none Up8.new fun x hx h0 => absurd h0 (read_zero x ?_)
  have hx : x = List.replicate 512 (0 : UInt8) := by
    unfold Dsk.cpys at hx
    rw [new_cpy (by omega), new_cpy (by omega), new_cpy (by omega), new_cpy (by omega)] at hx
    generalize List.replicate 512 (0 : UInt8) = z at hx ⊢
    simpa using hx
  subst hx
  decide +kernel
/-- Two copies are turned. -/
theorem open_two {d : Dsk} (hu : Up8 d) {b : List UInt8} {s : SpT} (hl : b.length = 512) (hr : Sp.read b = (0, s)) (h0 : 0 < s.1 0) (c0 : d.cpy 0 = flip b 20 1) (c1 : d.cpy 1 = flip b 456 1) (c2 : d.cpy 2 = b) (c3 : d.cpy 3 = b) : Sp.open_ d none = (0, s) := by
  have e : d.cpys = [flip b 20 1, flip b 456 1, b, b] := by unfold Dsk.cpys; rw [c0, c1, c2, c3]
  have n1 : flip b 20 1 ≠ b := flip_ne (by omega)
  have n2 : flip b 456 1 ≠ b := flip_ne (by omega)
  have n3 : flip b 20 1 ≠ flip b 456 1 := flip_ne_flip (by omega) (by decide)
  refine open_of2 hu (fun x hx _ hc => ?_) (by rw [e]; simp) ?_ hr h0
  · rw [e] at hx hc
    simp only [List.mem_cons, List.not_mem_nil, or_false] at hx
    rcases hx with rfl | rfl | rfl | rfl
    · rw [List.count_cons_self, List.count_cons_of_ne (fun h => n3 h.symm), List.count_cons_of_ne (fun h => n1 h.symm), List.count_cons_of_ne (fun h => n1 h.symm)] at hc
      simp at hc
    · rw [List.count_cons_of_ne n3, List.count_cons_self, List.count_cons_of_ne (fun h => n2 h.symm), List.count_cons_of_ne (fun h => n2 h.symm)] at hc
      simp at hc
    · rfl
    · rfl
  · rw [e, List.count_cons_of_ne n1, List.count_cons_of_ne n2]; simp
theorem open_three {d : Dsk} (hu : Up8 d) {b : List UInt8} (hl : b.length = 512) (c0 : d.cpy 0 = flip b 20 1) (c1 : d.cpy 1 = flip b 456 1) (c2 : d.cpy 2 = flip b 0 1) (c3 : d.cpy 3 = b) : Sp.open_ d none = (10, Sp.none_) := by
  have e : d.cpys = [flip b 20 1, flip b 456 1, flip b 0 1, b] := by unfold Dsk.cpys; rw [c0, c1, c2, c3]
  have n1 : flip b 20 1 ≠ b := flip_ne (by omega)
  have n2 : flip b 456 1 ≠ b := flip_ne (by omega)
  have n4 : flip b 0 1 ≠ b := flip_ne (by omega)
  have n3 : flip b 20 1 ≠ flip b 456 1 := flip_ne_flip (by omega) (by decide)
  have n5 : flip b 20 1 ≠ flip b 0 1 := flip_ne_flip (by omega) (by decide)
  have n6 : flip b 456 1 ≠ flip b 0 1 := flip_ne_flip (by omega) (by decide)
  refine open_none hu fun x hx _ hc => ?_
  rw [e] at hx hc
  have hnd : [flip b 20 1, flip b 456 1, flip b 0 1, b].Nodup := by
    simp [n1, n2, n3, n4, n5, n6]
  have := List.nodup_iff_count.1 hnd x
  omega
end Go.Proofs.Ytmhfehhpfkjloaa

/- SuperblockKnown's walk. No condition. -/
namespace Go.Proofs.Ytmhfehhpfkjloaa
open Go.RowKit
theorem open_small : Sp.open_ (Dsk.new 7) none = (5, Sp.none_) := by
  unfold Sp.open_
  have h : (Dsk.new 7).rdy none = 5 := by
    unfold Dsk.rdy
    rw [show (Dsk.new 7).isOut none = false from rfl, if_neg (by simp)]
    exact if_pos (show 7 < 8 by omega)
  rw [h, if_pos (by simp)]
def fourF : HdF := fun i => if i = 0 then 1 else if i = 2 then 4 else 0
theorem near_up {w w' : World} (h : Below w.heap.size w w') : Near [] w w' := Near.below h
/-- A turned byte: the disk that Form speaks of. -/
theorem turn_dk {w : World} {p : Pl} {d d' : Dsk} {s a : Nat} {m : UInt8} (h : DkOk w p none d none) (e : d.turn (s : Nat) (a : Nat) m = (0, d')) (hd : d'.Ok) :
    Calls Try.prog 33 #[.pointer (some ⟨p.gd, 0, none⟩), .int .i64 (s : Int), .int .i64 (a : Int), .int .u8 (iu8 m)] w fun e w' => e = .returned (.int .i64 0) ∧ DkOk w' p none d' none ∧ Near (p.all none) w w' := by
  refine (turn_all (s : Nat) (a : Nat) m h.dr h.ok).mono ?_
  rintro e' w' ⟨rfl, h1, h2⟩
  rw [e] at h1
  exact ⟨by rw [e], ⟨h1, trivial, hd⟩, h2.wider (by simp [Pl.all])⟩
set_option maxRecDepth 100000 in
set_option maxHeartbeats 8000000 in
theorem known06_any (w : World) : Calls Try.prog 5 #[] w fun e w' => e = .returned (.bool true) ∧ Below w.heap.size w w' := by
  have hz := zeroSuper
  go_enter Try.func5, Try.ntmps5
  go_wp2_with fail
  refine (new_all 8 (by omega) w).mono ?_
  rintro e w1 ⟨p, rfl, hd, -, hb⟩
  have H1 := Lib.hid (And.intro (show DkOk w1 p none (Dsk.new 8) none from ⟨hd, trivial, Dsk.Ok.new (by omega)⟩) hb)
  clear hd hb
  go_wp2_with fail
  refine (new_all 7 (by omega) w1).mono ?_
  rintro e w2 ⟨q, rfl, hd, -, hb⟩
  have H2 := Lib.hid (And.intro (show DkOk w2 q none (Dsk.new 7) none from ⟨hd, trivial, Dsk.Ok.new (by omega)⟩) (And.intro (H1.out.1.near (Near.below hb)) (H1.out.2.trans (hb.mono H1.out.2.size))))
  clear hd hb H1
  go_wp2_with fail
  refine (awake06_any w2).mono ?_
  rintro e w3 ⟨rfl, hb⟩
  have H3 := Lib.hid (And.intro (H2.out.1.near (Near.below hb)) (And.intro (H2.out.2.1.near (Near.below hb)) (H2.out.2.2.trans (hb.mono H2.out.2.2.size))))
  clear hb H2
  go_wp2_with fail
  refine (spOpen_all w3 H3.out.2.1).mono ?_
  rintro e w4 ⟨⟨B, fs, fe, dd, hs, rfl, -, -, -, -⟩, hb⟩
  have H4 := Lib.hid (And.intro (H3.out.1.near (Near.below hb)) (H3.out.2.2.trans (hb.mono H3.out.2.2.size)))
  rw [show (Sp.open_ (Dsk.new 8) none).1 = 10 by rw [open_new]]
  clear hb H3
  go_wp2_with (first
    | ((with_reducible show wpList _ _ _ ((⟨none, _, _, _, _, _⟩ : Oper) :: _) _ _); refine wpList_store_blk (o := ⟨none, _, _, _, _, _⟩) ((Blk.new w4 26 spz)) (by rfl) _ _ _ (by rfl) (by rfl) (spc fs fe (.slice B hs.length dd)) (by rfl) (sizeSuper) (spc_size _ _ _) (spc_size _ _ _) (spc_one _ _ _ rfl) ?_; intro w5 h5 hu5; have hb5 := ((Below.refl w4.heap.size w4).alloc (Nat.le_refl _) (.cells spz 26)).upd hu5 (Nat.le_refl _); have H5 := Lib.hid (And.intro (H4.out.1.near (Near.below hb5)) (H4.out.2.trans (hb5.mono H4.out.2.size))); clear h5 hu5 hb5)
    | fail)
  clear H4
  refine (spOpen_all w5 H5.out.1).mono ?_
  rintro e w6 ⟨⟨B2, fs2, fe2, dd2, hs2, rfl, -, -, -, -⟩, hb⟩
  have H6 := Lib.hid (H5.out.2.trans (hb.mono H5.out.2.size))
  rw [show (Sp.open_ (Dsk.new 7) none).1 = 5 by rw [open_small]]
  clear hb H5
  go_wp2_with (first
    | ((with_reducible show wpList _ _ _ ((⟨none, _, _, _, _, _⟩ : Oper) :: _) _ _); refine wpList_store_blk (o := ⟨none, _, _, _, _, _⟩) ((Blk.new w6 26 spz)) (by rfl) _ _ _ (by rfl) (by rfl) (spc fs2 fe2 (.slice B2 hs2.length dd2)) (by rfl) (sizeSuper) (spc_size _ _ _) (spc_size _ _ _) (spc_one _ _ _ rfl) ?_; intro w7 h7 hu7; have hb7 := ((Below.refl w6.heap.size w6).alloc (Nat.le_refl _) (.cells spz 26)).upd hu7 (Nat.le_refl _); have H7 := Lib.hid (H6.out.trans (hb7.mono H6.out.size)); clear h7 hu7 hb7)
    | fail)
  clear H6
  refine (first_any w7).mono ?_
  rintro e w8 ⟨rfl, hb⟩
  have H8 := Lib.hid (H7.out.trans (hb.mono H7.out.size))
  clear hb H7
  go_wp2_with fail
  refine (spBytes_any (viewF 1 4) false none 0 0 [] w8 rfl (by simp) (fun h => absurd h (by simp))).mono ?_
  rintro e w9 ⟨(⟨-, g, rfl, -, -⟩ | ⟨h, -⟩), hb⟩
  case inr => exact absurd (show Sp.ok (viewF 1 4, false, []) = true from first_ok) (by rw [h]; simp)
  have H9 := Lib.hid (H8.out.trans (hb.mono H8.out.size))
  clear hb H8
  go_wp2_with fail
  refine (formatted_any w9).mono ?_
  rintro e w10 ⟨p, d, rfl, hf⟩
  have H10 := Lib.hid (And.intro hf (H9.out.trans (hf.below.mono H9.out.size)))
  have HFR := Lib.hid (And.intro hf.fresh H9.out.size)
  clear hf H9
  go_wp2_with fail
  change Calls _ _ #[.agg (spc fourF false (.slice none 0 0))] _ _
  refine (spCheck_any fourF false none 0 0 [] w10 rfl (by simp) (fun h => absurd h (by simp))).mono ?_
  rintro e w11 ⟨rfl, hb⟩
  rw [show spCode (fourF, false, []) = 2 from if_neg (by decide)]
  have H11 := Lib.hid (And.intro (H10.out.1.dk.near (Near.below hb)) (H10.out.2.trans (hb.mono H10.out.2.size)))
  have HU := Lib.hid (And.intro H10.out.1.up H10.out.1.all)
  clear hb H10 h
  go_wp2_with fail
  refine (viewed_any 0 5 w11).mono ?_
  rintro e w12 ⟨rfl, hb⟩
  obtain ⟨d5, e5, u5, n5, a5⟩ := write_form HU.out.1 first_ok (u := 5) viewed_ok HU.out.2 0
  have hwr := spWrite_all (viewF 0 5) false none 0 0 [] w12 rfl (Nat.le_refl _) (by simp) (fun h => absurd h (by simp)) (fun _ ad e => by cases e) (H11.out.1.near (Near.below hb))
  rw [show ((viewF 0 5, false, []) : SpT) = viewedS 0 5 from rfl, e5] at hwr
  have H12 := Lib.hid (And.intro hwr (And.intro u5 (And.intro a5 (H11.out.2.trans (hb.mono H11.out.2.size)))))
  clear hwr u5 n5 a5 hb e5 H11
  have HX : Hid (∀ x ∈ p.all none, w.heap.size ≤ x) := Lib.hid fun x hx => by
    have h := HFR.out
    simp [Pl.all] at hx
    rcases hx with rfl | rfl | rfl <;> omega
  go_wp2_with fail
  refine H12.out.1.mono ?_
  rintro e w13 ⟨⟨B3, f3, fe3, dd3, hs3, rfl, -, -, -, -⟩, hdk, hn⟩
  have H13 := Lib.hid (And.intro hdk (below_near H12.out.2.2.2 hn HX.out H12.out.2.2.2.size))
  clear hdk hn
  obtain ⟨d6, e6, u6, n6, c6, o6⟩ := H12.out.2.1.turn (s := 0) (a := 20) (by omega) (by omega) 1
  have HD6 := Lib.hid (And.intro u6 (And.intro c6 o6))
  have htn := turn_dk H13.out.1 e6 u6.ok
  clear u6 n6 c6 o6 e6
  go_wp2_with fail
  refine htn.mono ?_
  rintro e w14 ⟨rfl, hdk, hn⟩
  have H14 := Lib.hid (And.intro hdk (below_near H13.out.2 hn HX.out H13.out.2.size))
  clear hdk hn htn H13
  obtain ⟨d7, e7, u7, n7, c7, o7⟩ := HD6.out.1.turn (s := 3) (a := 200) (by omega) (by omega) 1
  have HD7 := Lib.hid (And.intro u7 (And.intro c7 o7))
  have htn := turn_dk H14.out.1 e7 u7.ok
  clear u7 n7 c7 o7 e7
  go_wp2_with fail
  refine htn.mono ?_
  rintro e w15 ⟨rfl, hdk, hn⟩
  have H15 := Lib.hid (And.intro hdk (below_near H14.out.2 hn HX.out H14.out.2.size))
  clear hdk hn htn H14
  go_wp2_with fail
  refine (viewed_any 2 5 w15).mono ?_
  rintro e w16 ⟨rfl, hb⟩
  have H16 := Lib.hid (And.intro (H15.out.1.near (Near.below hb)) (H15.out.2.trans (hb.mono H15.out.2.size)))
  clear hb H15
  go_wp2_with fail
  refine (opens_any (viewF 2 5) false none 0 0 [] w16 rfl (fun h => absurd h (by simp)) H16.out.1).mono ?_
  rintro e w17 ⟨rfl, hb⟩
  have hvok : Sp.ok (viewedS (1 + 1) 5) = true := by decide
  have hbl : (Sp.bytes (viewedS (1 + 1) 5)).length = 512 := Sp.bytes_length _ (Sp.ok_spec hvok).2.1
  have hall := H12.out.2.2.1
  have ho := open_two HD7.out.1 hbl (Sp.read_bytes _ hvok).1 (by have := (Sp.read_bytes _ hvok).2.1 0 (by omega); rw [this]; decide)
    (by rw [HD7.out.2.2 0 (by decide)]; have := HD6.out.2.1; rw [hall 0 (by omega)] at this; exact this)
    (by have := HD7.out.2.1; rw [show 3 / 2 = 1 from rfl, HD6.out.2.2 1 (by decide), hall 1 (by omega)] at this; exact this)
    (by rw [HD7.out.2.2 2 (by decide), HD6.out.2.2 2 (by decide), hall 2 (by omega)])
    (by rw [HD7.out.2.2 3 (by decide), HD6.out.2.2 3 (by decide), hall 3 (by omega)])
  have ht : (decide ((Sp.open_ d7 none).1 = 0) && Sp.sameB (Sp.open_ d7 none).2 (viewF 2 5, false, [])) = true := by
    rw [ho]
    simp only [decide_true, Bool.true_and]
    exact Sp.sameB_iff.2 (Sp.read_bytes _ hvok).2
  rw [ht]
  have H17 := Lib.hid (And.intro (H16.out.1.near (Near.below hb)) (H16.out.2.trans (hb.mono H16.out.2.size)))
  obtain ⟨d8, e8, u8, n8, c8, o8⟩ := HD7.out.1.turn (s := 4) (a := 0) (by omega) (by omega) 1
  have ho8 := open_three u8 hbl
    (by rw [o8 0 (by decide), HD7.out.2.2 0 (by decide)]; have := HD6.out.2.1; rw [hall 0 (by omega)] at this; exact this)
    (by rw [o8 1 (by decide)]; have := HD7.out.2.1; rw [show 3 / 2 = 1 from rfl, HD6.out.2.2 1 (by decide), hall 1 (by omega)] at this; exact this)
    (by have := c8; rw [show 4 / 2 = 2 from rfl, HD7.out.2.2 2 (by decide), HD6.out.2.2 2 (by decide), hall 2 (by omega)] at this; exact this)
    (by rw [o8 3 (by decide), HD7.out.2.2 3 (by decide), HD6.out.2.2 3 (by decide), hall 3 (by omega)])
  have htn := turn_dk H17.out.1 e8 u8.ok
  have HO8 := Lib.hid ho8
  clear hb ht ho ho8 u8 n8 c8 o8 e8 hvok hbl hall H16
  go_wp2_with fail
  refine htn.mono ?_
  rintro e w18 ⟨rfl, hdk, hn⟩
  have H18 := Lib.hid (And.intro hdk (below_near H17.out.2 hn HX.out H17.out.2.size))
  clear hdk hn htn H17
  go_wp2_with fail
  refine (spOpen_all w18 H18.out.1).mono ?_
  rintro e w19 ⟨⟨B4, f4, fe4, dd4, hs4, rfl, -, -, -, -⟩, hb⟩
  have H19 := Lib.hid (H18.out.2.trans (hb.mono H18.out.2.size))
  rw [show (Sp.open_ d8 none).1 = 10 by rw [HO8.out]]
  clear hb H18
  go_wp2_with (first
    | ((with_reducible show wpList _ _ _ ((⟨none, _, _, _, _, _⟩ : Oper) :: _) _ _); refine wpList_store_blk (o := ⟨none, _, _, _, _, _⟩) ((Blk.new w19 26 spz)) (by rfl) _ _ _ (by rfl) (by rfl) (spc f4 fe4 (.slice B4 hs4.length dd4)) (by rfl) (sizeSuper) (spc_size _ _ _) (spc_size _ _ _) (spc_one _ _ _ rfl) ?_; intro w20 h20 hu20; have hb20 := ((Below.refl w19.heap.size w19).alloc (Nat.le_refl _) (.cells spz 26)).upd hu20 (Nat.le_refl _); have H20 := Lib.hid (H19.out.trans (hb20.mono H19.out.size)); clear h20 hu20 hb20)
    | fail)
  go_ret
  exact ⟨rfl, H20.out⟩
end Go.Proofs.Ytmhfehhpfkjloaa

/- SuperblockBack's walk. Conditions: the heads and the bytes can be read. -/
namespace Go.Proofs.Ytmhfehhpfkjloaa
open Go.RowKit
theorem read_ok {l : List UInt8} (h : (Sp.read l).1 = 0) : Sp.ok (Sp.read l).2 = true ∧ Sp.bytes (Sp.read l).2 = l ∧ l.length = 512 := by
  rcases Sp.read_cases l with (e | e) | ⟨e, h1, h2, h3⟩
  · rw [e] at h; exact absurd h (by decide)
  · rw [e] at h; exact absurd h (by decide)
  · rw [e]; exact ⟨h2, h3, h1⟩
set_option maxRecDepth 100000 in
set_option maxHeartbeats 8000000 in
theorem back06_any (f : HdF) (fe : Bool) (A B : Option Addr) (n c m cb : Nat) (hs : List (Int × Int)) (l : List UInt8) (w : World) (hn : n = hs.length) (hm : m = l.length) (hcb : l.length ≤ cb) (hcb2 : cb ≤ 9223372036854775807) (hA : Heads w A hs) (hB : Bytes w B l) :
    Calls Try.prog 6 #[.agg (spc f fe (.slice A n c)), .slice B m cb] w fun e w' => e = .returned (.bool true) ∧ Below w.heap.size w w' := by
  have hz := zeroSuper
  obtain ⟨w0, hw0⟩ : ∃ w0, w0 = w.alloc (.cells (spc f fe (.slice A n c)) 26) := ⟨_, rfl⟩
  have hx : Blk w0 w.heap.size 26 (spc f fe (.slice A n c)) := hw0 ▸ Blk.new w _ _
  have hb0 : Below w.heap.size w w0 := hw0 ▸ (Below.refl w.heap.size w).alloc (Nat.le_refl _) _
  have H0 := Lib.hid (And.intro hx (And.intro hb0 (And.intro (hA.below hb0) (Bytes.below hB hb0))))
  have HN := Lib.hid (And.intro hn (And.intro hm (And.intro hcb hcb2)))
  clear hx hb0 hA hB hn hm hcb hcb2
  go_enter Try.func6, Try.ntmps6
  go_wp2_with fail
  rw [← hw0]
  clear hw0
  refine (known06_any w0).mono ?_
  rintro e w1 ⟨rfl, hb⟩
  have H1 := Lib.hid (And.intro (H0.out.1.below hb H0.out.1.lt) (And.intro (H0.out.2.1.trans (hb.mono H0.out.2.1.size)) (And.intro (H0.out.2.2.1.below hb) (Bytes.below H0.out.2.2.2 hb))))
  clear hb H0
  have d10 := H1.out.1.at_ 10 (v := .slice A n c) rfl
  by_cases q1 : 100 < n
  · go_wp2
    go_ret
    exact ⟨rfl, H1.out.2.1⟩
  by_cases q2 : 2000 < m
  · go_wp2
    go_ret
    exact ⟨rfl, H1.out.2.1⟩
  have hby := spBytes_any f fe A n c hs w1 HN.out.1 (by have := HN.out.1; omega) H1.out.2.2.1
  have HBY := Lib.hid hby
  clear hby
  go_wp2_with (first
    | ((with_reducible show wpList _ _ _ ((⟨some 26, _, _, _, _, _⟩ : Oper) :: _) _ _); refine wpList_load_blk (o := ⟨some 26, _, _, _, _, _⟩) (H1.out.1) (by rfl) _ _ (by rfl) (by rfl) _ Try.underlying26 (by rfl) (sizeSuper) (by exact spc_size _ _ _) ?_)
    | fail)
  refine HBY.out.mono ?_
  rintro e w2 ⟨(⟨hok, g, rfl, hg, hbg⟩ | ⟨hno, rfl⟩), hb⟩
  · have H2 := Lib.hid (And.intro (H1.out.1.below hb H1.out.1.lt) (And.intro (H1.out.2.1.trans (hb.mono H1.out.2.1.size)) (And.intro (H1.out.2.2.1.below hb) (And.intro (Bytes.below H1.out.2.2.2 hb) hbg))))
    have hbl : (Sp.bytes (f, fe, hs)).length = 512 := Sp.bytes_length _ (Sp.ok_spec hok).2.1
    have hrd := spRead_any (some ⟨g, 0, none⟩) 512 512 (Sp.bytes (f, fe, hs)) w2 hbl.symm (by omega) (by omega) (by omega) (Blk.bytes hbg)
    have HRD := Lib.hid (And.intro hrd hok)
    clear hb hbg hg hbl hrd hok HBY H1 d10
    go_wp2_with fail
    refine HRD.out.1.mono ?_
    rintro e w3 ⟨f3, fe3, B3, d3, hs3, rfl, hsm, hhd, hle, -, hb⟩
    obtain ⟨h1, h2⟩ := Sp.read_bytes _ HRD.out.2
    rw [h1] at hsm ⊢
    have hsame : Sp.sameB (f3, fe3, hs3) (f, fe, hs) = true := Sp.sameB_iff.2 (hsm.trans h2)
    have hl3 : hs3.length ≤ 1000 := by
      have h3 := (hsm.trans h2).2.2
      have h4 : hs3 = hs := h3
      have := HN.out.1
      rw [h4]; omega
    have H3 := Lib.hid (And.intro (H2.out.1.below hb H2.out.1.lt) (And.intro (H2.out.2.1.trans (hb.mono H2.out.2.1.size)) (And.intro (H2.out.2.2.1.below hb) (And.intro (Bytes.below H2.out.2.2.2.1 hb) (And.intro hhd (And.intro hsame hl3))))))
    clear hb hsm hhd hle h1 h2 hsame hl3 HRD H2
    go_wp2_with (first
      | ((with_reducible show wpList _ _ _ ((⟨none, _, _, _, _, _⟩ : Oper) :: _) _ _); refine wpList_store_blk (o := ⟨none, _, _, _, _, _⟩) ((Blk.new w3 26 spz)) (by rfl) _ _ _ (by rfl) (by rfl) (spc f3 fe3 (.slice B3 hs3.length d3)) (by rfl) (sizeSuper) (spc_size _ _ _) (spc_size _ _ _) (spc_one _ _ _ rfl) ?_; intro w4 h4 hu4; have hb4 := ((Below.refl w3.heap.size w3).alloc (Nat.le_refl _) (.cells spz 26)).upd hu4 (Nat.le_refl _); have H4 := Lib.hid (And.intro h4 (And.intro (H3.out.1.below hb4 H3.out.1.lt) (And.intro (H3.out.2.1.trans (hb4.mono H3.out.2.1.size)) (And.intro (H3.out.2.2.1.below hb4) (And.intro (Bytes.below H3.out.2.2.2.1 hb4) (H3.out.2.2.2.2.1.below hb4)))))); clear h4 hu4 hb4)
      | ((with_reducible show wpList _ _ _ ((⟨some 41, _, _, _, _, _⟩ : Oper) :: _) _ _); refine wpList_want (by rfl) ?_; refine wpList_load_blk (o := ⟨some 41, _, _, _, _, _⟩) (H4.out.1) (by rfl) _ _ (by rfl) (by rfl) _ Try.underlying26 (by rfl) (sizeSuper) (by exact spc_size _ _ _) ?_)
      | ((with_reducible show wpList _ _ _ ((⟨some 42, _, _, _, _, _⟩ : Oper) :: _) _ _); refine wpList_want (by rfl) ?_; refine wpList_load_blk (o := ⟨some 42, _, _, _, _, _⟩) (H4.out.2.1) (by rfl) _ _ (by rfl) (by rfl) _ Try.underlying26 (by rfl) (sizeSuper) (by exact spc_size _ _ _) ?_)
      | fail)
    refine (sameSuper_any f3 f fe3 fe B3 A hs3.length d3 n c hs3 hs w4 rfl HN.out.1 H3.out.2.2.2.2.2.2 H4.out.2.2.2.2.2 H4.out.2.2.2.1).mono ?_
    rintro e w5 ⟨rfl, hb⟩
    rw [H3.out.2.2.2.2.2.1]
    have H5 := Lib.hid (And.intro (H4.out.2.2.1.trans (hb.mono H4.out.2.2.1.size)) (Bytes.below H4.out.2.2.2.2.1 hb))
    clear hb H3 H4
    go_wp2_with fail
    refine (spRead_any B m cb l w5 HN.out.2.1 HN.out.2.2.1 HN.out.2.2.2 (by have := HN.out.2.1; omega) H5.out.2).mono ?_
    rintro e w6 ⟨f6, fe6, B6, d6, hs6, rfl, hsm, hhd, hle, -, hb⟩
    obtain ⟨c6, hc6⟩ : ∃ x, x = (Sp.read l).1 := ⟨_, rfl⟩
    rw [← hc6]
    have H6 := Lib.hid (And.intro (H5.out.1.trans (hb.mono H5.out.1.size)) (And.intro (Bytes.below H5.out.2 hb) (And.intro hsm (And.intro hhd (And.intro hle hc6)))))
    clear hb hsm hhd hle hc6 H5
    by_cases q3 : c6 = 0
    · subst q3
      obtain ⟨k1, k2, k3⟩ := read_ok H6.out.2.2.2.2.2.symm
      have hok6 : Sp.ok (f6, fe6, hs6) = true := by rw [Sp.same_ok H6.out.2.2.1]; exact k1
      have hby6 : Sp.bytes (f6, fe6, hs6) = l := by rw [Sp.same_bytes H6.out.2.2.1]; exact k2
      have HK := Lib.hid (And.intro hok6 (And.intro hby6 k3))
      clear k1 k2 k3 hok6 hby6
      go_wp2_with (first
        | ((with_reducible show wpList _ _ _ ((⟨none, _, _, _, _, _⟩ : Oper) :: _) _ _); refine wpList_store_blk (o := ⟨none, _, _, _, _, _⟩) ((Blk.new w6 26 spz)) (by rfl) _ _ _ (by rfl) (by rfl) (spc f6 fe6 (.slice B6 hs6.length d6)) (by rfl) (sizeSuper) (spc_size _ _ _) (spc_size _ _ _) (spc_one _ _ _ rfl) ?_; intro w7 h7 hu7; have hb7 := ((Below.refl w6.heap.size w6).alloc (Nat.le_refl _) (.cells spz 26)).upd hu7 (Nat.le_refl _); have H7 := Lib.hid (And.intro h7 (And.intro (H6.out.1.trans (hb7.mono H6.out.1.size)) (And.intro (Bytes.below H6.out.2.1 hb7) (H6.out.2.2.2.1.below hb7)))); clear h7 hu7 hb7)
        | ((with_reducible show wpList _ _ _ ((⟨some 56, _, _, _, _, _⟩ : Oper) :: _) _ _); refine wpList_load_blk (o := ⟨some 56, _, _, _, _, _⟩) (H7.out.1) (by rfl) _ _ (by rfl) (by rfl) _ Try.underlying26 (by rfl) (sizeSuper) (by exact spc_size _ _ _) ?_)
        | fail)
      refine (spBytes_any f6 fe6 B6 hs6.length d6 hs6 w7 rfl (by have := (Sp.ok_spec HK.out.1).2.1; have h2 : hs6.length ≤ 32 := this; omega) H7.out.2.2.2).mono ?_
      rintro e w8 ⟨(⟨-, g, rfl, -, hbg⟩ | ⟨h, -⟩), hb⟩
      case inr => rw [HK.out.1] at h; cases h
      rw [HK.out.2.1] at hbg
      have H8 := Lib.hid (And.intro (H7.out.2.1.trans (hb.mono H7.out.2.1.size)) (And.intro (Bytes.below H7.out.2.2.1 hb) hbg))
      clear hb hbg H7
      go_wp2_with fail
      refine (sameBytes_any (some ⟨g, 0, none⟩) B 512 m 512 cb l l HK.out.2.2.symm HN.out.2.1 w8 (Blk.bytes H8.out.2.2) H8.out.2.1).mono ?_
      rintro e w9 ⟨rfl, hw⟩
      obtain rfl := hw.symm
      clear hw
      rw [decide_eq_true rfl]
      go_wp2
      go_ret
      exact ⟨rfl, H8.out.1⟩
    · have q3' : (c6 != 0) = true := by simpa using q3
      go_wp2_with (first
        | ((with_reducible show wpList _ _ _ ((⟨none, _, _, _, _, _⟩ : Oper) :: _) _ _); refine wpList_store_blk (o := ⟨none, _, _, _, _, _⟩) ((Blk.new w6 26 spz)) (by rfl) _ _ _ (by rfl) (by rfl) (spc f6 fe6 (.slice B6 hs6.length d6)) (by rfl) (sizeSuper) (spc_size _ _ _) (spc_size _ _ _) (spc_one _ _ _ rfl) ?_; intro w7 h7 hu7; have hb7 := ((Below.refl w6.heap.size w6).alloc (Nat.le_refl _) (.cells spz 26)).upd hu7 (Nat.le_refl _); have H7 := Lib.hid (H6.out.1.trans (hb7.mono H6.out.1.size)); clear h7 hu7 hb7)
        | fail)
      go_ret
      exact ⟨rfl, H7.out⟩
  · have H2 := Lib.hid (And.intro (H1.out.1.below hb H1.out.1.lt) (And.intro (H1.out.2.1.trans (hb.mono H1.out.2.1.size)) (Bytes.below H1.out.2.2.2 hb)))
    have hrd := spRead_any none 0 0 [] w2 rfl (Nat.le_refl _) (by omega) (by simp) (Reads.nil _ _)
    have HRD := Lib.hid hrd
    clear hb hrd hno HBY H1 d10
    go_wp2_with fail
    refine HRD.out.mono ?_
    rintro e w3 ⟨f3, fe3, B3, d3, hs3, rfl, -, -, -, -, hb⟩
    have H3 := Lib.hid (And.intro (H2.out.2.1.trans (hb.mono H2.out.2.1.size)) (Bytes.below H2.out.2.2 hb))
    clear hb HRD H2
    generalize (Sp.read []).1 = c3
    go_wp2_with (first
      | ((with_reducible show wpList _ _ _ ((⟨none, _, _, _, _, _⟩ : Oper) :: _) _ _); refine wpList_store_blk (o := ⟨none, _, _, _, _, _⟩) ((Blk.new w3 26 spz)) (by rfl) _ _ _ (by rfl) (by rfl) (spc f3 fe3 (.slice B3 hs3.length d3)) (by rfl) (sizeSuper) (spc_size _ _ _) (spc_size _ _ _) (spc_one _ _ _ rfl) ?_; intro w5 h5 hu5; have hb5 := ((Below.refl w3.heap.size w3).alloc (Nat.le_refl _) (.cells spz 26)).upd hu5 (Nat.le_refl _); have H5 := Lib.hid (And.intro (H3.out.1.trans (hb5.mono H3.out.1.size)) (Bytes.below H3.out.2 hb5)); clear h5 hu5 hb5)
      | fail)
    refine (spRead_any B m cb l w5 HN.out.2.1 HN.out.2.2.1 HN.out.2.2.2 (by have := HN.out.2.1; omega) H5.out.2).mono ?_
    rintro e w6 ⟨f6, fe6, B6, d6, hs6, rfl, hsm, hhd, hle, -, hb⟩
    obtain ⟨c6, hc6⟩ : ∃ x, x = (Sp.read l).1 := ⟨_, rfl⟩
    rw [← hc6]
    have H6 := Lib.hid (And.intro (H5.out.1.trans (hb.mono H5.out.1.size)) (And.intro (Bytes.below H5.out.2 hb) (And.intro hsm (And.intro hhd (And.intro hle hc6)))))
    clear hb hsm hhd hle hc6 H5
    by_cases q3 : c6 = 0
    · subst q3
      obtain ⟨k1, k2, k3⟩ := read_ok H6.out.2.2.2.2.2.symm
      have hok6 : Sp.ok (f6, fe6, hs6) = true := by rw [Sp.same_ok H6.out.2.2.1]; exact k1
      have hby6 : Sp.bytes (f6, fe6, hs6) = l := by rw [Sp.same_bytes H6.out.2.2.1]; exact k2
      have HK := Lib.hid (And.intro hok6 (And.intro hby6 k3))
      clear k1 k2 k3 hok6 hby6
      go_wp2_with (first
        | ((with_reducible show wpList _ _ _ ((⟨none, _, _, _, _, _⟩ : Oper) :: _) _ _); refine wpList_store_blk (o := ⟨none, _, _, _, _, _⟩) ((Blk.new w6 26 spz)) (by rfl) _ _ _ (by rfl) (by rfl) (spc f6 fe6 (.slice B6 hs6.length d6)) (by rfl) (sizeSuper) (spc_size _ _ _) (spc_size _ _ _) (spc_one _ _ _ rfl) ?_; intro w7 h7 hu7; have hb7 := ((Below.refl w6.heap.size w6).alloc (Nat.le_refl _) (.cells spz 26)).upd hu7 (Nat.le_refl _); have H7 := Lib.hid (And.intro h7 (And.intro (H6.out.1.trans (hb7.mono H6.out.1.size)) (And.intro (Bytes.below H6.out.2.1 hb7) (H6.out.2.2.2.1.below hb7)))); clear h7 hu7 hb7)
        | ((with_reducible show wpList _ _ _ ((⟨some 56, _, _, _, _, _⟩ : Oper) :: _) _ _); refine wpList_load_blk (o := ⟨some 56, _, _, _, _, _⟩) (H7.out.1) (by rfl) _ _ (by rfl) (by rfl) _ Try.underlying26 (by rfl) (sizeSuper) (by exact spc_size _ _ _) ?_)
        | fail)
      refine (spBytes_any f6 fe6 B6 hs6.length d6 hs6 w7 rfl (by have := (Sp.ok_spec HK.out.1).2.1; have h2 : hs6.length ≤ 32 := this; omega) H7.out.2.2.2).mono ?_
      rintro e w8 ⟨(⟨-, g, rfl, -, hbg⟩ | ⟨h, -⟩), hb⟩
      case inr => rw [HK.out.1] at h; cases h
      rw [HK.out.2.1] at hbg
      have H8 := Lib.hid (And.intro (H7.out.2.1.trans (hb.mono H7.out.2.1.size)) (And.intro (Bytes.below H7.out.2.2.1 hb) hbg))
      clear hb hbg H7
      go_wp2_with fail
      refine (sameBytes_any (some ⟨g, 0, none⟩) B 512 m 512 cb l l HK.out.2.2.symm HN.out.2.1 w8 (Blk.bytes H8.out.2.2) H8.out.2.1).mono ?_
      rintro e w9 ⟨rfl, hw⟩
      obtain rfl := hw.symm
      clear hw
      rw [decide_eq_true rfl]
      go_wp2
      go_ret
      exact ⟨rfl, H8.out.1⟩
    · have q3' : (c6 != 0) = true := by simpa using q3
      go_wp2_with (first
        | ((with_reducible show wpList _ _ _ ((⟨none, _, _, _, _, _⟩ : Oper) :: _) _ _); refine wpList_store_blk (o := ⟨none, _, _, _, _, _⟩) ((Blk.new w6 26 spz)) (by rfl) _ _ _ (by rfl) (by rfl) (spc f6 fe6 (.slice B6 hs6.length d6)) (by rfl) (sizeSuper) (spc_size _ _ _) (spc_size _ _ _) (spc_one _ _ _ rfl) ?_; intro w7 h7 hu7; have hb7 := ((Below.refl w6.heap.size w6).alloc (Nat.le_refl _) (.cells spz 26)).upd hu7 (Nat.le_refl _); have H7 := Lib.hid (H6.out.1.trans (hb7.mono H6.out.1.size)); clear h7 hu7 hb7)
        | fail)
      go_ret
      exact ⟨rfl, H7.out⟩
end Go.Proofs.Ytmhfehhpfkjloaa

/- SuperblockTurned's walk. Conditions: the heads and the turns can be read. -/
namespace Go.Proofs.Ytmhfehhpfkjloaa
open Go.RowKit
abbrev Turn6T := Int × Int × UInt8
/-- Turns can be read. -/
def Turns6 (w : World) (A : Option Addr) (ts : List Turn6T) : Prop := 0 < ts.length → ∃ b off, A = some ⟨b, off, none⟩ ∧ ∀ i, (h : i < ts.length) → w.cell? ⟨b, off + i * 3, none⟩ = some (.int .i64 ts[i].1) ∧ w.cell? ⟨b, off + i * 3 + 1, none⟩ = some (.int .i64 ts[i].2.1) ∧ w.cell? ⟨b, off + i * 3 + 2, none⟩ = some (.int .u8 (iu8 ts[i].2.2))
theorem Turns6.below {w w' : World} {A : Option Addr} {ts : List Turn6T} {B : Nat} (h : Turns6 w A ts) (k : Below B w w') (hB : ∀ ad, A = some ad → 0 < ts.length → ad.block < B) : Turns6 w' A ts := fun hp => by
  obtain ⟨b, off, e, hc⟩ := h hp
  have hlt := hB _ e hp
  exact ⟨b, off, e, fun i hi => ⟨(k.cell (p := ⟨b, off + i * 3, none⟩) hlt).trans (hc i hi).1, (k.cell (p := ⟨b, off + i * 3 + 1, none⟩) hlt).trans (hc i hi).2.1, (k.cell (p := ⟨b, off + i * 3 + 2, none⟩) hlt).trans (hc i hi).2.2⟩⟩
theorem Turns6.lt {w : World} {A : Option Addr} {ts : List Turn6T} (h : Turns6 w A ts) : ∀ ad, A = some ad → 0 < ts.length → ad.block < w.heap.size := fun ad e hp => by
  obtain ⟨b, off, e', hc⟩ := h hp
  rw [e] at e'
  injection e' with e'
  subst e'
  exact World.block_lt_of_cell? w _ (hc 0 hp).1
theorem Turns6.up {w w' : World} {A : Option Addr} {ts : List Turn6T} (h : Turns6 w A ts) (k : Below w.heap.size w w') : Turns6 w' A ts := h.below k h.lt
/-- But for two copies all are as they were written. -/
def But2 (d : Dsk) (c1 c2 : Nat) (NB : List UInt8) : Prop := ∀ k, k < 4 → k ≠ c1 → k ≠ c2 → d.cpy k = NB
theorem But2.count {d : Dsk} {c1 c2 : Nat} {NB : List UInt8} (h : But2 d c1 c2 NB) : NB ∈ d.cpys ∧ 2 ≤ d.cpys.count NB := by
  have hall : ∀ l : List (List UInt8), (2 ≤ l.count NB) → NB ∈ l := fun l hl => by
    refine List.count_pos_iff.1 (by omega)
  have h2 : 2 ≤ d.cpys.count NB := by
    unfold Dsk.cpys
    have q := fun k (hk : k < 4) (a : k ≠ c1) (b : k ≠ c2) => h k hk a b
    have one : ∀ (x : List UInt8) (l : List (List UInt8)), l.count NB ≤ (x :: l).count NB := fun x l => by rw [List.count_cons]; omega
    have eq1 : ∀ (l : List (List UInt8)), (NB :: l).count NB = l.count NB + 1 := fun l => List.count_cons_self
    have z0 := one (d.cpy 0) [d.cpy 1, d.cpy 2, d.cpy 3]
    have z1 := one (d.cpy 1) [d.cpy 2, d.cpy 3]
    have z2 := one (d.cpy 2) [d.cpy 3]
    have z3 := one (d.cpy 3) []
    have y0 : 0 ≠ c1 → 0 ≠ c2 → [d.cpy 0, d.cpy 1, d.cpy 2, d.cpy 3].count NB = [d.cpy 1, d.cpy 2, d.cpy 3].count NB + 1 := fun a b => by rw [q 0 (by omega) a b]; exact eq1 _
    have y1 : 1 ≠ c1 → 1 ≠ c2 → [d.cpy 1, d.cpy 2, d.cpy 3].count NB = [d.cpy 2, d.cpy 3].count NB + 1 := fun a b => by rw [q 1 (by omega) a b]; exact eq1 _
    have y2 : 2 ≠ c1 → 2 ≠ c2 → [d.cpy 2, d.cpy 3].count NB = [d.cpy 3].count NB + 1 := fun a b => by rw [q 2 (by omega) a b]; exact eq1 _
    have y3 : 3 ≠ c1 → 3 ≠ c2 → [d.cpy 3].count NB = ([] : List (List UInt8)).count NB + 1 := fun a b => by rw [q 3 (by omega) a b]; exact eq1 _
    by_cases a0 : (0 = c1 ∨ 0 = c2)
    · by_cases a1 : (1 = c1 ∨ 1 = c2)
      · have := y2 (by omega) (by omega); have := y3 (by omega) (by omega); omega
      · have := y1 (by omega) (by omega)
        by_cases a2 : (2 = c1 ∨ 2 = c2)
        · have := y3 (by omega) (by omega); omega
        · have := y2 (by omega) (by omega); omega
    · have := y0 (by omega) (by omega)
      by_cases a1 : (1 = c1 ∨ 1 = c2)
      · by_cases a2 : (2 = c1 ∨ 2 = c2)
        · have := y3 (by omega) (by omega); omega
        · have := y2 (by omega) (by omega); omega
      · have := y1 (by omega) (by omega); omega
  exact ⟨hall _ h2, h2⟩
/-- Ahead of each turn. -/
def TuRel (w : World) (p : Pl) (c1 c2 : Nat) (NB : List UInt8) (ts : List Turn6T) (v : Value) (wr : World) : Prop :=
  ∃ i d, i ≤ ts.length ∧ v = .int .i64 ((i : Nat) : Int) ∧ Up8 d ∧ DkOk wr p none d none ∧ But2 d c1 c2 NB ∧ Near (p.all none) w wr
/-- Ahead of each copy that is looked at. -/
def TvRel (w : World) (_p : Pl) (d : Dsk) (NB : List UInt8) (v : Value) (wr : World) : Prop :=
  ∃ i, i ≤ 4 ∧ v = .int .i64 ((i : Nat) : Int) ∧ (∀ k, k < i → (Sp.read (d.cpy k)).1 = 0 → d.cpy k = NB) ∧ Near [] w wr
theorem write_first_no {d : Dsk} (hu : Up8 d) (h : AllAre d (Sp.bytes (viewedS 1 4))) {s : SpT} (hno : Sp.ok (Sp.seq 2 s) = false) : Sp.write d none s = ((2, Sp.none_), d, none) := by
  obtain ⟨t, h1, h2, h3⟩ := open_form hu first_ok h
  have e0 : t.1 0 = 1 := h1.1 0 (by omega)
  unfold Sp.write
  rw [h2, if_neg (by simp), if_neg (by rw [e0]; decide), if_pos (by rw [e0, show (1 : Int) + 1 = 2 from rfl, hno]; simp)]
theorem write_first_ok {d : Dsk} (hu : Up8 d) (h : AllAre d (Sp.bytes (viewedS 1 4))) {s : SpT} (hok : Sp.ok (Sp.seq 2 s) = true) : ∃ d', Sp.write d none s = ((0, Sp.seq 2 s), d', none) ∧ Up8 d' ∧ AllAre d' (Sp.bytes (Sp.seq 2 s)) := by
  obtain ⟨t, h1, h2, h3⟩ := open_form hu first_ok h
  have e0 : t.1 0 = 1 := h1.1 0 (by omega)
  have hl : (Sp.bytes (viewedS 1 4)).length = 512 := Sp.bytes_length _ (Sp.ok_spec first_ok).2.1
  obtain ⟨d', e1, u1, n1, a1⟩ := write_up8s hu h2 h3 hl (by rw [e0]; decide) (s := s) (by rw [e0]; exact hok)
  rw [e0] at e1 a1
  exact ⟨d', e1, u1, a1⟩
set_option maxRecDepth 100000 in
set_option maxHeartbeats 8000000 in
theorem turned06_any (f : HdF) (fe : Bool) (A T : Option Addr) (n c m tc : Nat) (one two : Int) (hs : List (Int × Int)) (ts : List Turn6T) (w : World) (hn : n = hs.length) (hc : n ≤ c) (hm : m = ts.length) (hA : Heads w A hs) (hT : Turns6 w T ts) :
    Calls Try.prog 7 #[.agg (spc f fe (.slice A n c)), .int .i64 one, .int .i64 two, .slice T m tc] w fun e w' => e = .returned (.bool true) ∧ Below w.heap.size w w' := by
  have hz := zeroSuper
  obtain ⟨w0, hw0⟩ : ∃ w0, w0 = w.alloc (.cells (spc f fe (.slice A n c)) 26) := ⟨_, rfl⟩
  have hx : Blk w0 w.heap.size 26 (spc f fe (.slice A n c)) := hw0 ▸ Blk.new w _ _
  have hb0 : Below w.heap.size w w0 := hw0 ▸ (Below.refl w.heap.size w).alloc (Nat.le_refl _) _
  have H0 := Lib.hid (And.intro hx (And.intro hb0 (And.intro (hA.below hb0) (hT.up hb0))))
  have HN := Lib.hid (And.intro hn (And.intro hc hm))
  clear hx hb0 hA hT hn hc hm
  go_enter Try.func7, Try.ntmps7
  go_wp2_with fail
  rw [← hw0]
  clear hw0
  refine (known06_any w0).mono ?_
  rintro e w1 ⟨rfl, hb⟩
  have H1 := Lib.hid (And.intro (H0.out.1.below hb H0.out.1.lt) (And.intro (H0.out.2.1.trans (hb.mono H0.out.2.1.size)) (And.intro (H0.out.2.2.1.below hb) (H0.out.2.2.2.up hb))))
  clear hb H0
  go_wp2_with fail
  refine (formatted_any w1).mono ?_
  rintro e w2 ⟨p, d, rfl, hf⟩
  have hb := hf.below
  have H2 := Lib.hid (And.intro (H1.out.1.below hb H1.out.1.lt) (And.intro (H1.out.2.1.trans (hb.mono H1.out.2.1.size)) (And.intro (H1.out.2.2.1.below hb) (And.intro (H1.out.2.2.2.up hb) hf))))
  have HX : Hid ((∀ x ∈ p.all none, w1.heap.size ≤ x) ∧ w.heap.size < w1.heap.size) := Lib.hid ⟨fun x hx => by
    have h := hf.fresh
    simp [Pl.all] at hx
    rcases hx with rfl | rfl | rfl <;> omega, H1.out.1.lt⟩
  have HT1 := Lib.hid (And.intro H1.out.2.2.2.lt (And.intro H1.out.2.2.1 H1.out.2.2.2))
  clear hb hf H1
  have d10 := H2.out.1.at_ 10 (v := .slice A n c) rfl
  by_cases q1 : 32 < n
  · go_wp2
    go_ret
    exact ⟨rfl, H2.out.2.1⟩
  by_cases q2 : 40 < m
  · go_wp2
    go_ret
    exact ⟨rfl, H2.out.2.1⟩
  have hA2 : 0 < hs.length → ∀ ad, A = some ad → ad.block ∉ p.all none := fun hp ad e hx => by
    obtain ⟨b, off, e', hc⟩ := HT1.out.2.1 hp
    rw [e] at e'
    injection e' with e'
    subst e'
    have h1 : b < w1.heap.size := World.block_lt_of_cell? w1 _ (hc 0 hp).1
    have h2 : w1.heap.size ≤ b := HX.out.1 _ hx
    omega
  have hwr := spWrite_all f fe A n c hs w2 HN.out.1 HN.out.2.1 (by have := HN.out.1; omega) H2.out.2.2.1 hA2 H2.out.2.2.2.2.dk
  clear hA2
  cases hok : Sp.ok (Sp.seq 2 (f, fe, hs))
  · rw [write_first_no H2.out.2.2.2.2.up H2.out.2.2.2.2.all hok] at hwr
    have HW := Lib.hid hwr
    clear hwr hok
    go_wp2_with (first
      | ((with_reducible show wpList _ _ _ ((⟨some 48, _, _, _, _, _⟩ : Oper) :: _) _ _); refine wpList_load_blk (o := ⟨some 48, _, _, _, _, _⟩) (H2.out.1) (by rfl) _ _ (by rfl) (by rfl) _ Try.underlying26 (by rfl) (sizeSuper) (by exact spc_size _ _ _) ?_)
      | fail)
    refine HW.out.mono ?_
    rintro e w3 ⟨⟨B, fs, fe3, dd, hs3, rfl, -, -, -, -⟩, -, hn3⟩
    have H3 := Lib.hid (below_near H2.out.2.1 hn3 (fun x hx => by have := HX.out.1 x hx; have := HX.out.2; omega) H2.out.2.1.size)
    clear hn3
    go_wp2_with (first
      | ((with_reducible show wpList _ _ _ ((⟨none, _, _, _, _, _⟩ : Oper) :: _) _ _); refine wpList_store_blk (o := ⟨none, _, _, _, _, _⟩) ((Blk.new w3 26 spz)) (by rfl) _ _ _ (by rfl) (by rfl) (spc fs fe3 (.slice B hs3.length dd)) (by rfl) (sizeSuper) (spc_size _ _ _) (spc_size _ _ _) (spc_one _ _ _ rfl) ?_; intro w4 h4 hu4; have hb4 := ((Below.refl w3.heap.size w3).alloc (Nat.le_refl _) (.cells spz 26)).upd hu4 (Nat.le_refl _); have H4 := Lib.hid (H3.out.trans (hb4.mono H3.out.size)); clear h4 hu4 hb4)
      | fail)
    go_ret
    exact ⟨rfl, H4.out⟩
  obtain ⟨d3, e3, u3, a3⟩ := write_first_ok H2.out.2.2.2.2.up H2.out.2.2.2.2.all hok
  rw [e3] at hwr
  have HW := Lib.hid (And.intro hwr (And.intro u3 (And.intro a3 hok)))
  clear hwr e3 u3 a3 hok
  go_wp2_with (first
    | ((with_reducible show wpList _ _ _ ((⟨some 48, _, _, _, _, _⟩ : Oper) :: _) _ _); refine wpList_load_blk (o := ⟨some 48, _, _, _, _, _⟩) (H2.out.1) (by rfl) _ _ (by rfl) (by rfl) _ Try.underlying26 (by rfl) (sizeSuper) (by exact spc_size _ _ _) ?_)
    | fail)
  refine HW.out.1.mono ?_
  rintro e w3 ⟨⟨B, fs, fe3, dd, hs3, rfl, hsm, hhd, hle, hfr⟩, hdk3, hn3⟩
  have hT3 : Turns6 w3 T ts := by
    have hbw : Below w1.heap.size w1 w3 := below_near H2.out.2.2.2.2.below hn3 HX.out.1 H2.out.2.2.2.2.below.size
    exact HT1.out.2.2.up hbw
  have H3 := Lib.hid (And.intro hsm (And.intro hhd (And.intro hdk3 (And.intro hT3 (And.intro (below_near H2.out.2.1 hn3 (fun x hx => by have := HX.out.1 x hx; have := HX.out.2; omega) H2.out.2.1.size) hfr)))))
  clear hsm hhd hle hfr hdk3 hn3 hT3
  go_wp2_with (first
    | ((with_reducible show wpList _ _ _ ((⟨none, _, _, _, _, _⟩ : Oper) :: _) _ _); refine wpList_store_blk (o := ⟨none, _, _, _, _, _⟩) ((Blk.new w3 26 spz)) (by rfl) _ _ _ (by rfl) (by rfl) (spc fs fe3 (.slice B hs3.length dd)) (by rfl) (sizeSuper) (spc_size _ _ _) (spc_size _ _ _) (spc_one _ _ _ rfl) ?_; intro w4 h4 hu4)
    | fail)
  have hb4 := ((Below.refl w3.heap.size w3).alloc (Nat.le_refl _) (.cells spz 26)).upd hu4 (Nat.le_refl _)
  obtain ⟨NB, hNB⟩ : ∃ x, x = Sp.bytes (Sp.seq 2 (f, fe, hs)) := ⟨_, rfl⟩
  have hall := HW.out.2.2.1
  rw [← hNB] at hall
  have hw14 : w1.heap.size ≤ w3.heap.size := by
    have h1 := H2.out.2.2.2.2.below.size
    have h2 := H3.out.2.2.2.2.1.size
    have h3 := H2.out.2.1.size
    have h4 := H3.out.2.2.1.lt p.gd (by simp [Pl.all])
    have h5 := HX.out.1 p.gd (by simp [Pl.all])
    omega
  have H4 := Lib.hid (And.intro h4 (And.intro (H3.out.2.2.1.near (Near.below hb4)) (And.intro (H3.out.2.2.2.1.up hb4) (And.intro (H3.out.2.1.below hb4) (And.intro (H3.out.2.2.2.2.1.trans (hb4.mono H3.out.2.2.2.2.1.size)) (And.intro hall (Nat.le_trans hw14 hb4.size)))))))
  have hpx : ∀ x ∈ p.all none, x < w3.heap.size := fun x hx => H3.out.2.2.1.lt x hx
  have HPX := Lib.hid (And.intro hpx H3.out.1)
  have HBF : Hid (∀ ad, B = some ad → ad.block ∉ p.all none) := Lib.hid fun ad e hx => by
    have h1 := H3.out.2.2.2.2.2 ad e
    have h2 := H2.out.2.2.2.2.dk.lt _ hx
    omega
  have HNB := Lib.hid (And.intro hNB (And.intro HW.out.2.1 HW.out.2.2.2))
  clear h4 hu4 hb4 hall hw14 hpx hNB HW H3 H2 d10
  generalize w3.heap.size = g at H4 HPX ⊢
  obtain ⟨c1, hc1⟩ : ∃ c, c = pickN one 4 := ⟨_, rfl⟩
  obtain ⟨c2, hc2⟩ : ∃ c, c = pickN two 4 := ⟨_, rfl⟩
  have hl1 : c1 < 4 := by have := pickN_lt one 4 (by omega); omega
  have hl2 : c2 < 4 := by have := pickN_lt two 4 (by omega); omega
  have HP := Lib.hid (And.intro hc1 hc2)
  clear hc1 hc2
  go_wp2_with fail
  go_loopw [14] (fun v wr => TuRel w4 p c1 c2 NB ts v wr) (fun v _ => m - (intOf v).toNat)
  case atStart => exact ⟨0, d3, Nat.zero_le _, rfl, HNB.out.2.1, H4.out.2.1, fun k hk _ _ => H4.out.2.2.2.2.2.1 k hk, Near.refl _ _⟩
  case round =>
    obtain ⟨i, di, hi, rfl, hu, hdk, hbut, hnr⟩ := hrel
    have hil : i ≤ m := by rw [HN.out.2.2]; exact hi
    by_cases hlt : i < m
    · have hits : i < ts.length := by rw [← HN.out.2.2]; exact hlt
      have hbw : Below w1.heap.size w4 wr := hnr.toBelow HX.out.1 H4.out.2.2.2.2.2.2
      obtain ⟨tb, to, rfl, hct⟩ := (H4.out.2.2.1.below hbw HT1.out.1) (by omega)
      obtain ⟨t1, t2, t3⟩ := hct i hits
      generalize ts[i].1 = cp at t1
      generalize ts[i].2.1 = pl at t2
      generalize ts[i].2.2 = by_ at t3
      have HR := Lib.hid (And.intro hu (And.intro hdk (And.intro hbut hnr)))
      have hi5 : i < 65536 := by omega
      clear hct hbw hu hdk hbut hnr
      go_wp2_with fail
      refine (pick_any one 4 (by omega) (by omega) wr).mono ?_
      rintro e w5 ⟨rfl, hw⟩
      obtain rfl := hw.symm
      clear hw
      rw [← HP.out.1]
      go_wp2_with fail
      · refine (pick_any two 4 (by omega) (by omega) wr).mono ?_
        rintro e w5 ⟨rfl, hw⟩
        obtain rfl := hw.symm
        clear hw
        rw [← HP.out.2]
        go_wp2_with fail
        refine (pick_any pl 512 (by omega) (by omega) wr).mono ?_
        rintro e w5 ⟨rfl, hw⟩
        obtain rfl := hw.symm
        clear hw
        obtain ⟨a, ha⟩ : ∃ a, a = pickN pl 512 := ⟨_, rfl⟩
        have hal : a < 512 := by have := pickN_lt pl 512 (by omega); omega
        rw [← ha]
        clear ha
        obtain ⟨dj, ej, uj, nj, cj, oj⟩ := HR.out.1.turn (s := 2 * c2 + a / 256) (a := a % 256) (by omega) (by omega) by_
        have htn := turn_dk HR.out.2.1 ej uj.ok
        rw [show ((2 * c2 + a / 256 : Nat) : Int) = 2 * (c2 : Int) + (a : Int) / 256 by omega, show ((a % 256 : Nat) : Int) = (a : Int) % 256 by omega] at htn
        have hbj : But2 dj c1 c2 NB := fun k hk k1 k2 => by
          rw [oj k (by omega)]
          exact HR.out.2.2.1 k hk k1 k2
        have HJ := Lib.hid (And.intro uj (And.intro htn hbj))
        clear ej uj nj cj oj htn hbj
        go_wp2_with fail
        refine HJ.out.2.1.mono ?_
        rintro e w6 ⟨rfl, hdk6, hn6⟩
        have H6 := Lib.hid (And.intro hdk6 (HR.out.2.2.2.trans hn6))
        clear hdk6 hn6 t1 t2 t3
        go_wp2
        go_roundw
        case rel => exact ⟨i + 1, dj, by omega, by go_num, HJ.out.1, H6.out.1, HJ.out.2.2, H6.out.2⟩
        case measure => simp [intOf]; omega
      · skip
        refine (pick_any pl 512 (by omega) (by omega) wr).mono ?_
        rintro e w5 ⟨rfl, hw⟩
        obtain rfl := hw.symm
        clear hw
        obtain ⟨a, ha⟩ : ∃ a, a = pickN pl 512 := ⟨_, rfl⟩
        have hal : a < 512 := by have := pickN_lt pl 512 (by omega); omega
        rw [← ha]
        clear ha
        obtain ⟨dj, ej, uj, nj, cj, oj⟩ := HR.out.1.turn (s := 2 * c1 + a / 256) (a := a % 256) (by omega) (by omega) by_
        have htn := turn_dk HR.out.2.1 ej uj.ok
        rw [show ((2 * c1 + a / 256 : Nat) : Int) = 2 * (c1 : Int) + (a : Int) / 256 by omega, show ((a % 256 : Nat) : Int) = (a : Int) % 256 by omega] at htn
        have hbj : But2 dj c1 c2 NB := fun k hk k1 k2 => by
          rw [oj k (by omega)]
          exact HR.out.2.2.1 k hk k1 k2
        have HJ := Lib.hid (And.intro uj (And.intro htn hbj))
        clear ej uj nj cj oj htn hbj
        go_wp2_with fail
        refine HJ.out.2.1.mono ?_
        rintro e w6 ⟨rfl, hdk6, hn6⟩
        have H6 := Lib.hid (And.intro hdk6 (HR.out.2.2.2.trans hn6))
        clear hdk6 hn6 t1 t2 t3
        go_wp2
        go_roundw
        case rel => exact ⟨i + 1, dj, by omega, by go_num, HJ.out.1, H6.out.1, HJ.out.2.2, H6.out.2⟩
        case measure => simp [intOf]; omega
    · obtain rfl : i = m := by omega
      have hbw : Below w1.heap.size w4 wr := hnr.toBelow HX.out.1 H4.out.2.2.2.2.2.2
      have hg1 : w1.heap.size ≤ g := by have h1 := HPX.out.1 p.gd (by simp [Pl.all]); have h2 := HX.out.1 p.gd (by simp [Pl.all]); omega
      have hxg : Blk wr g 26 (spc fs fe3 (.slice B hs3.length dd)) := H4.out.1.near hnr (fun hx => by have := HPX.out.1 g hx; omega)
      have hBf : ∀ ad, B = some ad → ad.block ∉ p.all none := HBF.out
      have hhd : Heads wr B hs3 := H4.out.2.2.2.1.near hnr hBf
      have hbW : Below w.heap.size w wr := below_near H4.out.2.2.2.2.1 hnr (fun x hx => by have h1 := HX.out.1 x hx; have h2 := HX.out.2; omega) H4.out.2.2.2.2.1.size
      have hok3 : Sp.ok (fs, fe3, hs3) = true := by rw [Sp.same_ok HPX.out.2]; exact HNB.out.2.2
      have hnb3 : Sp.bytes (fs, fe3, hs3) = NB := by rw [Sp.same_bytes HPX.out.2, HNB.out.1]
      have hl3 : hs3.length ≤ 32 := (Sp.ok_spec hok3).2.1
      have hby := spBytes_any fs fe3 B hs3.length dd hs3 wr rfl (by omega) hhd
      have HR := Lib.hid (And.intro hu (And.intro hdk (And.intro hbut (And.intro hxg (And.intro hhd (And.intro hbW (And.intro hok3 (And.intro hnb3 (And.intro hl3 hby)))))))))
      clear hu hdk hbut hnr hbw hg1 hxg hBf hhd hbW hok3 hnb3 hl3 hby
      go_wp2_with (first
        | ((with_reducible show wpList _ _ _ ((⟨some 97, _, _, _, _, _⟩ : Oper) :: _) _ _); refine wpList_load_blk (o := ⟨some 97, _, _, _, _, _⟩) (HR.out.2.2.2.1) (by rfl) _ _ (by rfl) (by rfl) _ Try.underlying26 (by rfl) (sizeSuper) (by exact spc_size _ _ _) ?_)
        | fail)
      refine HR.out.2.2.2.2.2.2.2.2.2.mono ?_
      rintro e w5 ⟨(⟨-, gb, rfl, -, hbg⟩ | ⟨h, -⟩), hb⟩
      case inr => rw [HR.out.2.2.2.2.2.2.1] at h; cases h
      rw [HR.out.2.2.2.2.2.2.2.1] at hbg
      have hnbl : NB.length = 512 := by rw [← HR.out.2.2.2.2.2.2.2.1]; exact Sp.bytes_length _ HR.out.2.2.2.2.2.2.2.2.1
      have H5 := Lib.hid (And.intro (HR.out.2.2.2.1.below hb HR.out.2.2.2.1.lt) (And.intro (HR.out.2.1.near (Near.below hb)) (And.intro (HR.out.2.2.2.2.1.below hb) (And.intro (HR.out.2.2.2.2.2.1.trans (hb.mono HR.out.2.2.2.2.2.1.size)) (And.intro hbg hnbl)))))
      have HU := Lib.hid (And.intro HR.out.1 (And.intro HR.out.2.2.1 (And.intro HR.out.2.2.2.2.2.2.1 (And.intro HR.out.2.2.2.2.2.2.2.1 HR.out.2.2.2.2.2.2.2.2.1))))
      clear hb hbg hnbl HR H4
      clear wr
      go_wp2_with fail
      go_loopw [19] (fun v wr => TvRel w5 p di NB v wr) (fun v _ => 4 - (intOf v).toNat)
      case atStart => exact ⟨0, by omega, rfl, fun k hk => by omega, Near.refl _ _⟩
      case round =>
        obtain ⟨k, hk, rfl, hall, hn⟩ := hrel
        have HK := Lib.hid (And.intro hall hn)
        clear hall hn
        by_cases hlt4 : k < 4
        · have hrd := read_all (p := p) (gf := none) (2 * (k : Int)) 2 (H5.out.2.1.near HK.out.2).dr (H5.out.2.1.near HK.out.2).fr HU.out.1.ok
          rw [read_cpy HU.out.1.ok HU.out.1.isOut HU.out.1.n8 hlt4] at hrd
          have hcl := cpy_len HU.out.1.ok HU.out.1.n8 hlt4
          have HRD := Lib.hid (And.intro hrd hcl)
          clear hrd hcl
          go_wp2_with fail
          refine HRD.out.1.mono ?_
          rintro e w6 ⟨A6, rfl, (⟨-, g6, rfl, -, hbl⟩ | ⟨h0, -⟩), hb⟩
          case inr => exact absurd rfl h0
          simp only [HRD.out.2]
          have H6 := Lib.hid (And.intro hbl (HK.out.2.trans (Near.below hb)))
          clear hbl hb
          go_wp2_with fail
          refine (spRead_any (some ⟨g6, 0, none⟩) 512 512 (di.cpy k) w6 HRD.out.2.symm (by rw [HRD.out.2]; exact Nat.le_refl _) (by omega) (by rw [HRD.out.2]; omega) (Blk.bytes H6.out.1)).mono ?_
          rintro e w7 ⟨f7, fe7, B7, d7, hs7, rfl, -, -, -, -, hb⟩
          have H7 := Lib.hid (And.intro (H6.out.1.below hb H6.out.1.lt) (H6.out.2.trans (Near.below hb)))
          obtain ⟨rc, hrc⟩ : ∃ x, x = (Sp.read (di.cpy k)).1 := ⟨_, rfl⟩
          rw [← hrc]
          have HRC := Lib.hid hrc
          clear hb hrc H6
          by_cases hz0 : rc = 0
          · subst hz0
            go_wp2_with (first
              | ((with_reducible show wpList _ _ _ ((⟨none, _, _, _, _, _⟩ : Oper) :: _) _ _); refine wpList_store_blk (o := ⟨none, _, _, _, _, _⟩) ((Blk.new w7 26 spz)) (by rfl) _ _ _ (by rfl) (by rfl) (spc f7 fe7 (.slice B7 hs7.length d7)) (by rfl) (sizeSuper) (spc_size _ _ _) (spc_size _ _ _) (spc_one _ _ _ rfl) ?_; intro w8 h8 hu8; have hb8 := ((Below.refl w7.heap.size w7).alloc (Nat.le_refl _) (.cells spz 26)).upd hu8 (Nat.le_refl _); have H8 := Lib.hid (And.intro (H7.out.1.below hb8 H7.out.1.lt) (H7.out.2.trans (Near.below hb8))); clear h8 hu8 hb8)
              | fail)
            refine (sameBytes_any (some ⟨g6, 0, none⟩) (some ⟨gb, 0, none⟩) 512 512 512 512 (di.cpy k) NB HRD.out.2.symm H5.out.2.2.2.2.2.symm w8 (Blk.bytes H8.out.1) (Blk.bytes (H5.out.2.2.2.2.1.near H8.out.2 (by simp)))).mono ?_
            rintro e w9 ⟨rfl, hw⟩
            obtain rfl := hw.symm
            clear hw
            by_cases hceq : di.cpy k = NB
            · have HCE := Lib.hid hceq
              rw [decide_eq_true hceq]
              clear hceq
              go_wp2
              go_roundw
              case rel => exact ⟨k + 1, by omega, by go_num, fun j hj h => by
                by_cases e : j = k
                · rw [e]; exact HCE.out
                · exact HK.out.1 j (by omega) h, H8.out.2⟩
              case measure => simp [intOf]; omega
            · rw [decide_eq_false hceq]
              have HBW := Lib.hid (below_near H5.out.2.2.2.1 H8.out.2 (by simp) H5.out.2.2.2.1.size)
              clear hceq
              go_wp2
              go_ret
              exact ⟨rfl, HBW.out⟩
          · have hz0' : (rc == 0) = false := by rw [beq_eq_false_iff_ne]; exact hz0
            have HZ0 := Lib.hid hz0
            clear hz0
            go_wp2_with (first
              | ((with_reducible show wpList _ _ _ ((⟨none, _, _, _, _, _⟩ : Oper) :: _) _ _); refine wpList_store_blk (o := ⟨none, _, _, _, _, _⟩) ((Blk.new w7 26 spz)) (by rfl) _ _ _ (by rfl) (by rfl) (spc f7 fe7 (.slice B7 hs7.length d7)) (by rfl) (sizeSuper) (spc_size _ _ _) (spc_size _ _ _) (spc_one _ _ _ rfl) ?_; intro w8 h8 hu8; have hb8 := ((Below.refl w7.heap.size w7).alloc (Nat.le_refl _) (.cells spz 26)).upd hu8 (Nat.le_refl _); have H8 := Lib.hid (H7.out.2.trans (Near.below hb8)); clear h8 hu8 hb8)
              | fail)
            go_roundw
            case rel => exact ⟨k + 1, by omega, by go_num, fun j hj h => by
              by_cases e : j = k
              · subst e; exact absurd (HRC.out.trans h) HZ0.out
              · exact HK.out.1 j (by omega) h, H8.out⟩
            case measure => simp [intOf]; omega
        · obtain rfl : k = 4 := by omega
          have ho : Sp.open_ di none = (0, Sp.parse NB) := by
            have hr := Sp.read_bytes _ HU.out.2.2.1
            rw [HU.out.2.2.2.1] at hr
            obtain ⟨hm, h2⟩ := But2.count HU.out.2.1
            refine (open_of HU.out.1 (fun x hx h => ?_) hm h2 hr.1 (by have h0 := (Sp.ok_spec HU.out.2.2.1).1.1; have e0 := hr.2.1 0 (by omega); rw [e0]; have : 1 ≤ fs 0 := h0; omega)).1
            simp only [Dsk.cpys, List.mem_cons, List.not_mem_nil, or_false] at hx
            rcases hx with rfl | rfl | rfl | rfl
            · exact HK.out.1 0 (by omega) h
            · exact HK.out.1 1 (by omega) h
            · exact HK.out.1 2 (by omega) h
            · exact HK.out.1 3 (by omega) h
          have hsm : Sp.same (Sp.parse NB) (fs, fe3, hs3) := by
            have hr := Sp.read_bytes _ HU.out.2.2.1
            rw [HU.out.2.2.2.1] at hr
            exact hr.2
          have hop := opens_any fs fe3 B hs3.length dd hs3 wr rfl (H5.out.2.2.1.near HK.out.2 (by simp)) (H5.out.2.1.near HK.out.2)
          rw [ho] at hop
          have ht : (decide (((0, Sp.parse NB) : Int × SpT).1 = 0) && Sp.sameB ((0, Sp.parse NB) : Int × SpT).2 (fs, fe3, hs3)) = true := by
            simp only [decide_true, Bool.true_and]
            exact Sp.sameB_iff.2 hsm
          rw [ht] at hop
          have HOP := Lib.hid (And.intro hop (And.intro (H5.out.1.near HK.out.2 (by simp)) (below_near H5.out.2.2.2.1 HK.out.2 (by simp) H5.out.2.2.2.1.size)))
          clear ho hsm hop ht
          go_wp2_with (first
            | ((with_reducible show wpList _ _ _ ((⟨some 133, _, _, _, _, _⟩ : Oper) :: _) _ _); refine wpList_want (by rfl) ?_; refine wpList_load_blk (o := ⟨some 133, _, _, _, _, _⟩) (HOP.out.2.1) (by rfl) _ _ (by rfl) (by rfl) _ Try.underlying26 (by rfl) (sizeSuper) (by exact spc_size _ _ _) ?_)
            | fail)
          refine HOP.out.1.mono ?_
          rintro e w6 ⟨rfl, hb⟩
          have HB6 := Lib.hid (HOP.out.2.2.trans (hb.mono HOP.out.2.2.size))
          clear hb
          go_wp2
          go_ret
          exact ⟨rfl, HB6.out⟩
end Go.Proofs.Ytmhfehhpfkjloaa

/- SuperblockTurned: for every input the law answers true and every argument reads as it did. No condition. -/
namespace Go.Proofs.Ytmhfehhpfkjloaa
open Go.ChangeShapes Go.WideShapes Go.ChangeAt Go.RowKit
abbrev turn6Sh : Sh := .cons (.int .i64) (.cons (.int .i64) (.cons .byte .nil))
def turns6Of (l : List turn6Sh.T) : List Turn6T := l.map fun r => (r.1, r.2.1, r.2.2.1)
theorem turn6Sh_is {w : World} {r : turn6Sh.T} {cs : List Value} (h : Sh.Is w turn6Sh r cs) : cs = [.int .i64 r.1, .int .i64 r.2.1, .int .u8 (iu8 r.2.2.1)] := by
  obtain ⟨_, _, rfl, _, h1, _, _, rfl, _, h2, _, _, rfl, _, h3, h4⟩ := h
  obtain ⟨rfl, _, _⟩ := h1
  obtain ⟨rfl, _, _⟩ := h2
  obtain rfl := h3
  obtain rfl := h4
  rfl
theorem Turns6.both {w : World} {B : Option Addr} {ts : List turn6Sh.T} {rows : List (List Value)} (h : Both (fun (d : turn6Sh.T) r => r.length = turn6Sh.size ∧ Sh.Is w turn6Sh d r) ts rows) (hr : Reads w B rows.flatten) : Turns6 w B (turns6Of ts) := by
  have hat : ∀ i, (hi : i < ts.length) → rows.flatten[i * 3]? = some (.int .i64 ts[i].1) ∧ rows.flatten[i * 3 + 1]? = some (.int .i64 ts[i].2.1) ∧ rows.flatten[i * 3 + 2]? = some (.int .u8 (iu8 ts[i].2.2.1)) := by
    intro i hi
    obtain ⟨r, h1, h2, h3⟩ := both_at h i hi
    obtain rfl := turn6Sh_is h2
    refine ⟨?_, ?_, ?_⟩
    · have := h3 0 (by decide)
      rw [show i * turn6Sh.size + 0 = i * 3 by simp [Sh.size]] at this
      rw [this]; rfl
    · have := h3 1 (by decide)
      rw [show i * turn6Sh.size + 1 = i * 3 + 1 by simp [Sh.size]] at this
      rw [this]; rfl
    · have := h3 2 (by decide)
      rw [show i * turn6Sh.size + 2 = i * 3 + 2 by simp [Sh.size]] at this
      rw [this]; rfl
  intro hp
  have hp0 : 0 < ts.length := by simpa [turns6Of] using hp
  have hne : rows.flatten ≠ [] := by intro e; have := (hat 0 hp0).1; rw [e] at this; simp at this
  obtain ⟨b, off, e, hc⟩ := hr hne
  refine ⟨b, off, e, fun i hi => ?_⟩
  have hi' : i < ts.length := by simpa [turns6Of] using hi
  obtain ⟨p1, p2, p3⟩ := hat i hi'
  refine ⟨?_, ?_, ?_⟩
  · simpa [turns6Of] using hc _ _ p1
  · simpa [turns6Of, Nat.add_assoc] using hc _ _ p2
  · simpa [turns6Of, Nat.add_assoc] using hc _ _ p3
theorem turned06_args (x : spSh.T) (cs : List Value) (one two : Int) (R : Option Addr) (rc : Nat) (ts : List turn6Sh.T) (rows : List (List Value)) (W : World) (h : Sh.Is W spSh x cs) (hb : Both (fun (d : turn6Sh.T) r => r.length = turn6Sh.size ∧ Sh.Is W turn6Sh d r) ts rows) (hr : Reads W R rows.flatten) :
    Calls Try.prog 7 #[.agg cs.toArray, .int .i64 one, .int .i64 two, .slice R ts.length rc] W fun e w' => e = .returned (.bool true) ∧ Below W.heap.size W w' := by
  obtain ⟨f, fe, A, c, hs, rfl, hc, _, hh⟩ := spSh_is h
  exact turned06_any f fe A R hs.length c ts.length rc one two hs (turns6Of ts) W rfl hc (by unfold turns6Of; exact (List.length_map ..).symm) hh (Turns6.both hb hr)
set_option maxRecDepth 100000 in
theorem superblockTurned_lifted (os : Os) (started : os.Started) (H : Type) (enc : TypeId × Value → H) :
    ReturnsInHanded {} Try.checked os 7 .any (Rows.superblockTurnedSpec.pre6 enc Try.prog Try.f7 Rows.superblockTurnedRow.domain false) (Rows.superblockTurnedSpec.post enc Try.prog Try.f7 false true false false) := by
  refine returnsInHanded_of_change (C := Try.checked) Try.own started (by kernel_rfl) Try.func7
    (ChangeSpec.witness6 (enc := enc) (C := Try.checked) false ⟨#[], #[.agg #[.int .i64 0, .int .i64 0, .int .i64 0, .int .i64 0, .int .i64 0, .int .i64 0, .int .i64 0, .int .i64 0, .int .i64 0, .bool false, .slice none 0 0], .int .i64 0, .int .i64 0, .slice none 0 0], []⟩ 8 (by kernel_rfl) (by kernel_rfl) (by kernel_rfl) (by kernel_rfl)) ?_
  intro W base args ds gs before hval0 hW hcnd _
  have hval : ∀ (j : Nat) t v, Try.f7.params[j]? = some t → args[j]? = some v → Value.okWide Try.prog W .any base t v := hval0
  have hW' := hW
  obtain ⟨p, q, hA0, hV, rfl, hfz, hnd⟩ := hW
  have hA : DataW.TrodAll enc Try.prog W 0 (fun _ => true) true Try.f7.params.toList args.toList ds p := hA0
  rw [Try.params7] at hA hval
  obtain ⟨v0, v1, v2, v3, d0, d1, d2, d3, p0, p1, p2, p3, rfl, rfl, rfl, h0, h1, h2, h3⟩ := trodAll_four hA
  obtain ⟨rfl, rfl⟩ := trodVars_none hV
  have h0k := h0
  have h1k := h1
  have h2k := h2
  have h3k := h3
  obtain ⟨x, hx0⟩ := Sh.open_ (P := Try.prog) spSh (by kernel_rfl) h0
  obtain ⟨cs, rfl, hcs⟩ := arg_agg Try.underlying26 rfl (hval 0 26 v0 rfl rfl) hx0
  obtain ⟨one, hx1⟩ := Sh.open_ (P := Try.prog) (.int .i64) (by kernel_rfl) h1
  obtain ⟨rfl, hlo1, hhi1⟩ := arg_int Try.underlying3 (hval 1 3 v1 rfl rfl) hx1
  obtain ⟨two, hx2⟩ := Sh.open_ (P := Try.prog) (.int .i64) (by kernel_rfl) h2
  obtain ⟨rfl, hlo2, hhi2⟩ := arg_int Try.underlying3 (hval 2 3 v2 rfl rfl) hx2
  obtain ⟨ts, hx3⟩ := Sh.open_ (P := Try.prog) (.slice turn6Sh) (by kernel_rfl) h3
  obtain ⟨R, rc, rows3, rfl, htc, htc2, hb, hr⟩ := arg_slice Try.underlying61 (hval 3 61 v3 rfl rfl) hx3
  clear hA0 hval0
  simp only [List.append_nil] at hW'
  have hlt : ∀ x ∈ p0 ++ p1 ++ p2 ++ p3, x.block < W.heap.size := fun x hx => by simpa using hW'.lt x hx
  refine (turned06_args x cs one two R rc ts _ W hcs hb hr).mono fun e W' ⟨he, hw⟩ => ?_
  subst he
  refine ⟨_, rfl, _, _, _, [], p0 ++ p1 ++ p2 ++ p3, [], hW', ?_, ?_, rfl, hw.frame _, fun h => by cases h⟩
  · exact trodAll_mk1 (shut_bool Try.underlying4 true)
  · simp only [List.append_assoc]; exact trodAll_mk4 (Below.trod Try.laidOut (by kernel_rfl) (of_decide_eq_true (by kernel_rfl)) h0k hw (fun x hx => hlt x (by simp [hx]))) (Below.trod Try.laidOut (by kernel_rfl) (of_decide_eq_true (by kernel_rfl)) h1k hw (fun x hx => hlt x (by simp [hx]))) (Below.trod Try.laidOut (by kernel_rfl) (of_decide_eq_true (by kernel_rfl)) h2k hw (fun x hx => hlt x (by simp [hx]))) (Below.trod Try.laidOut (by kernel_rfl) (of_decide_eq_true (by kernel_rfl)) h3k hw (fun x hx => hlt x (by simp [hx])))
theorem superblockTurned_holds : Rows.SuperblockTurnedSaid :=
  OpenClaim.holds_of_wide 7 Try.f7 rfl rfl rfl rfl rfl rfl rfl ⟨rfl, rfl, rfl, rfl, rfl⟩ rfl rfl rfl rfl rfl (by kernel_rfl) Try.func7 (by kernel_rfl)
    (of_decide_eq_true (by kernel_rfl)) (by unfold Func.isWrapper; rw [if_neg (by decide +kernel)]; exact ⟨rfl, rfl⟩)
    (fun os started H enc _ => superblockTurned_lifted os started H enc)
end Go.Proofs.Ytmhfehhpfkjloaa
