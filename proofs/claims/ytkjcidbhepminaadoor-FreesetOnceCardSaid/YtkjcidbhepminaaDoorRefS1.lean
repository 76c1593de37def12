/- The document's set of blocks: a list of numbers. What its functions do. Conditions: its two blocks are known; each number is 0, 1 or 2. -/
import Derived.Test.YtkjcidbhepminaaDoorSet9
namespace Go.Proofs.YtkjcidbhepminaaDoor
open Go.RowKit
def iv (x : Nat) : Value := .int .i64 (x : Nat)
def ints (L : List Nat) : Array Value := (L.map iv).toArray
theorem ints_at (L : List Nat) (i : Nat) (h : i < L.length) : (ints L)[i]? = some (.int .i64 (L.getD i 0 : Nat)) := by
  unfold ints
  rw [List.getElem?_toArray, List.getElem?_map, List.getElem?_eq_getElem h, List.getD_eq_getElem?_getD, List.getElem?_eq_getElem h]; rfl
theorem ints_set (L : List Nat) (i v : Nat) : (ints L).setIfInBounds i (.int .i64 (v : Nat)) = ints (L.set i v) := by
  unfold ints
  apply Array.ext'
  simp only [List.setIfInBounds_toArray]
  rw [List.map_set]; rfl
structure RefAt (w : World) (r q : Nat) (L : List Nat) : Prop where
  hd : Blk w r 73 #[.slice (some ⟨q, 0, none⟩) L.length L.length]
  tl : Blk w q 3 (ints L)
  ne : r ≠ q
theorem RefAt.below {w w' : World} {r q : Nat} {L : List Nat} (h : RefAt w r q L) (hb : Below w.heap.size w w') : RefAt w' r q L := ⟨h.hd.below hb h.hd.lt, h.tl.below hb h.tl.lt, h.ne⟩
theorem RefAt.upd {w w' : World} {r q g : Nat} {L : List Nat} (h : RefAt w r q L) (u : Upd g w w') (h1 : g ≠ r) (h2 : g ≠ q) : RefAt w' r q L := ⟨h.hd.upd u (Ne.symm h1), h.tl.upd u (Ne.symm h2), h.ne⟩
theorem RefAt.set_ {w w' : World} {r q : Nat} {L : List Nat} (h : RefAt w r q L) (i v : Nat) (hw : w' = w.setCell ⟨q, i, none⟩ (.int .i64 (v : Nat))) : RefAt w' r q (L.set i v) := by
  subst hw
  exact ⟨by rw [List.length_set]; exact h.hd.off h.ne _, (h.tl.set_ i _).sub (ints_set L i v), h.ne⟩
theorem RefAt.d0 {w : World} {r q : Nat} {L : List Nat} (h : RefAt w r q L) : w.cell? ⟨r, 0, none⟩ = some (.slice (some ⟨q, 0, none⟩) L.length L.length) := h.hd.at_ 0 rfl
theorem RefAt.at_ {w : World} {r q : Nat} {L : List Nat} (h : RefAt w r q L) (i : Nat) (hi : i < L.length) : w.cell? ⟨q, i, none⟩ = some (.int .i64 (L.getD i 0 : Nat)) := Blk.at_ h.tl i (ints_at L i hi)
theorem ris_any (L : List Nat) (hl : L.length ≤ 512) (r q : Nat) (b : Int) (hb1 : -9223372036854775808 ≤ b) (hb2 : b ≤ 9223372036854775807) (w : World) (h : RefAt w r q L) :
    Calls Tryd.prog 41 #[.pointer (some ⟨r, 0, none⟩), .int .i64 b] w fun e w' => e = .returned (.int .i64 (isAt L b)) ∧ w = w' := by
  have d0 := h.d0
  by_cases c : 1 ≤ b ∧ b ≤ L.length
  · have e : isAt L b = ((L.getD (b - 1).toNat 0 : Nat) : Int) := by unfold isAt; rw [if_pos c]
    obtain ⟨k, rfl⟩ : ∃ k : Nat, b = (k : Int) + 1 := ⟨(b - 1).toNat, by omega⟩
    rw [show ((k : Int) + 1 - 1).toNat = k by omega] at e
    rw [e]
    have d1 := h.at_ k (by omega)
    generalize L.getD k 0 = x at d1 ⊢
    have hk : (k : Int) < L.length := by omega
    clear e c hb1 hb2
    go_enter Tryd.func41, Tryd.ntmps41
    go_wp2
    go_ret
    exact ⟨rfl, rfl⟩
  · have e : isAt L b = -1 := by unfold isAt; rw [if_neg c]
    rw [e]
    by_cases c1 : b < 1
    · clear e c
      go_enter Tryd.func41, Tryd.ntmps41
      go_wp2
      go_ret
      exact ⟨rfl, rfl⟩
    · have c2 : (L.length : Int) < b := by omega
      clear e c
      go_enter Tryd.func41, Tryd.ntmps41
      go_wp2
      go_ret
      exact ⟨rfl, rfl⟩
/-- Only the list's block turns. -/
theorem rchange_any (L : List Nat) (hl : L.length ≤ 512) (r q : Nat) (b : Int) (was is : Nat) (hb1 : -9223372036854775808 ≤ b) (hb2 : b ≤ 9223372036854775807) (w : World) (h : RefAt w r q L) :
    Calls Tryd.prog 44 #[.pointer (some ⟨r, 0, none⟩), .int .i64 b, .int .i64 (was : Int), .int .i64 (is : Int)] w fun e w' => e = .returned (.int .i64 (turnCode L b was)) ∧ RefAt w' r q (turnL L b was is) ∧ Upd q w w' := by
  have d0 := h.d0
  by_cases c : 1 ≤ b ∧ b ≤ L.length
  · obtain ⟨k, rfl⟩ : ∃ k : Nat, b = (k : Int) + 1 := ⟨(b - 1).toNat, by omega⟩
    have ek : ((k : Int) + 1 - 1).toNat = k := by omega
    have d1 := h.at_ k (by omega)
    have f1 := h.tl.frozen k
    have hk : (k : Int) < L.length := by omega
    by_cases c2 : L.getD k 0 = was
    · have e1 : turnCode L ((k : Int) + 1) was = 0 := by unfold turnCode; rw [if_pos c, ek, if_pos c2]
      have e2 : turnL L ((k : Int) + 1) was is = L.set k is := by unfold turnL; rw [ek, if_pos ⟨c.1, c.2, c2⟩]
      rw [e1, e2]
      rw [c2] at d1
      have hs := h.set_ k is rfl
      have hu := (Upd.refl q w).set k (.int .i64 (is : Int))
      have H := Lib.hid (And.intro hs hu)
      have hne : ((was : Int) != was) = false := by simp
      clear e1 e2 c2 c h hs hu ek hb1 hb2
      go_enter Tryd.func44, Tryd.ntmps44
      go_wp2
      go_ret
      exact ⟨rfl, H.out.1, H.out.2⟩
    · have e1 : turnCode L ((k : Int) + 1) was = 9 := by unfold turnCode; rw [if_pos c, ek, if_neg c2]
      have e2 : turnL L ((k : Int) + 1) was is = L := by unfold turnL; rw [ek, if_neg (fun h => c2 h.2.2)]
      rw [e1, e2]
      generalize L.getD k 0 = x at d1 c2
      have hne : ((x : Int) != was) = true := by simp; omega
      have H := Lib.hid h
      clear e1 e2 c c2 h ek hb1 hb2
      go_enter Tryd.func44, Tryd.ntmps44
      go_wp2
      go_ret
      exact ⟨rfl, H.out, Upd.refl _ _⟩
  · have e1 : turnCode L b was = 5 := by unfold turnCode; rw [if_neg c]
    have e2 : turnL L b was is = L := by unfold turnL; rw [if_neg (fun h => c ⟨h.1, h.2.1⟩)]
    rw [e1, e2]
    have H := Lib.hid h
    by_cases c1 : b < 1
    · clear e1 e2 c h
      go_enter Tryd.func44, Tryd.ntmps44
      go_wp2
      go_ret
      exact ⟨rfl, H.out, Upd.refl _ _⟩
    · have c2 : (L.length : Int) < b := by omega
      clear e1 e2 c h
      go_enter Tryd.func44, Tryd.ntmps44
      go_wp2
      go_ret
      exact ⟨rfl, H.out, Upd.refl _ _⟩
theorem rtake_any (L : List Nat) (hl : L.length ≤ 512) (r q : Nat) (b : Int) (hb1 : -9223372036854775808 ≤ b) (hb2 : b ≤ 9223372036854775807) (w : World) (h : RefAt w r q L) :
    Calls Tryd.prog 38 #[.pointer (some ⟨r, 0, none⟩), .int .i64 b] w fun e w' => e = .returned (.int .i64 (turnCode L b 0)) ∧ RefAt w' r q (turnL L b 0 1) ∧ Upd q w w' := by
  have ht := rchange_any L hl r q b 0 1 hb1 hb2 w h
  go_enter Tryd.func38, Tryd.ntmps38
  go_wp2_with fail
  refine ht.mono ?_
  rintro e w1 ⟨rfl, h3, hu⟩
  go_wp2
  go_ret
  exact ⟨rfl, h3, hu⟩
theorem rrelease_any (L : List Nat) (hl : L.length ≤ 512) (r q : Nat) (b : Int) (hb1 : -9223372036854775808 ≤ b) (hb2 : b ≤ 9223372036854775807) (w : World) (h : RefAt w r q L) :
    Calls Tryd.prog 39 #[.pointer (some ⟨r, 0, none⟩), .int .i64 b] w fun e w' => e = .returned (.int .i64 (turnCode L b 1)) ∧ RefAt w' r q (turnL L b 1 2) ∧ Upd q w w' := by
  have ht := rchange_any L hl r q b 1 2 hb1 hb2 w h
  go_enter Tryd.func39, Tryd.ntmps39
  go_wp2_with fail
  refine ht.mono ?_
  rintro e w1 ⟨rfl, h3, hu⟩
  go_wp2
  go_ret
  exact ⟨rfl, h3, hu⟩
/-- Ahead of each block: none behind is free. -/
def RAcq (L : List Nat) (v : Value) : Prop := ∃ k : Nat, k ≤ L.length ∧ v = .int .i64 (k : Int) ∧ ∀ i, i < k → L.getD i 0 ≠ 0
theorem racquire_any (L : List Nat) (hl : L.length ≤ 512) (r q : Nat) (w : World) (h : RefAt w r q L) :
    Calls Tryd.prog 37 #[.pointer (some ⟨r, 0, none⟩)] w fun e w' => e = .returned (.tuple #[.int .i64 (acqN L), .int .i64 (acqE L)]) ∧ RefAt w' r q (acqL L) ∧ Upd q w w' := by
  have d0 := h.d0
  have H := Lib.hid h
  clear h
  go_enter Tryd.func37, Tryd.ntmps37
  go_wp2
  go_loop [4] (fun v => RAcq L v) (fun v => L.length - (intOf v).toNat)
  case atStart => exact ⟨0, by omega, rfl, fun i hi => by omega⟩
  case round =>
    obtain ⟨k, hk, rfl, hfull⟩ := hrel
    by_cases hkl : k < L.length
    · have d1 := H.out.at_ k hkl
      have f1 := H.out.tl.frozen k
      by_cases hz : L.getD k 0 = 0
      · have hfr : fr L = k := fr_is hkl hz hfull
        have e1 : acqN L = (k : Int) + 1 := by unfold acqN; rw [hfr, if_pos hkl]
        have e2 : acqE L = 0 := by unfold acqE; rw [hfr, if_pos hkl]
        have e3 : acqL L = L.set k 1 := by unfold acqL; rw [hfr, if_pos hkl]
        have E := Lib.hid (And.intro e1 (And.intro e2 e3))
        rw [hz] at d1
        clear e1 e2 e3 hfr hfull hz
        go_wp2
        go_ret2
        exact ⟨by rw [E.out.1, E.out.2.1]; rfl, by rw [E.out.2.2]; exact H.out.set_ k 1 rfl, (Upd.refl q w).set k (.int .i64 (1 : Int))⟩
      · have hf2 : ∀ i, i < k + 1 → L.getD i 0 ≠ 0 := fun i hi => by
          by_cases e : i = k
          · subst e; exact hz
          · exact hfull i (by omega)
        have HF := Lib.hid hf2
        generalize L.getD k 0 = x at d1 hz
        have hx : ((x : Int) == 0) = false := by simp; omega
        clear hf2 hfull hz
        go_wp2
        go_round
        case rel => exact ⟨k + 1, by omega, by go_num, HF.out⟩
        case measure => simp [intOf]; omega
    · obtain rfl : k = L.length := by omega
      have hfr : fr L = L.length := fr_full hfull
      have e1 : acqN L = 0 := by unfold acqN; rw [hfr, if_neg (by omega)]
      have e2 : acqE L = 8 := by unfold acqE; rw [hfr, if_neg (by omega)]
      have e3 : acqL L = L := by unfold acqL; rw [hfr, if_neg (by omega)]
      have E := Lib.hid (And.intro e1 (And.intro e2 e3))
      clear e1 e2 e3 hfr hfull
      go_wp2
      go_ret2
      exact ⟨by rw [E.out.1, E.out.2.1]; rfl, by rw [E.out.2.2]; exact H.out, Upd.refl _ _⟩
end Go.Proofs.YtkjcidbhepminaaDoor
