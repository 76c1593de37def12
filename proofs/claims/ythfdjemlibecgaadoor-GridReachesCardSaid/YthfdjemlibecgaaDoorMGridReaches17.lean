/- The chapter's grid with a byte of a block turned: what is answered then. Plain facts. No condition. -/
import Derived.Test.YthfdjemlibecgaaDoorMGridReaches16
import Derived.Test.YthfdjemlibecgaaDoorProg
import Derived.Laws.EntriesVeiled
namespace Go.Proofs.YthfdjemlibecgaaDoor
open Go.RowKit
def gb1Rest : List UInt8 := GB.rest gb1
def gb1Sum : List UInt8 := [147, 66, 73, 135, 13, 230, 99, 145, 241, 150, 89, 157, 144, 241, 97, 235]
def gb1Bad : List UInt8 := [38, 63, 236, 137, 192, 229, 37, 116, 55, 79, 25, 113, 220, 204, 142, 76]
theorem gb1Rest_length : gb1Rest.length = 1008 := by decide +kernel
theorem gb1Sum_eq : Sha.sum gb1Rest = gb1Sum := by
  refine ShaN.toNat_inj ?_
  rw [ShaN.sumN_eq gb1Rest 16 (by decide +kernel), gb1Rest_length]
  decide +kernel
theorem gb1Bad_eq : Sha.sum (gb1Rest.set 24 1) = gb1Bad := by
  refine ShaN.toNat_inj ?_
  have hl : (gb1Rest.set 24 1).length = 1008 := by rw [List.length_set, gb1Rest_length]
  rw [ShaN.sumN_eq (gb1Rest.set 24 1) 16 (by rw [hl]; decide +kernel), hl]
  decide +kernel
theorem gb1_turned : (GB.read (flip (GB.bytes gb1) 40 1)).1 ≠ 0 := by
  have hb : GB.bytes gb1 = gb1Sum ++ gb1Rest := by unfold GB.bytes; rw [show GB.rest gb1 = gb1Rest from rfl, gb1Sum_eq]
  have hz : (gb1Sum ++ gb1Rest).getD 40 0 = 0 := by decide +kernel
  have e : flip (GB.bytes gb1) 40 1 = gb1Sum ++ gb1Rest.set 24 1 := by
    unfold flip
    rw [hb, hz, List.set_append_right _ _ (by decide)]; rfl
  have h1 : (gb1Sum ++ gb1Rest.set 24 1).drop 16 = gb1Rest.set 24 1 := rfl
  have h2 : (gb1Sum ++ gb1Rest.set 24 1).take 16 = gb1Sum := rfl
  have hl : (gb1Sum ++ gb1Rest.set 24 1).length = 1024 := by rw [List.length_append, List.length_set, gb1Rest_length]; rfl
  unfold GB.read
  rw [e, if_neg (by rw [hl]; simp), h1, h2, gb1Bad_eq, if_pos (by decide)]
  decide
theorem look_two {d : Dsk} (h : Two d) {W : List RefT} : glook ⟨4, [1, 1, 0, 0], W⟩ d none (2, 7, ()) = (0, some gb2, ⟨4, [1, 1, 0, 0], W⟩) := by
  have ht : gthere d (2, 7, ()) = some gb2 := gthere_some (b := gb2) (by decide) h.two
  unfold glook
  rw [if_neg (by unfold Dsk.isOut; rw [h.rm.out]; simp), if_neg (by show ¬ (Grd.of ⟨4, [], []⟩ (2, 7, ()) = false); decide), ht]
/-- The disk with the byte turned. -/
structure Two' (d : Dsk) : Prop where
  rm : Rm d 4
  one : (GB.read (gblk d 1)).1 ≠ 0
  two : gblk d 2 = GB.bytes gb2
  n120 : d.N = 120
theorem two_turn {d : Dsk} (h : Two d) : ∃ d', d.turn 104 40 1 = (0, d') ∧ d'.N = d.N ∧ Two' d' := by
  obtain ⟨d', e1, e2, e3, e4, e5⟩ := gturn h.rm (a := 1) (by omega) (by omega) (i := 40) (by omega) 1
  exact ⟨d', e1, e3, e2, by rw [e4, h.one]; exact gb1_turned, (e5 2 (by omega) (by omega) (by omega)).trans h.two, e3.trans h.n120⟩
def g44 : Grd := ⟨4, [1, 1, 0, 0], [(1, 8, ()), (1, 7, ())]⟩
theorem reach_one {d : Dsk} (h : Two' d) : greach g43 d none (2, 7, ()) = (0, [(1, 7, ())], g44) := by
  have t2 : gthere d (2, 7, ()) = some gb2 := gthere_some (b := gb2) (by decide) h.two
  have t1 : gthere d (1, 7, ()) = none := gthere_bad h.one
  have k2 : gkids g43 d (2, 7, ()) = [(1, 7, ())] := by unfold gkids; rw [if_pos (by decide), t2]; rfl
  have k1 : gkids g43 d (1, 7, ()) = [] := by unfold gkids; rw [if_pos (by decide), t1]
  have o2 : gok g43 d (2, 7, ()) = true := by unfold gok; rw [t2]; decide
  have o1 : gok g43 d (1, 7, ()) = false := by unfold gok; rw [t1]; decide
  have hw : gwalk g43 d (2, 7, ()) = [(2, 7, ()), (1, 7, ())] := by
    unfold gwalk gnum
    rw [show 16 * g43.n + 2 = 64 + 1 + 1 from rfl, dfs_new (by simp), k2, dfss_cons, dfss_nil, dfs_new (by decide), k1, dfss_nil]
    rfl
  have hm : gmiss g43 d (2, 7, ()) = [(1, 7, ())] := by
    unfold gmiss
    rw [hw]
    simp [o1, o2]
  unfold greach
  rw [if_neg (by unfold Dsk.isOut; rw [h.rm.out]; simp), if_neg (by decide), hm]
  rfl
theorem inst_one {d : Dsk} (h : Two' d) : ∃ d', ginst g44 d none (1, 7, ()) (GB.bytes gb1) = (0, g43, d', none) ∧ Two d' := by
  obtain ⟨d', e1, e2, e3, e4, e5⟩ := gwrite h.rm (a := 1) (by omega) (by omega) (b := GB.bytes gb1) (GB.bytes_length gb1 (by decide) (by decide))
  refine ⟨d', ?_, e2, e4, (e5 2 (by omega) (by omega) (by omega)).trans h.two, e3.trans h.n120⟩
  unfold ginst
  rw [if_neg (by unfold Dsk.isOut; rw [h.rm.out]; simp), if_neg (by decide), GB.read_bytes gb1 (by decide), if_neg (by simp), if_neg (by decide), e1]
  rw [if_neg (by simp)]
  rfl
theorem reach_all {d : Dsk} (h : Two d) : greach g43 d none (2, 7, ()) = (0, [], g43) := by
  have t2 : gthere d (2, 7, ()) = some gb2 := gthere_some (b := gb2) (by decide) h.two
  have t1 : gthere d (1, 7, ()) = some gb1 := gthere_some (b := gb1) (by decide) h.one
  have k2 : gkids g43 d (2, 7, ()) = [(1, 7, ())] := by unfold gkids; rw [if_pos (by decide), t2]; rfl
  have k1 : gkids g43 d (1, 7, ()) = [] := by unfold gkids; rw [if_pos (by decide), t1]; rfl
  have o2 : gok g43 d (2, 7, ()) = true := by unfold gok; rw [t2]; decide
  have o1 : gok g43 d (1, 7, ()) = true := by unfold gok; rw [t1]; decide
  have hw : gwalk g43 d (2, 7, ()) = [(2, 7, ()), (1, 7, ())] := by
    unfold gwalk gnum
    rw [show 16 * g43.n + 2 = 64 + 1 + 1 from rfl, dfs_new (by simp), k2, dfss_cons, dfss_nil, dfs_new (by decide), k1, dfss_nil]
    rfl
  have hm : gmiss g43 d (2, 7, ()) = [] := by
    unfold gmiss
    rw [hw]
    simp [o1, o2]
  unfold greach
  rw [if_neg (by unfold Dsk.isOut; rw [h.rm.out]; simp), if_neg (by decide), hm]
  rfl
theorem inst_other {d : Dsk} (h : Two d) : ginst g43 d none (1, 7, ()) (GB.bytes gb2) = (2, g43, d, none) := by
  unfold ginst
  rw [if_neg (by unfold Dsk.isOut; rw [h.rm.out]; simp), if_neg (by decide), GB.read_bytes gb2 (by decide), if_neg (by simp), if_pos (by decide)]
theorem inst_short {d : Dsk} (h : Two d) : ginst g43 d none (1, 7, ()) [1, 2, 3] = (4, g43, d, none) := by
  have hr : GB.read [1, 2, 3] = (4, GB.none_) := by unfold GB.read; rw [if_pos (by decide)]
  unfold ginst
  rw [if_neg (by unfold Dsk.isOut; rw [h.rm.out]; simp), if_neg (by decide), hr, if_pos (by simp)]
end Go.Proofs.YthfdjemlibecgaaDoor

/- A chain of blocks, each of which names the one ahead of it; which of them are turned. Plain facts. No condition. -/
namespace Go.Proofs.YthfdjemlibecgaaDoor
open Go.RowKit
def ck (i : Nat) : RefT := ((i : Int) + 1, (i : Int), ())
def cnames (i : Nat) : List RefT := if i = 0 then [] else [ck (i - 1)]
def cb (i : Nat) : GBT := (1, ck i, cnames i, [UInt8.ofNat i], ())
theorem cb_ok {i : Nat} (h : i < 10) : GB.ok (cb i) = true := by
  have key : ∀ j : Fin 10, GB.ok (cb j.1) = true := by decide
  exact key ⟨i, h⟩
theorem cb_ok1 {i : Nat} (h : i < 10) : GB.ok (1, (1, (i : Int), ()), cnames i, [UInt8.ofNat i], ()) = true := by
  have key : ∀ j : Fin 10, GB.ok (1, (1, ((j.1 : Nat) : Int), ()), cnames j.1, [UInt8.ofNat j.1], ()) = true := by decide
  exact key ⟨i, h⟩
theorem cb_length {i : Nat} (h : i < 10) : (GB.bytes (cb i)).length = 1024 := GB.bytes_length (cb i) (GB.ok_spec (cb_ok h)).2.2.1 (GB.ok_spec (cb_ok h)).2.2.2.1
def cL (n i : Nat) : List Nat := List.replicate i 1 ++ List.replicate (n - i) 0
theorem cL_acq {n i : Nat} (h : i < n) (hn : n ≤ 10) : acqN (cL n i) = (i : Int) + 1 ∧ acqE (cL n i) = 0 ∧ acqL (cL n i) = cL n (i + 1) := by
  have key : ∀ m : Fin 11, ∀ j : Fin 11, j.1 < m.1 → acqN (cL m.1 j.1) = ((j.1 : Nat) : Int) + 1 ∧ acqE (cL m.1 j.1) = 0 ∧ acqL (cL m.1 j.1) = cL m.1 (j.1 + 1) := by decide
  exact key ⟨n, by omega⟩ ⟨i, by omega⟩ h
theorem cL_ok {n i : Nat} (h : i ≤ n) (hn : n ≤ 10) : SetOk (cL n i) ∧ (cL n i).length = n := by
  have hl : (cL n i).length = n := by unfold cL; simp; omega
  refine ⟨⟨by omega, fun k => ?_⟩, hl⟩
  unfold cL
  rw [List.getD_eq_getElem?_getD, List.getElem?_append]
  split
  · rw [List.getElem?_replicate]; split <;> simp
  · rw [List.getElem?_replicate]; split <;> simp
/-- Some blocks have been written; some of them are turned. -/
structure Chain (n m : Nat) (bad : Nat → Bool) (d : Dsk) : Prop where
  rm : Rm d n
  blk : ∀ j, j < m → gblk d ((j : Int) + 1) = if bad j = true then flip (GB.bytes (cb j)) 3 1 else GB.bytes (cb j)
theorem chain_new {n : Nat} (h1 : 1 ≤ n) (h2 : n ≤ 10) : Chain n 0 (fun _ => false) (Dsk.new (104 + 4 * n)) := ⟨⟨Dsk.Ok.new (by omega), rfl, Nat.le_refl _⟩, fun j hj => by omega⟩
theorem chain_write {n i : Nat} {d : Dsk} (h : Chain n i (fun _ => false) d) (hi : i < n) (hn : n ≤ 10) : ∃ d', gput ⟨n, cL n i, []⟩ d none 1 (cnames i) [UInt8.ofNat i] (i : Int) = ((0, ck i), ⟨n, cL n (i + 1), []⟩, d', none) ∧ Chain n (i + 1) (fun _ => false) d' ∧ d'.N = d.N := by
  obtain ⟨k1, k2, k3⟩ := cL_acq hi hn
  obtain ⟨k4, k5⟩ := cL_ok (Nat.le_of_lt hi) hn
  obtain ⟨d', e1, e2, e3, e4, e5⟩ := gput_ok (g := ⟨n, cL n i, []⟩) (k := 1) (s := (i : Int)) (l := cnames i) (m := [UInt8.ofNat i]) h.rm k5 k4 (cb_ok1 (by omega)) k2
  simp only [k1, k3] at e1 e4 e5
  refine ⟨d', e1, ⟨e2, fun j hj => ?_⟩, e3⟩
  rw [if_neg (by simp)]
  by_cases hji : j = i
  · subst hji; exact e4
  · have := h.blk j (by omega)
    rw [if_neg (by simp)] at this
    rw [e5 ((j : Int) + 1) (by omega) (by show (j : Int) + 1 ≤ (n : Int); omega) (by omega)]
    exact this
theorem cturned {i : Nat} (h : i < 10) : (GB.read (flip (GB.bytes (cb i)) 3 1)).1 ≠ 0 := by
  have hb : GB.bytes (cb i) = Sha.sum (GB.rest (cb i)) ++ GB.rest (cb i) := rfl
  have hs : (Sha.sum (GB.rest (cb i))).length = 16 := Sha.sum_length _
  have hl := cb_length h
  have e1 : (flip (GB.bytes (cb i)) 3 1).drop 16 = GB.rest (cb i) := by
    unfold flip
    rw [hb, List.set_append_left _ _ (by rw [hs]; decide), List.drop_left' (by rw [List.length_set, hs])]
  have e2 : (flip (GB.bytes (cb i)) 3 1).take 16 = flip (Sha.sum (GB.rest (cb i))) 3 1 := by
    unfold flip
    rw [hb, List.set_append_left _ _ (by rw [hs]; decide), List.take_left' (by rw [List.length_set, hs])]
    congr 2
  unfold GB.read
  rw [if_neg (by rw [flip_length, hl]; simp), e1, e2, if_pos (fun e => flip_ne (b := Sha.sum (GB.rest (cb i))) (i := 3) (by rw [hs]; decide) e.symm)]
  decide
theorem chain_there {n : Nat} {bad : Nat → Bool} {d : Dsk} (h : Chain n n bad d) (hn : n ≤ 10) {j : Nat} (hj : j < n) : gthere d (ck j) = if bad j = true then none else some (cb j) := by
  have hb := h.blk j hj
  split
  · rename_i hbad
    rw [if_pos hbad] at hb
    exact gthere_bad (by rw [show (ck j).1 = (j : Int) + 1 from rfl, hb]; exact cturned (by omega))
  · rename_i hbad
    rw [if_neg hbad] at hb
    exact gthere_some (b := cb j) (cb_ok (by omega)) hb
theorem ck_of {n j : Nat} (hj : j < n) (hn : n ≤ 10) (L : List Nat) (W : List RefT) : Grd.of ⟨n, L, W⟩ (ck j) = true := by
  unfold Grd.of ck
  simp only [Bool.and_eq_true, decide_eq_true_eq]
  omega
/-- The first one from a block on that is not there. -/
def fb (bad : Nat → Bool) : Nat → List RefT
  | 0 => if bad 0 = true then [ck 0] else []
  | j + 1 => if bad (j + 1) = true then [ck (j + 1)] else fb bad j
theorem fb_none {bad : Nat → Bool} : ∀ j, (∀ k, k ≤ j → bad k = false) → fb bad j = []
  | 0, h => by unfold fb; rw [if_neg (by rw [h 0 (Nat.le_refl _)]; simp)]
  | j + 1, h => by unfold fb; rw [if_neg (by rw [h (j + 1) (Nat.le_refl _)]; simp)]; exact fb_none j fun k hk => h k (by omega)
theorem fb_top {bad : Nat → Bool} {i : Nat} (hb : bad i = true) : ∀ j, i ≤ j → (∀ k, i < k → k ≤ j → bad k = false) → fb bad j = [ck i]
  | 0, hi, _ => by obtain rfl : i = 0 := by omega
                   unfold fb; rw [if_pos hb]
  | j + 1, hi, h => by
    by_cases e : i = j + 1
    · subst e; unfold fb; rw [if_pos hb]
    · unfold fb; rw [if_neg (by rw [h (j + 1) (by omega) (Nat.le_refl _)]; simp)]
      exact fb_top hb j (by omega) fun k h1 h2 => h k h1 (by omega)
theorem chain_walk {n : Nat} {bad : Nat → Bool} {d : Dsk} (h : Chain n n bad d) (hn : n ≤ 10) (L : List Nat) (W : List RefT) : ∀ (j m : Nat) (S : List RefT), j < m → j < n → (∀ x ∈ S, (j : Int) + 1 < x.1) →
    (dfs (gkids ⟨n, L, W⟩ d) m S (ck j)).1.filter (fun r => !gok ⟨n, L, W⟩ d r) = fb bad j := by
  intro j
  induction j with
  | zero =>
    intro m S hm hj hS
    obtain ⟨m, rfl⟩ : ∃ m', m = m' + 1 := ⟨m - 1, by omega⟩
    have hth := chain_there h hn hj
    have hof := ck_of hj hn L W
    rw [dfs_new (fun hx => by have := hS _ hx; unfold ck at this; simp at this)]
    have hk : gkids ⟨n, L, W⟩ d (ck 0) = [] := by
      unfold gkids; rw [if_pos hof, hth]
      cases bad 0 <;> rfl
    have ho : gok ⟨n, L, W⟩ d (ck 0) = !bad 0 := by
      unfold gok; rw [hof, hth]
      cases bad 0 <;> rfl
    rw [hk, dfss_nil]
    unfold fb
    simp only [List.filter_cons, ho, List.filter_nil]
    cases bad 0 <;> rfl
  | succ j ih =>
    intro m S hm hj hS
    obtain ⟨m, rfl⟩ : ∃ m', m = m' + 1 := ⟨m - 1, by omega⟩
    have hth := chain_there h hn hj
    have hof := ck_of hj hn L W
    rw [dfs_new (fun hx => by have := hS _ hx; unfold ck at this; simp at this)]
    have ho : gok ⟨n, L, W⟩ d (ck (j + 1)) = !bad (j + 1) := by
      unfold gok; rw [hof, hth]
      cases bad (j + 1) <;> rfl
    cases hb : bad (j + 1) with
    | true =>
      have hk : gkids ⟨n, L, W⟩ d (ck (j + 1)) = [] := by unfold gkids; rw [if_pos hof, hth, hb]; rfl
      rw [hk, dfss_nil]
      unfold fb
      simp only [List.filter_cons, ho, hb, List.filter_nil]
      rfl
    | false =>
      have hk : gkids ⟨n, L, W⟩ d (ck (j + 1)) = [ck j] := by unfold gkids; rw [if_pos hof, hth, hb]; rfl
      rw [hk, dfss_cons, dfss_nil]
      have h2 := ih m (S ++ [ck (j + 1)]) (by omega) (by omega) (fun x hx => by
        rcases List.mem_append.1 hx with hx | hx
        · have := hS x hx; omega
        · rw [List.mem_singleton.1 hx]; unfold ck; simp only; omega)
      unfold fb
      rw [if_neg (by rw [hb]; simp)]
      simp only [List.filter_append, List.filter_cons, ho, hb, List.filter_nil]
      rw [h2]
      rfl
theorem chain_reach {n : Nat} {bad : Nat → Bool} {d : Dsk} (h : Chain n n bad d) (h1 : 1 ≤ n) (hn : n ≤ 10) (L : List Nat) : greach ⟨n, L, []⟩ d none (ck (n - 1)) = (0, fb bad (n - 1), Grd.wants ⟨n, L, []⟩ (fb bad (n - 1))) := by
  have hm : gmiss ⟨n, L, []⟩ d (ck (n - 1)) = fb bad (n - 1) := chain_walk h hn L [] (n - 1) (gnum ⟨n, L, []⟩) [] (by unfold gnum; simp only; omega) (by omega) (fun x hx => absurd hx List.not_mem_nil)
  unfold greach
  rw [if_neg (by unfold Dsk.isOut; rw [h.rm.out]; simp), if_neg (by rw [ck_of (by omega) hn]; simp), hm]
theorem chain_want {n i : Nat} (hi : i < n) (hn : n ≤ 10) (L : List Nat) : Grd.wants ⟨n, L, []⟩ [ck i] = ⟨n, L, [ck i]⟩ := by
  unfold Grd.wants
  rw [List.foldl_cons, List.foldl_nil, if_pos (ck_of hi hn L [])]
  rfl
theorem chain_turn {n k : Nat} {bad : Nat → Bool} {d : Dsk} (h : Chain n n bad d) (hk : k < n) (hb : bad k = false) : ∃ d', d.turn (104 + 4 * (((k : Int) + 1) - 1)) 3 1 = (0, d') ∧ d'.N = d.N ∧ Chain n n (fun j => bad j || decide (j = k)) d' := by
  obtain ⟨d', e1, e2, e3, e4, e5⟩ := gturn h.rm (a := (k : Int) + 1) (by omega) (by omega) (i := 3) (by omega) 1
  refine ⟨d', ?_, e3, e2, fun j hj => ?_⟩
  · have : gplace ((k : Int) + 1) + ((3 / 256 : Nat) : Int) = 104 + 4 * (((k : Int) + 1) - 1) := by unfold gplace; simp
    rw [this] at e1; exact e1
  · by_cases hjk : j = k
    · subst hjk
      have := h.blk j hj
      rw [if_neg (by rw [hb]; simp)] at this
      rw [e4, this, if_pos (by simp)]
    · rw [e5 ((j : Int) + 1) (by omega) (by omega) (by omega), h.blk j hj]
      simp [hjk]
theorem chain_install {n i : Nat} {bad : Nat → Bool} {d : Dsk} (h : Chain n n bad d) (hi : i < n) (hn : n ≤ 10) (L : List Nat) : ∃ d', ginst ⟨n, L, [ck i]⟩ d none (ck i) (GB.bytes (cb i)) = (0, ⟨n, L, []⟩, d', none) ∧ Chain n n (fun j => bad j && decide (j ≠ i)) d' := by
  obtain ⟨d', e1, e2, e3, e4, e5⟩ := gwrite h.rm (a := (i : Int) + 1) (by omega) (by omega) (b := GB.bytes (cb i)) (cb_length (by omega))
  refine ⟨d', ?_, e2, fun j hj => ?_⟩
  · unfold ginst
    rw [if_neg (by unfold Dsk.isOut; rw [h.rm.out]; simp), if_neg (by rw [ck_of hi hn]; simp), GB.read_bytes (cb i) (cb_ok (by omega)), if_neg (by simp), if_neg (by simp [cb])]
    rw [show (ck i).1 = (i : Int) + 1 from rfl, e1, if_neg (by simp)]
    simp
  · by_cases hji : j = i
    · subst hji; rw [e4]; simp
    · rw [e5 ((j : Int) + 1) (by omega) (by omega) (by omega), h.blk j hj]
      simp [hji]
end Go.Proofs.YthfdjemlibecgaaDoor

/- A walk is stopped in an arm, and goes on in the open. Plain facts. No condition. -/
namespace Go.Proofs.YthfdjemlibecgaaDoor
structure Stopped (p : Prop) : Prop where
  go : p
theorem stopped {p : Prop} (h : Stopped p) : p := h.go
end Go.Proofs.YthfdjemlibecgaaDoor

/- The grid's reached as a row of items. Conditions: the caller keeps the grid and the two boxes. -/
namespace Go.Proofs.YthfdjemlibecgaaDoor
open Go.RowKit
attribute [local go_sem] Oper.semAt_some
set_option maxRecDepth 100000 in
set_option maxHeartbeats 4000000 in
theorem reached_row (m : Nat) (hm : 1 ≤ m) (gg b0 b1 : Nat) (g : Grd) (d : Dsk) (root : RefT) (items : Nat → RefT)
    (hit : ∀ i x, (gwalk g d root)[i]? = some x → items i = x) (I : Nat → List Nat → World → Prop) (hI : ∀ k X W, I k X W → GAt gg b0 g d W ∧ Blk W b1 23 #[.int .i64 root.1, .int .i64 root.2.1]) :
    RowOfY Fence.wide m Tryd.prog 144 #[.pointer (some ⟨b0, 0, none⟩), .pointer (some ⟨b1, 0, none⟩)] (encR g d items) I (gwalk g d root).length := by
  intro l J Jx X W hJI hJX hJb hJxb hY hJ0
  refine callsIn_of_wp Tryd.func144 rfl trivial ?_ rfl
  simp only [Tryd.ntmps144, List.size_toArray, List.length_cons, List.length_nil, Nat.reduceAdd, Nat.reduceSub, Array.replicate_succ, Array.replicate_zero, List.push_toArray, List.append_toArray, List.nil_append, List.cons_append]
  obtain ⟨⟨hb0, -⟩, hb1⟩ := hI 0 X W (hJI 0 X W hJ0)
  have H0 := Lib.hid (And.intro hb0 (And.intro hb1 (And.intro hJ0 (hJX _ _ _ hJ0))))
  clear hb0 hb1 hJ0
  gi_wp2_with (first
    | ((with_reducible show wpListIn _ _ _ _ _ ((⟨some 6, _, _, _, _, _⟩ : Oper) :: _) _ _); refine wpListIn_of (by rfl) ?_; refine wpList_make_map (o := ⟨some 6, _, _, _, _, _⟩) _ (by rfl) _ (by rfl) ?_; intro w2 hm2 hb2 hs2; refine stopped ?_)
    | fail)
  refine Stopped.mk ?_
  have hz1 : w2.heap.size = W.heap.size + 1 + 1 := by simpa using hs2
  have hm2' : MapB w2 (W.heap.size + 1) #[] 0 := by simpa using hm2
  have hy2 := (Blk.new W 200 #[.func (.yield l) #[] #[]]).below hb2 (Blk.new W 200 #[.func (.yield l) #[] #[]]).lt
  have hB2 := ((Below.refl W.heap.size W).alloc (Nat.le_refl _) (.cells #[.func (.yield l) #[] #[]] 200)).trans (hb2.mono (by simp))
  have hx4 := ((Below.refl w2.heap.size w2).alloc (Nat.le_refl _) (.cells #[.map (some (W.heap.size + 1))] 93)).alloc (by simp) (.cells #[.func (.func 145) #[] #[.pointer (some ⟨w2.heap.size, 0, none⟩), .pointer (some ⟨b0, 0, none⟩), .pointer (some ⟨W.heap.size, 0, none⟩), .pointer (some ⟨w2.heap.size + 1, 0, none⟩)]] 40)
  have hs4 := (Blk.new w2 93 #[.map (some (W.heap.size + 1))]).alloc (.cells #[.func (.func 145) #[] #[.pointer (some ⟨w2.heap.size, 0, none⟩), .pointer (some ⟨b0, 0, none⟩), .pointer (some ⟨W.heap.size, 0, none⟩), .pointer (some ⟨w2.heap.size + 1, 0, none⟩)]] 40)
  have hw4 := Blk.new' (w2.alloc (.cells #[.map (some (W.heap.size + 1))] 93)) 40 #[.func (.func 145) #[] #[.pointer (some ⟨w2.heap.size, 0, none⟩), .pointer (some ⟨b0, 0, none⟩), .pointer (some ⟨W.heap.size, 0, none⟩), .pointer (some ⟨w2.heap.size + 1, 0, none⟩)]] (n := w2.heap.size + 1) (by simp)
  have hB4 := hB2.trans (hx4.mono hB2.size)
  have hb1X := H0.out.2.1.below hB4 H0.out.2.1.lt
  have HX := Lib.hid (And.intro hm2' (And.intro (hy2.below hx4 hy2.lt) (And.intro hs4 (And.intro hw4 (And.intro hB4 (And.intro hx4 hz1))))))
  clear hm2 hb2 hs2 hz1 hm2' hy2 hB2 hx4 hs4 hw4 hB4
  refine ⟨rfl, ?_⟩
  gi_wp2_with (first
    | ((with_reducible show wpListIn _ _ _ _ _ ((⟨some 9, _, _, _, _, _⟩ : Oper) :: _) _ _); refine wpListIn_of (by rfl) ?_; refine wpList_load_blk (o := ⟨some 9, _, _, _, _, _⟩) (hb1X) (by rfl) _ _ (by rfl) (by rfl) _ Tryd.underlying23 (by rfl) (size_ref) (by rfl) ?_; refine ⟨rfl, ?_⟩)
    | fail)
  generalize (w2.alloc (.cells #[.map (some (W.heap.size + 1))] 93)).alloc (.cells #[.func (.func 145) #[] #[.pointer (some ⟨w2.heap.size, 0, none⟩), .pointer (some ⟨b0, 0, none⟩), .pointer (some ⟨W.heap.size, 0, none⟩), .pointer (some ⟨w2.heap.size + 1, 0, none⟩)]] 40) = w4 at HX hb1X ⊢
  clear hb1X
  have hlt0 : ∀ x ∈ X, x < W.heap.size := H0.out.2.2.2
  have hz1 := HX.out.2.2.2.2.2.2
  have hFr : RFr ⟨W.heap.size + 1, w2.heap.size, b0, W.heap.size, w2.heap.size + 1, l, 200, 40⟩ gg [] w4 :=
    ⟨HX.out.2.2.1, H0.out.1.below HX.out.2.2.2.2.1 H0.out.1.lt, HX.out.2.1, HX.out.2.2.2.1, ⟨#[], 0, HX.out.1.below HX.out.2.2.2.2.2.1 HX.out.1.lt, rfl, by simp, by simp, by simp⟩⟩
  have hk := rwalk_in m hm W.heap.size gg (gwalk g d root).length ⟨W.heap.size + 1, w2.heap.size, b0, W.heap.size, w2.heap.size + 1, l, 200, 40⟩ g d items (gall g d root) (fun r _ x hx => gall_kids (r := r) x hx) J Jx
    (fun k X W h => (hI k X W (hJI _ _ _ h)).1) hJX hJb hY ⟨Nat.le_succ _, by show W.heap.size ≤ w2.heap.size; omega, Nat.le_refl _, by show W.heap.size ≤ w2.heap.size + 1; omega⟩ (gnum g) [] root 0 (List.mem_cons_self ..) (gnum_enough g d root)
    (fun i x hx => by rw [Nat.zero_add]; exact hit i x hx) (by rw [Nat.zero_add]; exact Nat.le_refl _) X w4 HX.out.2.2.2.2.1.size (hJb _ _ _ _ H0.out.2.2.1 (Kept.below HX.out.2.2.2.2.1)) hFr
    ⟨fun hm => by have := hlt0 _ hm; simp only at this; omega, fun hm => by have := hlt0 _ hm; simp only at this; omega, fun hm => by have := hlt0 _ hm; simp only at this; omega, fun hm => by have := hlt0 _ hm; simp only at this; omega⟩
  clear hlt0 hz1 hFr
  unfold RPl.frees at hk
  refine ⟨trivial, ?_⟩
  refine ((callsIn_wide (n := m - 1)).2 ((callsIn_wide (n := m)).1 hk)).mono ?_
  clear hk
  rintro e W9 (⟨rfl, X9, hJ9, -, -, -⟩ | ⟨rfl, hJx⟩)
  · gi_wp2
    go_end0
    exact ⟨⟨_, rfl⟩, .inl ⟨X9, by rw [Nat.zero_add] at hJ9; exact hJ9⟩⟩
  · gi_wp2
    go_end0
    exact ⟨⟨_, rfl⟩, .inr hJx⟩
end Go.Proofs.YthfdjemlibecgaaDoor

/- A region that draws its order, with calls, by a plan, in the round of a loop over a function. Plain facts over any program. No condition. -/
namespace Go
def Op.noDeferB : Op → Bool
  | .defer _ => false
  | _ => true
section
variable {P : Program} {ops : Array Oper} {md : Region.Mode} {l n : Nat}
theorem calls_round {f : FuncId} {args : Array Value} {w : World} {R : Ending → World → Prop} (h : Calls P f args w R) : CallsIn (Fence.wide.inRound l) n P f args w R := (callsIn_wide.2 h).inRound l
theorem rows_round {row : String} {args : Array Value} {w : World} {R : Value → World → Prop} (h : Rows P row args w R) : RowsIn (Fence.wide.inRound l) n P row args w R := fun c cs _ => by
  obtain ⟨v, w', r, s⟩ := h c cs
  exact ⟨v, w', r, stepsIn_wide.2 s⟩
theorem operIn_round {o : Oper} {a : Act} {w : World} {K K' : Act → World → Prop} {Q : Exit → Act → World → Prop} (hd : o.op.noDeferB = true) (hk : ∀ a w, K a w → K' a w) (h : o.wp P a w K (strict Q)) : o.wpIn (Fence.wide.inRound l) n P a w K' Q := by
  unfold Oper.wp at h
  refine ⟨fun _ _ => trivial, ?_⟩
  rw [Oper.semAt_eq _ _ _ fun c hc => by rw [hc] at hd; cases hd]
  generalize (execOp a.eval o).run P w = r at h
  cases r with
  | ok x w' =>
    cases x <;> first | exact hk _ _ h | exact h.elim | skip
    case enter f args =>
      refine ⟨fun hh => ?_, ?_⟩
      · simp [Fence.wide, Fence.inRound] at hh
      · refine (calls_round h).mono fun e w'' he => ?_
        cases e with
        | returned v => exact hk _ _ he
        | panicked c => exact he
        | outgrown =>
          obtain ⟨_, _, hq⟩ := he
          exact hq.elim
    case row row args =>
      refine ⟨fun hh => ?_, ?_⟩
      · simp [Fence.wide, Fence.inRound] at hh
      · exact RowsIn.mono (rows_round h) fun v w'' he => hk _ _ he
  | halt x w' => cases x <;> first | exact h | exact h.elim
/-- An operation of a list, inside a round, is carried out as outside. -/
theorem wpListIn_round {o : Oper} {rest : List Oper} {a : Act} {w : World} {Q : Exit → Act → World → Prop} (hd : o.op.noDeferB = true) (h : wpList P ops (fun e a' w' => e = .normal ∧ wpListIn (Fence.wide.inRound l) n P ops Q rest a' w') [o] a w) : wpListIn (Fence.wide.inRound l) n P ops Q (o :: rest) a w := by
  simp only [wpList] at h
  simp only [wpListIn]
  split
  · rename_i hw
    rw [if_pos hw] at h
    have h1 := h.resolve_right fun hh => by obtain ⟨_, _, hq⟩ := hh.2; cases hq.1
    clear h
    unfold Oper.wp at h1
    refine ⟨fun _ _ => trivial, ?_⟩
    rw [Oper.semAt_eq _ _ _ fun c hc => by rw [hc] at hd; cases hd]
    generalize (execOp a.eval o).run P w = r at h1
    cases r with
    | ok x w' =>
      cases x <;> first | exact h1.2 | exact h1.elim | skip
      case enter f args =>
        refine ⟨fun hh => ?_, ?_⟩
        · simp [Fence.wide, Fence.inRound] at hh
        · refine (calls_round h1).mono fun e w'' he => ?_
          cases e with
          | returned v => exact he.2
          | panicked c => cases he.1
          | outgrown =>
            obtain ⟨_, _, hq⟩ := he
            cases hq.1
      case row row args =>
        refine ⟨fun hh => ?_, ?_⟩
        · simp [Fence.wide, Fence.inRound] at hh
        · exact RowsIn.mono (rows_round h1) fun v w'' he => he.2
    | halt x w' =>
      cases x <;> first | exact absurd h1.1 (by simp) | exact h1.elim
  · rename_i hw
    rw [if_neg hw] at h
    exact ⟨fun _ _ => trivial, h.2⟩
theorem opIn_round {Q : Exit → Act → World → Prop} {i : Nat} {K K' : Act → World → Prop} {a : Act} {w : World} (hd : (ops.all fun o => o.op.noDeferB) = true) (hk : ∀ a w, K a w → K' a w)
    (h : wpOp P ops (strict Q) i K a w) : wpOpIn (Fence.wide.inRound l) n P ops Q i K' a w := by
  unfold wpOp at h
  unfold wpOpIn
  cases ho : ops[i]? with
  | none => rw [ho] at h; exact hk _ _ h
  | some o =>
    rw [ho] at h
    have hdo : o.op.noDeferB = true := by
      have := Array.all_eq_true'.1 hd o (Array.mem_of_getElem? ho)
      simpa using this
    simp only at h ⊢
    split
    · rename_i hw
      rw [if_pos hw] at h
      exact operIn_round hdo hk (h.resolve_right fun hh => by obtain ⟨_, _, hq⟩ := hh.2; exact hq)
    · rename_i hw
      rw [if_neg hw] at h
      exact ⟨fun _ _ => trivial, hk _ _ h⟩
theorem anyIn_round {Q : Exit → Act → World → Prop} (hd : (ops.all fun o => o.op.noDeferB) = true) : ∀ (fuel : Nat) (s : Array Bool) (a : Act) (w : World), wpAny P md ops (strict Q) fuel s a w → wpAnyIn (Fence.wide.inRound l) n P md ops Q fuel s a w
  | 0, _, _, _, h => h
  | fuel + 1, _, _, _, h => ⟨h.1, fun i hi => opIn_round hd (fun a w => anyIn_round hd fuel _ a w) (h.2 i hi)⟩
theorem wpIn_region_treeC {id : Nat} {a : Act} {w : World} {ls : List Oper} {Q : Exit → Act → World → Prop} (C : World → Prop) (Z : List Nat) (t : PlanT) (hm : P.follows .mixedOrders = true)
    (hB : (Region.noSelect ls.toArray && Region.treeB .any ls.toArray Z t true ls.toArray.size (Array.replicate ls.toArray.size false) && Region.treeZ Z t true) = true)
    (hc : (ls.toArray.all fun o => o.op.noDeferB) = true)
    (hC : C w.drew) (h : wpTree P ls.toArray C Z (tidy Q) t a w.drew) : (Code.region id ls.toArray true).wpIn (Fence.wide.inRound l) n P Q a w := by
  simp only [Bool.and_eq_true] at hB
  refine wpIn_mono (wpIn_region_any (Q := tidy Q) hm (anyIn_round hc _ _ _ _ ?_)) (tidy_le Q)
  rw [strict_tidy]
  exact wpAny_of_C _ _ _ _ ((anyC_of_tree hB.1.1 (fun _ _ _ _ _ q => q.elim) t true _ _ a w.drew hB.2 (fun _ => hC) h).1 hB.1.2)
end
end Go

/- A disk keeps where only what is no cells and came later is written. Plain facts. No condition. -/
namespace Go.Proofs.YthfdjemlibecgaaDoor
open Go.RowKit
theorem DkOk.keptW {W W' : World} {p : Pl} {gf : Option Nat} {d : Dsk} {f : Option Fus} {B : Nat} (h : DkOk W p gf d f) (k : Kept B W W') (hB : p.gm < B) : DkOk W' p gf d f := by
  refine ⟨?_, ?_, h.ok⟩
  · obtain ⟨es, c, ⟨h1, h2, h3⟩, h4⟩ := h.dr
    exact ⟨es, c, ⟨h1.keptW k, h2.keptW k, h3.keptW k hB⟩, h4⟩
  · cases gf with
    | none => obtain e := h.fr.none_; subst e; exact trivial
    | some g =>
      obtain ⟨x, rfl, hx⟩ := h.fr.has
      exact (show FuseB W' g x.left x.gone from Blk.keptW (hx : Blk W g _ _) k)
end Go.Proofs.YthfdjemlibecgaaDoor

/- Which bytes are a set's, plainly. No condition. -/
namespace Go.Proofs.YthfdjemlibecgaaDoor
open Go.RowKit
/-- How the bytes say block i (from nought on) is. -/
def crumb (b : List UInt8) (i : Nat) : Nat := (b.getD (2 + i / 4) 0).toNat / 4 ^ (i % 4) % 4
def rdn (b : List UInt8) : Nat := (b.getD 0 0).toNat + 256 * (b.getD 1 0).toNat
def rdF (n : Nat) (f : Nat → Nat) : List Nat := (List.range n).map f
def rd (b : List UInt8) : List Nat := rdF (rdn b) (crumb b)
theorem rdF_length (n : Nat) (f : Nat → Nat) : (rdF n f).length = n := by simp [rdF]
theorem rdF_getD (n : Nat) (f : Nat → Nat) (i : Nat) : (rdF n f).getD i 0 = if i < n then f i else 0 := by
  unfold rdF
  rw [List.getD_eq_getElem?_getD, List.getElem?_map]
  by_cases h : i < n
  · rw [List.getElem?_range h, if_pos h]; rfl
  · rw [if_neg h, List.getElem?_eq_none (by simp; omega)]; rfl
theorem rdF_set (n : Nat) (f : Nat → Nat) (k : Nat) (hk : k < n) : (rdF n (cutAt f k)).set k (f k) = rdF n (cutAt f (k + 1)) := by
  apply List.ext_getElem?
  intro i
  rw [List.getElem?_set]
  unfold rdF
  by_cases hi : i < n
  · rw [List.getElem?_map, List.getElem?_map, List.getElem?_range hi]
    by_cases e : k = i
    · subst e; rw [if_pos rfl, if_pos (by simpa using hk)]; simp [cutAt]
    · rw [if_neg e]
      simp only [Option.map_some, cutAt]
      by_cases h2 : i < k
      · rw [if_pos h2, if_pos (by omega)]
      · rw [if_neg h2, if_neg (by omega)]
  · rw [if_neg (by omega), List.getElem?_eq_none (by simp; omega), List.getElem?_eq_none (by simp; omega)]
theorem rdF_zero (n : Nat) (f : Nat → Nat) : rdF n (cutAt f 0) = List.replicate n 0 := by
  unfold rdF
  apply List.ext_getElem
  · simp
  · intro i h1 h2; simp [cutAt]
theorem rdF_all (n : Nat) (f : Nat → Nat) : rdF n (cutAt f n) = rdF n f := by
  unfold rdF
  refine List.map_congr_left fun i hi => ?_
  have := List.mem_range.1 hi
  unfold cutAt; rw [if_pos this]
/-- Whether the bytes are a set's, but for the last look. -/
def rdPre (b : List UInt8) : Bool := decide (2 ≤ b.length) && decide (1 ≤ rdn b) && decide (rdn b ≤ 512) && decide (b.length = 2 + (rdn b + 3) / 4)
def rdBig (b : List UInt8) : Bool := (List.range (rdn b)).all fun i => decide (crumb b i ≤ 2)
def rdOk (b : List UInt8) : Bool := rdPre b && rdBig b && decide (enc (rd b) = b)
theorem rdPre_iff (b : List UInt8) : rdPre b = true ↔ 2 ≤ b.length ∧ 1 ≤ rdn b ∧ rdn b ≤ 512 ∧ b.length = 2 + (rdn b + 3) / 4 := by
  unfold rdPre; simp only [Bool.and_eq_true, decide_eq_true_eq]; exact ⟨fun ⟨⟨⟨a, b⟩, c⟩, d⟩ => ⟨a, b, c, d⟩, fun ⟨a, b, c, d⟩ => ⟨⟨⟨a, b⟩, c⟩, d⟩⟩
theorem rdBig_iff (b : List UInt8) : rdBig b = true ↔ ∀ i, i < rdn b → crumb b i ≤ 2 := by
  unfold rdBig; rw [List.all_eq_true]; exact ⟨fun h i hi => by simpa using h i (List.mem_range.2 hi), fun h i hi => by simpa using h i (List.mem_range.1 hi)⟩
theorem rdOk_iff (b : List UInt8) : rdOk b = true ↔ rdPre b = true ∧ rdBig b = true ∧ enc (rd b) = b := by
  unfold rdOk; simp only [Bool.and_eq_true, decide_eq_true_eq]; exact ⟨fun ⟨⟨a, b⟩, c⟩ => ⟨a, b, c⟩, fun ⟨a, b, c⟩ => ⟨⟨a, b⟩, c⟩⟩
theorem rd_ok {b : List UInt8} (h1 : rdPre b = true) (h2 : rdBig b = true) : SetOk (rd b) :=
  ⟨by unfold rd; rw [rdF_length]; exact ((rdPre_iff b).1 h1).2.2.1, fun i => by
    unfold rd; rw [rdF_getD]
    split
    · rename_i h; exact (rdBig_iff b).1 h2 i h
    · exact Nat.zero_le _⟩
theorem rd_length (b : List UInt8) : (rd b).length = rdn b := rdF_length _ _
end Go.Proofs.YthfdjemlibecgaaDoor

/- The program's set of blocks, read from bytes. Condition: the bytes can be read. -/
namespace Go.Proofs.YthfdjemlibecgaaDoor
open Go.RowKit
/-- What reading answers. -/
def ReadSet (T : TypeId) (cells : List Nat → Array Value) (b : List UInt8) (w : World) (e : Ending) (w' : World) : Prop :=
  if rdOk b = true then ∃ g, w.heap.size ≤ g ∧ e = .returned (.tuple #[.pointer (some ⟨g, 0, none⟩), .int .i64 0]) ∧ Blk w' g T (cells (rd b)) ∧ Below w.heap.size w w'
  else e = .returned (.tuple #[.pointer none, .int .i64 4]) ∧ Below w.heap.size w w'
theorem ReadSet.no {T : TypeId} {cells : List Nat → Array Value} {b : List UInt8} {w w' : World} (h : rdOk b = false) (hB : Below w.heap.size w w') : ReadSet T cells b w (.returned (.tuple #[.pointer none, .int .i64 4])) w' := by
  unfold ReadSet; rw [if_neg (by rw [h]; simp)]; exact ⟨rfl, hB⟩
theorem or256 (x y : Nat) (hx : x < 256) (hy : y < 256) : bits .or .i64 (x : Int) ((y : Int) * 256) = ((x + 256 * y : Nat) : Int) := by
  have h := i64_or_nat09 x (256 * y) (by omega) (by omega)
  have e : ((256 * y : Nat) : Int) = (y : Int) * 256 := by omega
  rw [e] at h
  rw [h, Nat.or_comm, nat_join 8 (256 * y) x (by omega) (by omega)]
  congr 1; omega
theorem crumb_w (b : List UInt8) (k j r : Nat) (hj : j = k / 4) (hr : r = k % 4) : bits .and .u8 (iu8 (b.getD (2 + j) 0) / 2 ^ (2 * r)) 3 = (crumb b k : Nat) := by
  subst hj hr
  unfold crumb
  have hz := (b.getD (2 + k / 4) 0).toNat_lt
  have e : iu8 (b.getD (2 + k / 4) 0) / 2 ^ (2 * (k % 4)) = (((b.getD (2 + k / 4) 0).toNat / 4 ^ (k % 4) : Nat) : Int) := by
    unfold iu8
    rw [show (4 : Nat) = 2 ^ 2 from rfl, ← Nat.pow_mul]; simp
  rw [e]
  have h := u8_and_nat ((b.getD (2 + k / 4) 0).toNat / 4 ^ (k % 4)) 3 (Nat.lt_of_le_of_lt (Nat.div_le_self _ _) hz) (by omega)
  rw [nat_mask2] at h
  exact h
/-- Ahead of each block. -/
def SetRdRel (b : List UInt8) (g n : Nat) (w1 : World) (v : Value) (wr : World) : Prop :=
  ∃ k : Nat, k ≤ n ∧ v = .int .i64 ((k : Int) + 1) ∧ (∀ i, i < k → crumb b i ≤ 2) ∧ Blk wr g 197 (setCells (rdF n (cutAt (crumb b) k))) ∧ Upd g w1 wr
set_option maxRecDepth 100000 in
set_option maxHeartbeats 2000000 in
theorem setRead_any (A : Option Addr) (c : Nat) (b : List UInt8) (w : World) (hb : Bytes w A b) (hl : b.length ≤ 9223372036854775807) :
    Calls Tryd.prog 112 #[.slice A b.length c] w (ReadSet 197 setCells b w) := by
  by_cases h2 : b.length < 2
  · have hno : rdOk b = false := by
      cases h : rdOk b
      · rfl
      · have := ((rdPre_iff b).1 ((rdOk_iff b).1 h).1).1; omega
    go_enter Tryd.func112, Tryd.ntmps112
    go_wp2
    go_ret2
    exact ReadSet.no hno (Below.refl _ _)
  obtain ⟨bb, off, rfl, hbl, hcell⟩ := hb.at_ (by omega)
  have hc0 := hcell 0 (by omega)
  have hc1 := hcell 1 (by omega)
  have x0 := iu8_lo (b.getD 0 0)
  have x1 := iu8_hi (b.getD 0 0)
  have y0 := iu8_lo (b.getD 1 0)
  have y1 := iu8_hi (b.getD 1 0)
  have hor : bits .or .i64 (iu8 (b.getD 0 0)) (iu8 (b.getD 1 0) * 256) = (rdn b : Nat) := or256 _ _ (b.getD 0 0).toNat_lt (b.getD 1 0).toNat_lt
  have hn16 : rdn b < 65536 := by unfold rdn; have := (b.getD 0 0).toNat_lt; have := (b.getD 1 0).toNat_lt; omega
  generalize iu8 (b.getD 0 0) = x at hc0 hor x0 x1
  generalize iu8 (b.getD 1 0) = y at hc1 hor y0 y1
  have h2' : 2 ≤ (b.length : Int) := by omega
  have h2a : 0 < (b.length : Int) := by omega
  have h2b : 1 < (b.length : Int) := by omega
  rw [Nat.add_zero] at hc0
  have HC := Lib.hid hcell
  have HB := Lib.hid hb
  obtain ⟨n, hn⟩ : ∃ n, n = rdn b := ⟨_, rfl⟩
  rw [← hn] at hor hn16
  have HN := Lib.hid hn
  clear hcell hb hn
  have CC : ∀ w', Below w.heap.size w w' → w'.cell? ⟨bb, off, none⟩ = some (.int .u8 x) ∧ w'.cell? ⟨bb, off + 1, none⟩ = some (.int .u8 y) := fun w' hB =>
    ⟨(hB.cell (p := ⟨bb, off, none⟩) hbl).trans hc0, (hB.cell (p := ⟨bb, off + 1, none⟩) hbl).trans hc1⟩
  by_cases hnb : n < 1 ∨ 512 < n
  · have hno : rdOk b = false := by
      cases h : rdOk b
      · rfl
      · have := (rdPre_iff b).1 ((rdOk_iff b).1 h).1; have := HN.out; omega
    have hnew := new_bad (n : Int) (by omega) w.drew
    clear hnb
    go_enter Tryd.func112, Tryd.ntmps112
    go_wp2
    refine wp_region_planT (fun w' => w'.cell? ⟨bb, off, none⟩ = some (.int .u8 x) ∧ w'.cell? ⟨bb, off + 1, none⟩ = some (.int .u8 y)) [] [(true, 0), (true, 1), (true, 4), (true, 5), (true, 2), (true, 6), (true, 3), (true, 7), (true, 8), (true, 9), (false, 10), (true, 11), (true, 12), (true, 13), (true, 14), (true, 15)] (by kernel_rfl) (by kernel_rfl) (⟨hc0, hc1⟩) ?_
    refine wpPlan_pure [0, 1, 4, 5] [(true, 2), (true, 6), (true, 3), (true, 7), (true, 8), (true, 9), (false, 10), (true, 11), (true, 12), (true, 13), (true, 14), (true, 15)] _ (by rfl) (by rfl) ?_
    dsimp only [List.filterMap, List.getElem?_cons_zero, List.getElem?_cons_succ]
    repeat (go_big_quiet_step (fail))
    refine wpQuiet_nil ?_
    refine wpPlan_takeL [2, 6] [(true, 3), (true, 7), (true, 8), (true, 9), (false, 10), (true, 11), (true, 12), (true, 13), (true, 14), (true, 15)] _ (by rfl) (by rfl) (⟨hc0, hc1⟩) ?_
    dsimp only [List.filterMap, List.getElem?_cons_zero, List.getElem?_cons_succ]
    (refine wpQuiet_load_cell (fun w' hw' => hw'.1) (by rfl) _ _ (by rfl) (by rfl) _ Tryd.underlying5 (by rfl) ?_; simp only [Act.put, List.setIfInBounds_toArray, List.set_cons_zero, List.set_cons_succ])
    (refine wpQuiet_load_cell (fun w' hw' => hw'.2) (by rfl) _ _ (by rfl) (by rfl) _ Tryd.underlying5 (by rfl) ?_; simp only [Act.put, List.setIfInBounds_toArray, List.set_cons_zero, List.set_cons_succ])
    refine wpQuiet_nil ?_
    refine wpPlan_pure [3, 7, 8, 9] [(false, 10), (true, 11), (true, 12), (true, 13), (true, 14), (true, 15)] _ (by rfl) (by rfl) ?_
    dsimp only [List.filterMap, List.getElem?_cons_zero, List.getElem?_cons_succ]
    repeat (go_big_quiet_step (fail))
    refine wpQuiet_nil ?_
    refine wpPlan_forceL _ rfl ?_
    go_wp2_with fail
    refine hnew.mono ?_
    rintro e w' ⟨rfl, rfl⟩
    go_wp2_with fail
    refine PlanQ.in_ ⟨hc0, hc1⟩ ?_
    refine wpPlan_pure [11, 12, 13, 14, 15] [] _ (by rfl) (by rfl) ?_
    dsimp only [List.filterMap, List.getElem?_cons_zero, List.getElem?_cons_succ]
    repeat (go_big_quiet_step (fail))
    refine wpQuiet_nil ?_
    refine wpPlan_tidy ?_
    go_wp2
    go_ret2
    exact ReadSet.no hno (Below.refl _ _).drew
  have hnew := setNew_any n (by omega) (by omega) w.drew
  have hn1 : 1 ≤ n := by omega
  have hn2 : n ≤ 512 := by omega
  clear hnb
  go_enter Tryd.func112, Tryd.ntmps112
  go_wp2
  refine wp_region_planT (fun w' => w'.cell? ⟨bb, off, none⟩ = some (.int .u8 x) ∧ w'.cell? ⟨bb, off + 1, none⟩ = some (.int .u8 y)) [] [(true, 0), (true, 1), (true, 4), (true, 5), (true, 2), (true, 6), (true, 3), (true, 7), (true, 8), (true, 9), (false, 10), (true, 11), (true, 12), (true, 13), (true, 14), (true, 15)] (by kernel_rfl) (by kernel_rfl) (⟨hc0, hc1⟩) ?_
  refine wpPlan_pure [0, 1, 4, 5] [(true, 2), (true, 6), (true, 3), (true, 7), (true, 8), (true, 9), (false, 10), (true, 11), (true, 12), (true, 13), (true, 14), (true, 15)] _ (by rfl) (by rfl) ?_
  dsimp only [List.filterMap, List.getElem?_cons_zero, List.getElem?_cons_succ]
  repeat (go_big_quiet_step (fail))
  refine wpQuiet_nil ?_
  refine wpPlan_takeL [2, 6] [(true, 3), (true, 7), (true, 8), (true, 9), (false, 10), (true, 11), (true, 12), (true, 13), (true, 14), (true, 15)] _ (by rfl) (by rfl) (⟨hc0, hc1⟩) ?_
  dsimp only [List.filterMap, List.getElem?_cons_zero, List.getElem?_cons_succ]
  (refine wpQuiet_load_cell (fun w' hw' => hw'.1) (by rfl) _ _ (by rfl) (by rfl) _ Tryd.underlying5 (by rfl) ?_; simp only [Act.put, List.setIfInBounds_toArray, List.set_cons_zero, List.set_cons_succ])
  (refine wpQuiet_load_cell (fun w' hw' => hw'.2) (by rfl) _ _ (by rfl) (by rfl) _ Tryd.underlying5 (by rfl) ?_; simp only [Act.put, List.setIfInBounds_toArray, List.set_cons_zero, List.set_cons_succ])
  refine wpQuiet_nil ?_
  refine wpPlan_pure [3, 7, 8, 9] [(false, 10), (true, 11), (true, 12), (true, 13), (true, 14), (true, 15)] _ (by rfl) (by rfl) ?_
  dsimp only [List.filterMap, List.getElem?_cons_zero, List.getElem?_cons_succ]
  repeat (go_big_quiet_step (fail))
  refine wpQuiet_nil ?_
  refine wpPlan_forceL _ rfl ?_
  go_wp2_with fail
  refine hnew.mono ?_
  rintro e w1 ⟨rfl, hs1, hB1⟩
  have hB1' : Below w.heap.size w w1 := (Below.refl _ _).drew.trans hB1
  have hlt1 := hs1.lt
  have d1 : w1.cell? ⟨w.heap.size, 0, none⟩ = some (.int .i64 (n : Int)) := hs1.at_ 0 (by rw [setCells, arr_at _ (by omega), setv_0, List.length_replicate])
  have HS1 := Lib.hid hs1
  clear hs1 hB1 hnew
  go_wp2_with fail
  refine PlanQ.in_ (CC _ hB1') ?_
  refine wpPlan_pure [11, 12, 13, 14, 15] [] _ (by rfl) (by rfl) ?_
  dsimp only [List.filterMap, List.getElem?_cons_zero, List.getElem?_cons_succ]
  repeat (go_big_quiet_step (fail))
  refine wpQuiet_nil ?_
  refine wpPlan_tidy ?_
  by_cases hlen : b.length = 2 + (n + 3) / 4
  · have hlen' : (2 : Int) + ((n : Int) + 3) / 4 = b.length := by omega
    have HL := Lib.hid hlen
    have hle2 : (b.length : Int) ≤ 130 := by omega
    clear hlen
    have ht : ((b.length : Int) != (b.length : Int)) = false := by simp
    have hpre : rdPre b = true := (rdPre_iff b).2 ⟨by omega, by have := HN.out; omega, by have := HN.out; omega, by rw [HL.out, HN.out]⟩
    clear ht
    have ht : ((b.length : Int) != (b.length : Int)) = false := by simp
    go_wp2
    clear ht d1
    go_loopw [6] (fun v wr => SetRdRel b w.heap.size n w1 v wr) (fun v _ => n + 1 - (intOf v).toNat)
    case atStart => exact ⟨0, by omega, rfl, fun i hi => by omega, HS1.out.sub (by rw [rdF_zero]), Upd.refl _ _⟩
    case round =>
      obtain ⟨k, hk, rfl, hbig, hw, hu⟩ := hrel
      have hBr : Below w.heap.size w wr := hB1'.upd hu (Nat.le_refl _)
      have d1 : wr.cell? ⟨w.heap.size, 0, none⟩ = some (.int .i64 (n : Int)) := hw.at_ 0 (by rw [setCells, arr_at _ (by omega), setv_0, rdF_length])
      by_cases hkn : k < n
      · obtain ⟨j, hj⟩ : ∃ j : Nat, j = k / 4 := ⟨_, rfl⟩
        obtain ⟨r, hr⟩ : ∃ r : Nat, r = k % 4 := ⟨_, rfl⟩
        have ej : (k : Int) / 4 = j := by omega
        have er : (k : Int) % 4 = r := by omega
        have hr4 : r < 4 := by omega
        have hlenN := HL.out
        have hjm : 2 + j < b.length := by omega
        have hz := (hBr.cell (p := ⟨bb, off + (2 + j), none⟩) hbl).trans (HC.out (2 + j) hjm)
        have hcr := crumb_w b k j r hj hr
        have hle3 : crumb b k ≤ 3 := by unfold crumb; omega
        generalize iu8 (b.getD (2 + j) 0) = z at hz hcr
        obtain ⟨cv, hcv⟩ : ∃ cv, cv = crumb b k := ⟨_, rfl⟩
        rw [← hcv] at hcr hle3
        have HCV := Lib.hid hcv
        have HW := Lib.hid hw
        have HU := Lib.hid hu
        have HB2 := Lib.hid hbig
        clear hw hu hbig hcv hj hr hlenN
        by_cases h3 : 2 < cv
        · have hno : rdOk b = false := by
            cases h : rdOk b
            · rfl
            · have := (rdBig_iff b).1 ((rdOk_iff b).1 h).2.1 k (by rw [← HN.out]; exact hkn); rw [← HCV.out] at this; omega
          go_wp2
          go_ret2
          exact ReadSet.no hno hBr
        · have hcv2 : cv ≤ 2 := by omega
          have hset := set_any (rdF n (cutAt (crumb b) k)) w.heap.size k cv hcv2 (by rw [rdF_length]; exact hkn) (by rw [rdF_length]; exact hn2) wr HW.out
          rw [show (rdF n (cutAt (crumb b) k)).set k cv = rdF n (cutAt (crumb b) (k + 1)) by rw [HCV.out]; exact rdF_set n (crumb b) k hkn] at hset
          go_wp2_with fail
          refine hset.mono ?_
          rintro e w2 ⟨rfl, hw2, hu2⟩
          have HW2 := Lib.hid hw2
          have HU2 := Lib.hid hu2
          clear hset hw2 hu2
          go_wp2
          go_roundw
          case rel => exact ⟨k + 1, by omega, by go_num, fun i hi => (by
            by_cases e : i = k
            · subst e; rw [← HCV.out]; exact hcv2
            · exact HB2.out i (by omega)), HW2.out, HU.out.trans HU2.out⟩
          case measure => simp [intOf]; omega
      · obtain rfl : k = n := by omega
        have hbg : rdBig b = true := (rdBig_iff b).2 fun i hi => hbig i (by rw [HN.out]; exact hi)
        have hok := rd_ok hpre hbg
        have hw2 : Blk wr w.heap.size 197 (setCells (rd b)) := hw.sub (by rw [rdF_all]; unfold rd; rw [HN.out])
        have hlr : 0 < (rd b).length := by rw [rd_length, ← HN.out]; omega
        have HW := Lib.hid hw2
        have hbr : Bytes wr (some ⟨bb, off, none⟩) b := Bytes.below HB.out hBr
        clear hw hu hbig hw2
        go_wp2
        refine wp_region_planT (fun w' => Bytes w' (some ⟨bb, off, none⟩) b) [] [(true, 0), (true, 3), (true, 4), (false, 1), (false, 2), (true, 5)] (by kernel_rfl) (by kernel_rfl) hbr ?_
        refine wpPlan_pure [0, 3] [(true, 4), (false, 1), (false, 2), (true, 5)] _ (by rfl) (by rfl) ?_
        dsimp only [List.filterMap, List.getElem?_cons_zero, List.getElem?_cons_succ]
        repeat (go_big_quiet_step (fail))
        refine wpQuiet_nil ?_
        refine wpPlan_takeL [4] [(false, 1), (false, 2), (true, 5)] _ (by rfl) (by rfl) hbr ?_
        dsimp only [List.filterMap, List.getElem?_cons_zero, List.getElem?_cons_succ]
        refine wpQuiet_convert_str (by rfl) 44 9 5 _ (by rfl) Tryd.underlying44 Tryd.underlying5 Tryd.underlying9 (some ⟨bb, off, none⟩) b.length c b (by rfl) rfl (fun w' hw' => hw') ?_
        simp only [Act.put, List.setIfInBounds_toArray, List.set_cons_zero, List.set_cons_succ]
        refine wpQuiet_nil ?_
        refine wpPlan_forceL _ rfl ?_
        go_wp2_with fail
        refine (bytes_any (rd b) hok hlr w.heap.size wr.drew HW.out.drew).mono ?_
        rintro e w3 ⟨rfl, hO, hB3⟩
        have hs3 : Blk w3 w.heap.size 197 (setCells (rd b)) := HW.out.drew.below hB3 HW.out.lt
        have hBB : Below w.heap.size w w3 := hBr.drew.trans (hB3.mono hBr.size)
        have hbr3 : Bytes w3 (some ⟨bb, off, none⟩) b := Bytes.below HB.out hBB
        have hel := enc_length (rd b)
        have hOb := hO.bytes
        have HS3 := Lib.hid hs3
        clear hO hs3 hB3
        go_wp2_with fail
        refine PlanQ.in_ hbr3 ?_
        refine wpPlan_forceL _ rfl ?_
        go_wp2_with (first
          | (show wpList _ _ _ ((⟨some 69, _, _, _, _, _⟩ : Oper) :: _) _ _; refine wpList_convert_str (o := ⟨some 69, _, _, _, _, _⟩) (by rfl) 44 9 5 _ (by rfl) Tryd.underlying44 Tryd.underlying5 Tryd.underlying9 (some ⟨wr.drew.heap.size, 0, none⟩) (2 + ((rd b).length + 3) / 4) (2 + ((rd b).length + 3) / 4) (enc (rd b)) (by rfl) hel.symm hOb ?_)
          | fail)
        refine PlanQ.in_ hbr3 ?_
        have hne : ((str (enc (rd b))).toList == (str b).toList) = decide (enc (rd b) = b) := str_beq _ _
        by_cases he : enc (rd b) = b
        · rw [decide_eq_true he] at hne
          have hne' : ((str (enc (rd b))).toList == (str b).toList) = true := hne
          have hyes : rdOk b = true := (rdOk_iff b).2 ⟨hpre, hbg, he⟩
          have HE := Lib.hid he
          clear hne he
          refine wpPlan_pure [5] [] _ (by rfl) (by rfl) ?_
          dsimp only [List.filterMap, List.getElem?_cons_zero, List.getElem?_cons_succ]
          repeat (go_big_quiet_step (fail))
          refine wpQuiet_nil ?_
          refine wpPlan_tidy ?_
          go_wp2
          go_ret2
          unfold ReadSet
          rw [if_pos hyes]
          exact ⟨w.heap.size, Nat.le_refl _, rfl, HS3.out, hBB⟩
        · rw [decide_eq_false he] at hne
          have hne' : ((str (enc (rd b))).toList == (str b).toList) = false := hne
          have hno : rdOk b = false := by
            cases h : rdOk b
            · rfl
            · exact absurd ((rdOk_iff b).1 h).2.2 he
          clear hne he
          refine wpPlan_pure [5] [] _ (by rfl) (by rfl) ?_
          dsimp only [List.filterMap, List.getElem?_cons_zero, List.getElem?_cons_succ]
          repeat (go_big_quiet_step (fail))
          refine wpQuiet_nil ?_
          refine wpPlan_tidy ?_
          go_wp2
          go_ret2
          exact ReadSet.no hno hBB
  · have hno : rdOk b = false := by
      cases h : rdOk b
      · rfl
      · have := (rdPre_iff b).1 ((rdOk_iff b).1 h).1; have := HN.out; omega
    have ht : ((b.length : Int) != 2 + ((n : Int) + 3) / 4) = true := by rw [bne_iff_ne]; omega
    have hle : 2 + ((n : Int) + 3) / 4 ≤ 200 := by omega
    clear hlen
    go_wp2
    go_ret2
    exact ReadSet.no hno hB1'
end Go.Proofs.YthfdjemlibecgaaDoor

/- Another set is a grid's: Reset; a grid is made of a set: Open. Conditions: the grid, or the disk, is known; the bytes can be read. -/
namespace Go.Proofs.YthfdjemlibecgaaDoor
open Go.RowKit
theorem cnts3 (L : List Nat) (h : ∀ i, L.getD i 0 ≤ 2) : cnts L 0 + cnts L 1 + cnts L 2 = L.length := by
  induction L with
  | nil => rfl
  | cons x L ih =>
    have h0 := h 0
    have h1 := ih (fun i => by have := h (i + 1); simpa using this)
    have hx : x = 0 ∨ x = 1 ∨ x = 2 := by simp at h0; omega
    unfold cnts at h1 ⊢
    rcases hx with rfl | rfl | rfl <;> simp <;> omega
theorem Near.mix {X Y : List Nat} {w w1 w2 : World} (h : Near X w w1) (k : Near Y w1 w2) (hY : ∀ y ∈ Y, y ∈ X ∨ w.heap.size ≤ y) : Near X w w2 :=
  ⟨k.os.trans h.os, k.tape.trans h.tape, k.output.trans h.output, Nat.le_trans h.size k.size, fun j hj hn => (k.block j (Nat.lt_of_lt_of_le hj h.size) (fun hm => (hY j hm).elim hn (fun h => by omega))).trans (h.block j hj hn)⟩
/-- Behind the last store: another set, that came since. -/
theorem GPost.last' {w w1 : World} {q : GPl} {g : Grd} {d : Dsk} {f : Option Fus} {L : List Nat} {gS : Nat} (hB : Below w.heap.size w w1)
    (hST : GridR (w1.setCell ⟨q.gg, 2, none⟩ (.pointer (some ⟨gS, 0, none⟩))) { q with gs := gS } { g with L := L } d f ∧ Upd q.gg w1 (w1.setCell ⟨q.gg, 2, none⟩ (.pointer (some ⟨gS, 0, none⟩)))) (hg : w.heap.size ≤ gS) :
    GPost w q { g with L := L } d f (w1.setCell ⟨q.gg, 2, none⟩ (.pointer (some ⟨gS, 0, none⟩))) := by
  refine ⟨{ q with gs := gS }, rfl, rfl, rfl, hST.1, (Near.below hB).trans (Near.upd hST.2 (GPl.mem.2 (.inl rfl))), fun y hy => ?_⟩
  rcases GPl.mem.1 hy with e | e | e | e | e
  · exact .inl (GPl.mem.2 (.inl e))
  · exact .inr (by rw [e]; exact hg)
  · exact .inl (GPl.mem.2 (.inr (.inr (.inl e))))
  · exact .inl (GPl.mem.2 (.inr (.inr (.inr (.inl e)))))
  · exact .inl (GPl.mem.2 (.inr (.inr (.inr (.inr e)))))
/-- What a Reset answers. -/
def greset (g : Grd) (b : List UInt8) : Int × Grd := if rdOk b = true ∧ (rd b).length = g.n then (0, { g with L := rd b }) else (4, g)
section
variable {w : World} {q : GPl} {g : Grd} {d : Dsk} {f : Option Fus}
set_option maxRecDepth 100000 in
set_option maxHeartbeats 2000000 in
theorem greset_any (h : GridR w q g d f) (A : Option Addr) (n c : Nat) (b : List UInt8) (hn : n = b.length) (hb : Bytes w A b) (hl : b.length ≤ 9223372036854775807) :
    Calls Tryd.prog 58 #[.pointer (some ⟨q.gg, 0, none⟩), .slice A n c] w fun e w' => e = .returned (.int .i64 (greset g b).1) ∧ GPost w q (greset g b).2 d f w' := by
  subst hn
  have hn := gnone_any h
  have hr := setRead_any A c b w hb hl
  have H0 := Lib.hid h
  clear h hb hl
  go_enter Tryd.func58, Tryd.ntmps58
  go_wp2_with fail
  refine hn.mono ?_
  rintro e w1 ⟨rfl, hw⟩
  obtain rfl := hw.symm
  clear hn hw
  go_wp2_with fail
  refine hr.mono ?_
  rintro e w2 hR
  by_cases hok : rdOk b = true
  case neg =>
    unfold ReadSet at hR
    rw [if_neg hok] at hR
    obtain ⟨rfl, hB⟩ := hR
    have HL : Hid (greset g b = (4, g)) := Lib.hid (if_neg (fun h => hok h.1))
    have HP := Lib.hid (GPost.same H0.out hB)
    clear hB hr hok
    go_wp2
    go_ret
    rw [HL.out]
    exact ⟨rfl, HP.out⟩
  unfold ReadSet at hR
  rw [if_pos hok] at hR
  obtain ⟨gS, hgS, rfl, hst, hB⟩ := hR
  have hpre := (rdOk_iff b).1 hok
  have hset := rd_ok hpre.1 hpre.2.1
  have hlen := rd_length b
  have hrn := (rdPre_iff b).1 hpre.1
  have hc := counts_any (rd b) hset (by omega) gS w2 hst
  have hsum := cnts3 (rd b) hset.le
  have H2 := Lib.hid (And.intro hst (And.intro hB (And.intro hset (And.intro hgS hok))))
  have hn512 : (rd b).length ≤ 512 := hset.len
  clear hr hok hst hB hpre hset hgS hrn hlen
  go_wp2_with fail
  refine hc.mono ?_
  rintro e w3 ⟨rfl, hbx⟩
  have hB3 := H2.out.2.1.trans (hbx.mono H2.out.2.1.size)
  have hst3 := H2.out.1.below hbx H2.out.1.lt
  have hG3 := H0.out.below hB3
  obtain ⟨wv, hgb⟩ := hG3.blk
  have d1 := hgb.at_ 1 (v := .int .i64 (g.n : Int)) rfl
  have d2 := hgb.at_ 2 (v := .pointer (some ⟨q.gs, 0, none⟩)) rfl
  have f2 := hgb.frozen 2
  have H3 := Lib.hid (And.intro hB3 (And.intro hst3 hG3))
  have hw1 : wrap64 ((cnts (rd b) 0 : Int) + (cnts (rd b) 1 : Int)) = (cnts (rd b) 0 : Int) + (cnts (rd b) 1 : Int) := w64_in (by omega)
  have hw2 : wrap64 ((cnts (rd b) 0 : Int) + (cnts (rd b) 1 : Int) + (cnts (rd b) 2 : Int)) = ((rd b).length : Int) := by rw [w64_in (by omega)]; omega
  clear hc hbx hB3 hst3 hG3 hgb
  by_cases he : (rd b).length = g.n
  case neg =>
    have HL : Hid (greset g b = (4, g)) := Lib.hid (if_neg (fun h => he h.2))
    have kn : (((rd b).length : Int) != (g.n : Int)) = true := by rw [bne_iff_ne]; omega
    clear hsum hn512 d2 f2
    go_wp2
    go_ret
    rw [HL.out]
    exact ⟨rfl, GPost.same H0.out H3.out.1⟩
  have HL : Hid (greset g b = (0, { g with L := rd b })) := Lib.hid (if_pos ⟨H2.out.2.2.2.2, he⟩)
  have kn : (((rd b).length : Int) != (g.n : Int)) = false := by rw [he]; simp
  have hST := GridR.setTo H3.out.2.2 H3.out.2.1 H2.out.2.2.1 he
  have HP := Lib.hid (GPost.last' H3.out.1 hST H2.out.2.2.2.1)
  clear hsum hn512 hST he
  go_wp2
  go_ret
  rw [HL.out]
  exact ⟨rfl, HP.out⟩
end
/-- What an Open leaves. -/
def GOpenPost (w : World) (p : Pl) (gf : Option Nat) (d : Dsk) (f : Option Fus) (n : Nat) (b : List UInt8) (e : Ending) (w' : World) : Prop :=
  (if rdOk b = true ∧ (rd b).length = n then ∃ q : GPl, q.p = p ∧ q.gf = gf ∧ e = .returned (.tuple #[.pointer (some ⟨q.gg, 0, none⟩), .int .i64 0]) ∧ GridR w' q ⟨n, rd b, []⟩ d f ∧ (∀ x ∈ q.all, x ∈ p.all gf ∨ w.heap.size ≤ x)
   else e = .returned (.tuple #[.pointer none, .int .i64 4])) ∧ Near (p.all gf) w w'
section
variable {w : World} {p : Pl} {gf : Option Nat} {d : Dsk} {f : Option Fus}
set_option maxRecDepth 100000 in
set_option maxHeartbeats 2000000 in
theorem gopen_any (h : DkOk w p gf d f) (ho : d.isOut f = false) (n : Nat) (h1 : 1 ≤ n) (h2 : n ≤ 512) (hr : 104 + 4 * n ≤ d.N) (A : Option Addr) (m c : Nat) (b : List UInt8) (hn : m = b.length) (hb : Bytes w A b) (hl : b.length ≤ 9223372036854775807) :
    Calls Tryd.prog 61 #[.pointer (some ⟨p.gd, 0, none⟩), .int .i64 (n : Int), .slice A m c] w (GOpenPost w p gf d f n b) := by
  have hnew := gnew_any h ho n h1 h2 hr
  have H0 := Lib.hid (And.intro h (And.intro hb (And.intro hl hn)))
  clear h ho h1 h2 hr hb hl hn
  go_enter Tryd.func61, Tryd.ntmps61
  go_wp2_with fail
  refine hnew.mono ?_
  rintro e w1 ⟨q, hqp, hqf, rfl, hG, hge, hB⟩
  have hrs := greset_any hG A m c b H0.out.2.2.2 (Bytes.below H0.out.2.1 hB) H0.out.2.2.1
  have H1 := Lib.hid (And.intro hqp (And.intro hqf (And.intro hge hB)))
  clear hnew hqp hqf hge hG hB
  go_wp2_with fail
  refine hrs.mono ?_
  rintro e w2 ⟨rfl, q', e1, e2, e3, k1, k2, k3⟩
  have hq1 : ∀ x ∈ q.all, x ∈ p.all gf ∨ w.heap.size ≤ x := fun x hx => by
    rcases GPl.mem.1 hx with e | e | e | e | e
    · exact .inr (e ▸ H1.out.2.2.1.1)
    · exact .inr (e ▸ H1.out.2.2.1.2.1)
    · exact .inr (e ▸ H1.out.2.2.1.2.2.1)
    · rw [H1.out.2.2.1.2.2.2] at e; cases e
    · rw [H1.out.1, H1.out.2.1] at e; exact .inl e
  have hN := Near.mix (Near.below (X := p.all gf) H1.out.2.2.2) k2 hq1
  have hq2 : ∀ x ∈ q'.all, x ∈ p.all gf ∨ w.heap.size ≤ x := fun x hx => (k3 x hx).elim (hq1 x) (fun h => .inr (Nat.le_trans H1.out.2.2.2.size h))
  by_cases hc : rdOk b = true ∧ (rd b).length = n
  · have hg : greset ⟨n, List.replicate n 0, []⟩ b = (0, ⟨n, rd b, []⟩) := if_pos hc
    rw [hg] at k1 ⊢
    have H2 := Lib.hid (And.intro k1 (And.intro hN (And.intro hq2 (And.intro e1 (And.intro (e2.trans H1.out.1) (And.intro (e3.trans H1.out.2.1) hc))))))
    clear hg k1 hN hq2 e1 e2 e3 hc k2 k3 hq1 hrs
    go_wp2
    go_ret2
    unfold GOpenPost
    refine ⟨?_, H2.out.2.1⟩
    rw [if_pos H2.out.2.2.2.2.2.2]
    exact ⟨q', H2.out.2.2.2.2.1, H2.out.2.2.2.2.2.1, by rw [H2.out.2.2.2.1]; rfl, H2.out.1, H2.out.2.2.1⟩
  · have hg : greset ⟨n, List.replicate n 0, []⟩ b = (4, ⟨n, List.replicate n 0, []⟩) := if_neg hc
    rw [hg] at ⊢
    have H2 := Lib.hid (And.intro hN hc)
    clear hg k1 hN hq2 e1 e2 e3 hc k2 k3 hq1 hrs
    go_wp2
    go_ret2
    unfold GOpenPost
    refine ⟨?_, H2.out.1⟩
    rw [if_neg H2.out.2]
    rfl
end
end Go.Proofs.YthfdjemlibecgaaDoor

/- What a call hands back whose first two results lie in blocks; the marks of loops over functions. Plain facts over any program. No condition. -/
namespace Go
open Go.RowKit
theorem results_rows_tmp {P : Program} {fn : Func} {p p2 q : Tmp} {ty ty2 : TypeId} (h : fn.results = #[.cell p ty, .cell p2 ty2, .tmp q]) (tmps : Array Value) (w : World) (g g2 : Nat) (t t2 : TypeId) (cs cs2 : Array Value) (d d2 : TypeDesc)
    (hp : tmps.getD p undef = .pointer (some ⟨g, 0, none⟩)) (hg : Blk w g t cs) (hp2 : tmps.getD p2 undef = .pointer (some ⟨g2, 0, none⟩)) (hg2 : Blk w g2 t2 cs2)
    (hu : P.underlying ty = some d) (hd : (match d with | .struct _ | .array _ _ => true | _ => false) = true) (hi : (P.info? ty).map (·.size) = some cs.size)
    (hu2 : P.underlying ty2 = some d2) (hd2 : (match d2 with | .struct _ | .array _ _ => true | _ => false) = true) (hi2 : (P.info? ty2).map (·.size) = some cs2.size) :
    (results fn tmps).run P w = .ok (.tuple #[.agg cs, .agg cs2, tmps.getD q undef]) w := by
  have hp' : tmps[p]?.getD undef = .pointer (some ⟨g, 0, none⟩) := by simpa using hp
  have hp2' : tmps[p2]?.getD undef = .pointer (some ⟨g2, 0, none⟩) := by simpa using hp2
  simp [results, h, hp', hp2', asAddr, run_loadVar_row w g t ty cs (0, 0) d hg hu hd hi, run_loadVar_row w g2 t2 ty2 cs2 (0, 0) d2 hg2 hu2 hd2 hi2]
/-- What a call hands back that lies in a block. -/
theorem results_row1 {P : Program} {fn : Func} {p : Tmp} {ty : TypeId} (h : fn.results = #[.cell p ty]) (tmps : Array Value) (w : World) (g : Nat) (t : TypeId) (cs : Array Value) (d : TypeDesc)
    (hp : tmps.getD p undef = .pointer (some ⟨g, 0, none⟩)) (hg : Blk w g t cs)
    (hu : P.underlying ty = some d) (hd : (match d with | .struct _ | .array _ _ => true | _ => false) = true) (hi : (P.info? ty).map (·.size) = some cs.size) :
    (results fn tmps).run P w = .ok (.agg cs) w := by
  have hp' : tmps[p]?.getD undef = .pointer (some ⟨g, 0, none⟩) := by simpa using hp
  simp [results, h, hp', asAddr, run_loadVar_row w g t ty cs (0, 0) d hg hu hd hi]
/-- What a call hands back that lies in one cell. -/
theorem results_cell {P : Program} {fn : Func} {p : Tmp} {ty : TypeId} (h : fn.results = #[.cell p ty]) (tmps : Array Value) (w : World) (g : Nat) (v : Value) (d : TypeDesc)
    (hp : tmps.getD p undef = .pointer (some ⟨g, 0, none⟩)) (hc : w.cell? ⟨g, 0, none⟩ = some v) (hu : P.underlying ty = some d) (hd : d.isRow = false) : (results fn tmps).run P w = .ok v w := by
  have hp' : tmps[p]?.getD undef = .pointer (some ⟨g, 0, none⟩) := by simpa using hp
  have hl : (loadVar ty ⟨g, 0, none⟩).run P w = .ok v w := by
    simp only [loadVar, Sem.run_bind, run_isAgg_cell hu hd w, Result.andThen_ok, Bool.false_eq_true, if_false]
    simp [hc]
  simp [results, h, hp', asAddr, hl]
/-- A loop's mark is shut: what a contract speaks of lies as it lay. -/
theorem mark_kept {B : Nat} {W : World} {D : Nat} (hB : B ≤ D) (h : W.heap[D]? = some (.deferred (some []))) : Kept B W (W.putObj D (.deferred none)) := Kept.put hB h rfl
theorem mark_other {W : World} {D D' : Nat} (h : W.heap[D']? = some (.deferred (some []))) (hne : D' ≠ D) : (W.putObj D (.deferred none)).heap[D']? = some (.deferred (some [])) := (World.putObj_heap_other hne).trans h
end Go
