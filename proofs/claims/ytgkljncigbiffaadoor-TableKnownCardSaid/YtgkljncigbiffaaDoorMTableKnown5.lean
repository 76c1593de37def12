/- Pairs in memory: whether one may be, whether two are the same. Conditions: they can be read. -/
import Derived.Test.YtgkljncigbiffaaDoorMTableKnown4
import Derived.MapKept
import Derived.WideKeyRuns
import GoSem.Instr.MapEntry
import Derived.RangeFuncWrites
import Derived.RangeFuncBound
import Derived.RangeFuncCalls
import Derived.RangeFuncLeaves
import Derived.WalkKit
import Derived.OwnWalkIn
import Derived.TacticsInMore
import Derived.LoopNIn
import Derived.LoopIn
namespace Go.Proofs.YtgkljncigbiffaaDoor
open Go.RowKit
/-- A pair that can be read; its cells. -/
structure PairAt (w : World) (p : PairT) (A : Option Addr) (c : Nat) (B : Option Addr) (e : Nat) : Prop where
  kc : p.1.length ≤ c
  km : c ≤ 9223372036854775807
  vc : p.2.1.length ≤ e
  vm : e ≤ 9223372036854775807
  k : Bytes w A p.1
  v : Bytes w B p.2.1
def pairc (p : PairT) (A : Option Addr) (c : Nat) (B : Option Addr) (e : Nat) : Array Value := #[.slice A p.1.length c, .slice B p.2.1.length e, .bool p.2.2.1]
theorem PairAt.below {w w' : World} {p : PairT} {A B : Option Addr} {c e : Nat} (h : PairAt w p A c B e) (hb : Below w.heap.size w w') : PairAt w' p A c B e := ⟨h.kc, h.km, h.vc, h.vm, Reads.below h.k hb, Reads.below h.v hb⟩
theorem PairAt.drewN {w : World} {p : PairT} {A B : Option Addr} {c e : Nat} (h : PairAt w p A c B e) (n : Nat) : PairAt (w.drewN n) p A c B e := ⟨h.kc, h.km, h.vc, h.vm, h.k, h.v⟩
/-- Pairs that can be read. -/
def Pairs (w : World) (A : Option Addr) (l : List PairT) : Prop :=
  0 < l.length → ∃ b off, A = some ⟨b, off, none⟩ ∧ b < w.heap.size ∧ ∀ i, (h : i < l.length) → ∃ A1 c1 A2 c2, w.cell? ⟨b, off + i * 3, none⟩ = some (.slice A1 l[i].1.length c1) ∧ w.cell? ⟨b, off + i * 3 + 1, none⟩ = some (.slice A2 l[i].2.1.length c2) ∧ w.cell? ⟨b, off + i * 3 + 2, none⟩ = some (.bool l[i].2.2.1) ∧ PairAt w l[i] A1 c1 A2 c2
theorem Pairs.below {w w' : World} {A : Option Addr} {l : List PairT} (h : Pairs w A l) (hb : Below w.heap.size w w') : Pairs w' A l := fun hp => by
  obtain ⟨b, off, e, hlt, hc⟩ := h hp
  refine ⟨b, off, e, Nat.lt_of_lt_of_le hlt hb.size, fun i hi => ?_⟩
  obtain ⟨A1, c1, A2, c2, k1, k2, k3, k4⟩ := hc i hi
  exact ⟨A1, c1, A2, c2, (hb.cell (p := ⟨b, off + i * 3, none⟩) hlt).trans k1, (hb.cell (p := ⟨b, off + i * 3 + 1, none⟩) hlt).trans k2, (hb.cell (p := ⟨b, off + i * 3 + 2, none⟩) hlt).trans k3, k4.below hb⟩
theorem Pairs.drewN {w : World} {A : Option Addr} {l : List PairT} (h : Pairs w A l) (n : Nat) : Pairs (w.drewN n) A l := fun hp => by
  obtain ⟨b, off, e, hlt, hc⟩ := h hp
  exact ⟨b, off, e, hlt, fun i hi => by obtain ⟨A1, c1, A2, c2, k1, k2, k3, k4⟩ := hc i hi; exact ⟨A1, c1, A2, c2, k1, k2, k3, k4.drewN n⟩⟩
theorem Pairs.nil (w : World) (A : Option Addr) : Pairs w A [] := fun h => absurd h (by simp)
instance {w w' : World} {A : Option Addr} {l : List PairT} : KeepsTo w w' (Pairs w A l) (Pairs w' A l) := ⟨fun hb h => h.below hb⟩
instance {w w' : World} {p : PairT} {A B : Option Addr} {c e : Nat} : KeepsTo w w' (PairAt w p A c B e) (PairAt w' p A c B e) := ⟨fun hb h => h.below hb⟩
theorem pair_eq (p q : PairT) : p = q ↔ (p.1 = q.1 ∧ p.2.1 = q.2.1) ∧ p.2.2.1 = q.2.2.1 := by
  obtain ⟨a, b, c, d⟩ := p
  obtain ⟨a', b', c', d'⟩ := q
  simp [and_assoc]
def pokE (p : PairT) : Int := if pok p = true then 0 else 2
set_option maxRecDepth 100000 in
set_option maxHeartbeats 2000000 in
theorem pcheck_any (p : PairT) (A B : Option Addr) (c e : Nat) (w : World) : Calls Tryd.prog 98 #[.agg (pairc p A c B e)] w fun x w' => x = .returned (.int .i64 (pokE p)) ∧ Below w.heap.size w w' := by
  obtain ⟨k, hk⟩ : ∃ k, k = p.1.length := ⟨_, rfl⟩
  obtain ⟨v, hv⟩ : ∃ v, v = p.2.1.length := ⟨_, rfl⟩
  obtain ⟨g, hg⟩ : ∃ g, g = p.2.2.1 := ⟨_, rfl⟩
  have HP : Hid (pokE p = if (decide (1 ≤ k) && (decide (k ≤ 32) && (decide (v ≤ 128) && (!g || decide (v = 0))))) = true then 0 else 2) := Lib.hid (by unfold pokE pok; rw [hk, hv, hg])
  unfold pairc
  rw [← hk, ← hv, ← hg]
  clear hk hv hg
  generalize pokE p = E at HP ⊢
  go_enter Tryd.func98, Tryd.ntmps98
  by_cases h1 : 1 ≤ k
  case neg =>
    have q1 : decide ((k : Int) < 1) = true := decide_eq_true (by omega)
    have HF := Lib.hid (HP.out.trans (by rw [decide_eq_false h1]; rfl : _ = (2 : Int)))
    clear h1 HP
    go_wp2
    go_ret
    exact ⟨by rw [HF.out]; rfl, by simpa using (Below.refl w.heap.size w).alloc (Nat.le_refl _) _⟩
  have q1 : decide ((k : Int) < 1) = false := decide_eq_false (by omega)
  replace HP := Lib.hid (HP.out.trans (by rw [decide_eq_true h1]))
  by_cases h2 : k ≤ 32
  case neg =>
    have q2 : decide ((k : Int) > 32) = true := decide_eq_true (by omega)
    have HF := Lib.hid (HP.out.trans (by rw [decide_eq_false h2]; rfl : _ = (2 : Int)))
    clear h1 h2 HP
    go_wp2
    go_ret
    exact ⟨by rw [HF.out]; rfl, by simpa using (Below.refl w.heap.size w).alloc (Nat.le_refl _) _⟩
  have q2 : decide ((k : Int) > 32) = false := decide_eq_false (by omega)
  replace HP := Lib.hid (HP.out.trans (by rw [decide_eq_true h2]))
  by_cases h3 : v ≤ 128
  case neg =>
    have q3 : decide ((v : Int) > 128) = true := decide_eq_true (by omega)
    have HF := Lib.hid (HP.out.trans (by rw [decide_eq_false h3]; rfl : _ = (2 : Int)))
    clear h1 h2 h3 HP
    go_wp2
    go_ret
    exact ⟨by rw [HF.out]; rfl, by simpa using (Below.refl w.heap.size w).alloc (Nat.le_refl _) _⟩
  have q3 : decide ((v : Int) > 128) = false := decide_eq_false (by omega)
  replace HP := Lib.hid (HP.out.trans (by rw [decide_eq_true h3]))
  cases g
  case false =>
    have HF := Lib.hid (HP.out.trans (by rfl : _ = (0 : Int)))
    clear h1 h2 h3 HP
    go_wp2
    go_ret
    exact ⟨by rw [HF.out]; rfl, by simpa using (Below.refl w.heap.size w).alloc (Nat.le_refl _) _⟩
  case true =>
    by_cases h4 : v = 0
    case pos =>
      have q4 : decide (0 < v) = false := decide_eq_false (by omega)
      have HF := Lib.hid (HP.out.trans (by rw [decide_eq_true h4]; rfl : _ = (0 : Int)))
      clear h1 h2 h3 h4 HP
      go_wp2
      go_ret
      exact ⟨by rw [HF.out]; rfl, by simpa using (Below.refl w.heap.size w).alloc (Nat.le_refl _) _⟩
    case neg =>
      have q4 : decide (0 < v) = true := decide_eq_true (by omega)
      have HF := Lib.hid (HP.out.trans (by rw [decide_eq_false h4]; rfl : _ = (2 : Int)))
      clear h1 h2 h3 h4 HP
      go_wp2
      go_ret
      exact ⟨by rw [HF.out]; rfl, by simpa using (Below.refl w.heap.size w).alloc (Nat.le_refl _) _⟩
set_option maxRecDepth 100000 in
set_option maxHeartbeats 2000000 in
theorem samePair_any (p q : PairT) (A B A' B' : Option Addr) (c e c' e' : Nat) (w : World) (h : PairAt w p A c B e) (h' : PairAt w q A' c' B' e') :
    Calls Tryd.prog 39 #[.agg (pairc p A c B e), .agg (pairc q A' c' B' e')] w fun x w' => x = .returned (.bool (decide (p = q))) ∧ Below w.heap.size w w' := by
  have HP : Hid (decide (p = q) = (decide (p.1 = q.1) && decide (p.2.1 = q.2.1) && decide (p.2.2.1 = q.2.2.1))) := Lib.hid (by
    rw [← Bool.decide_and, ← Bool.decide_and]
    exact decide_eq_decide.2 (pair_eq p q))
  have hB0 := ((Below.refl w.heap.size w).alloc (Nat.le_refl _) (.cells (pairc p A c B e) 40)).alloc (by simp) (.cells (pairc q A' c' B' e') 40)
  have hg1 := (Blk.new w 40 (pairc p A c B e)).alloc (.cells (pairc q A' c' B' e') 40)
  have hg2 := Blk.new' (w.alloc (.cells (pairc p A c B e) 40)) 40 (pairc q A' c' B' e') (n := w.heap.size + 1) (by simp)
  have hh := h.below hB0
  have hh' := h'.below hB0
  clear h h'
  generalize decide (p = q) = R at HP ⊢
  unfold pairc at hg1 hg2 hB0 hh hh' ⊢
  have d1 := hg1.at_ 0 (v := .slice A p.1.length c) rfl
  have d2 := hg1.at_ 1 (v := .slice B p.2.1.length e) rfl
  have d3 := hg1.at_ 2 (v := .bool p.2.2.1) rfl
  have d4 := hg2.at_ 0 (v := .slice A' q.1.length c') rfl
  have d5 := hg2.at_ 1 (v := .slice B' q.2.1.length e') rfl
  have d6 := hg2.at_ 2 (v := .bool q.2.2.1) rfl
  have H0 := Lib.hid (And.intro hB0 (And.intro hh hh'))
  clear hB0 hg1 hg2 hh hh'
  go_enter Tryd.func39, Tryd.ntmps39
  go_wp2_with fail
  generalize ((w.alloc (.cells #[.slice A p.1.length c, .slice B p.2.1.length e, .bool p.2.2.1] 40)).alloc (.cells #[.slice A' q.1.length c', .slice B' q.2.1.length e', .bool q.2.2.1] 40)) = w1 at H0 d1 d2 d3 d4 d5 d6 ⊢
  refine (sameBytes_any A A' p.1.length q.1.length c c' p.1 q.1 rfl rfl w1 H0.out.2.1.k H0.out.2.2.k).mono ?_
  rintro x w2 ⟨rfl, hw⟩
  obtain rfl := hw.symm
  clear hw
  generalize decide (p.1 = q.1) = b1 at HP ⊢
  cases b1
  · have HF := Lib.hid (HP.out.trans (by simp : _ = false))
    clear HP
    go_wp2
    go_ret
    exact ⟨by rw [HF.out]; rfl, H0.out.1⟩
  go_wp2_with fail
  refine (sameBytes_any B B' p.2.1.length q.2.1.length e e' p.2.1 q.2.1 rfl rfl w1 H0.out.2.1.v H0.out.2.2.v).mono ?_
  rintro x w3 ⟨rfl, hw⟩
  obtain rfl := hw.symm
  clear hw
  generalize decide (p.2.1 = q.2.1) = b2 at HP ⊢
  cases b2
  · have HF := Lib.hid (HP.out.trans (by simp : _ = false))
    clear HP
    go_wp2
    go_ret
    exact ⟨by rw [HF.out]; rfl, H0.out.1⟩
  have HF := Lib.hid (HP.out.trans (by rw [Bool.true_and, Bool.true_and]; cases p.2.2.1 <;> cases q.2.2.1 <;> rfl : _ = (p.2.2.1 == q.2.2.1)))
  clear HP
  go_wp2
  go_ret
  exact ⟨by rw [HF.out]; rfl, H0.out.1⟩
/-- Ahead of each pair: those ahead of it are the same. -/
def SpRel (w : World) (l l' : List PairT) (v : Value) (wr : World) : Prop := ∃ i : Nat, i ≤ l.length ∧ v = .int .i64 (i : Int) ∧ Below w.heap.size w wr ∧ l.take i = l'.take i
theorem SpRel.drewN {w wr : World} {l l' : List PairT} {v : Value} (h : SpRel w l l' v wr) (n : Nat) : SpRel w l l' v (wr.drewN n) := by
  obtain ⟨i, h1, h2, h3, h4⟩ := h
  exact ⟨i, h1, h2, below_drewN h3 n, h4⟩
theorem sizePair : (Tryd.prog.info? 40).map (·.size) = some 3 := by kernel_rfl
theorem range3 {w : World} {b off : Nat} {u v x : Value} (h1 : w.cell? ⟨b, off, none⟩ = some u) (h2 : w.cell? ⟨b, off + 1, none⟩ = some v) (h3 : w.cell? ⟨b, off + 2, none⟩ = some x) : w.rangeAt b off [u, v, x] := fun j y hy => by
  match j with
  | 0 => simp at hy; subst hy; exact h1
  | 1 => simp at hy; subst hy; exact h2
  | 2 => simp at hy; subst hy; exact h3
theorem rangeAt_below {w w' : World} {b off : Nat} {l : List Value} (h : w.rangeAt b off l) (hb : Below w.heap.size w w') : w'.rangeAt b off l := fun j v hv => by
  have h1 := h j v hv
  exact (hb.cell (World.block_lt_of_cell? w _ h1)).trans h1
set_option maxRecDepth 100000 in
set_option maxHeartbeats 2000000 in
theorem samePairs_any (A B : Option Addr) (c d : Nat) (l l' : List PairT) (hl : l.length ≤ 65536) (w : World) (h : Pairs w A l) (h' : Pairs w B l') :
    Calls Tryd.prog 30 #[.slice A l.length c, .slice B l'.length d] w fun e w' => e = .returned (.bool (decide (l = l'))) ∧ Below w.heap.size w w' := by
  have HH := Lib.hid (And.intro h h')
  clear h h'
  by_cases hne : l.length = l'.length
  case neg =>
    rw [show decide (l = l') = false by simp; exact fun e => hne (by rw [e])]
    have hc : ((l.length : Int) != (l'.length : Int)) = true := by simp; omega
    go_enter Tryd.func30, Tryd.ntmps30
    clear HH hl
    go_wp2
    go_ret
    exact ⟨rfl, Below.refl _ _⟩
  have hc : ((l.length : Int) != (l'.length : Int)) = false := by simp; omega
  have HE := Lib.hid hne
  obtain ⟨q, hq⟩ : ∃ q, q = decide (l = l') := ⟨_, rfl⟩
  rw [← hq]
  have HQ := Lib.hid hq
  clear hne hq
  go_enter Tryd.func30, Tryd.ntmps30
  go_wp2_with fail
  go_loopw [5] (fun v wr => SpRel w l l' v wr) (fun v _ => l.length - (intOf v).toNat)
  case atStart => exact ⟨0, Nat.zero_le _, rfl, Below.refl _ _, rfl⟩
  case round =>
    clear hc
    obtain ⟨i, hi, rfl, hB, ht⟩ := hrel
    by_cases hlt : i < l.length
    case neg =>
      have he : q = true := by
        rw [HQ.out, decide_eq_true_eq]
        have e1 : l.take i = l := List.take_of_length_le (by omega)
        have e2 : l'.take i = l' := List.take_of_length_le (by have := HE.out; omega)
        rw [← e1, ht, e2]
      subst he
      have HB := Lib.hid hB
      clear ht hi hB
      go_wp2
      go_ret
      exact ⟨rfl, HB.out⟩
    have hlt' : i < l'.length := by have := HE.out; omega
    obtain ⟨b, off, hAe, -, hcb⟩ := (HH.out.1.below hB) (by omega)
    obtain ⟨b', off', hBe, -, hcb'⟩ := (HH.out.2.below hB) (by omega)
    obtain ⟨A1, c1, A2, c2, d1, d2, d3, hp1⟩ := hcb i hlt
    obtain ⟨B1, e1, B2, e2, d4, d5, d6, hp2⟩ := hcb' i hlt'
    obtain ⟨x, hx⟩ : ∃ x, x = l[i] := ⟨_, rfl⟩
    obtain ⟨y, hy⟩ : ∃ y, y = l'[i] := ⟨_, rfl⟩
    rw [← hx] at d1 d2 d3 hp1
    rw [← hy] at d4 d5 d6 hp2
    have hr1 := range3 d1 d2 d3
    have hr2 := range3 d4 d5 d6
    have HX := Lib.hid (And.intro hx (And.intro hy (And.intro ht (And.intro hB (And.intro hp1 hp2)))))
    subst hAe hBe
    clear hcb hcb' hx hy ht hB d1 d2 d3 d4 d5 d6 hp1 hp2
    go_wp2_with fail
    refine wp_region_planT (fun w' => w'.rangeAt b (off + i * 3) [.slice A1 x.1.length c1, .slice A2 x.2.1.length c2, .bool x.2.2.1] ∧ w'.rangeAt b' (off' + i * 3) [.slice B1 y.1.length e1, .slice B2 y.2.1.length e2, .bool y.2.2.1]) [] [(true, 0), (true, 1), (true, 2), (true, 4), (true, 5), (true, 6), (true, 3), (true, 7), (false, 8), (true, 9)] (by kernel_rfl) (by kernel_rfl) (⟨hr1, hr2⟩) ?_
    refine wpPlan_pure [0, 1, 2, 4, 5, 6] [(true, 3), (true, 7), (false, 8), (true, 9)] _ (by rfl) (by rfl) ?_
    dsimp only [List.filterMap, List.getElem?_cons_zero, List.getElem?_cons_succ]
    repeat (go_big_quiet_step (fail))
    refine wpQuiet_nil ?_
    refine wpPlan_takeL [3, 7] [(false, 8), (true, 9)] _ (by rfl) (by rfl) (⟨hr1, hr2⟩) ?_
    dsimp only [List.filterMap, List.getElem?_cons_zero, List.getElem?_cons_succ]
    (refine wpQuiet_load_mid (fun w' hw' => hw'.1) (by rfl) _ _ (by rfl) (by rfl) _ Tryd.underlying40 (by rfl) (sizePair) (by rfl) ?_; simp only [Act.put, List.setIfInBounds_toArray, List.set_cons_zero, List.set_cons_succ])
    (refine wpQuiet_load_mid (fun w' hw' => hw'.2) (by rfl) _ _ (by rfl) (by rfl) _ Tryd.underlying40 (by rfl) (sizePair) (by rfl) ?_; simp only [Act.put, List.setIfInBounds_toArray, List.set_cons_zero, List.set_cons_succ])
    refine wpQuiet_nil ?_
    refine wpPlan_forceL _ rfl ?_
    go_wp2_with fail
    have hBd : Below wr.heap.size wr wr.drew := (Below.refl _ _).drew
    refine (samePair_any x y A1 A2 B1 B2 c1 c2 e1 e2 wr.drew (HX.out.2.2.2.2.1.below hBd) (HX.out.2.2.2.2.2.below hBd)).mono ?_
    rintro z w2 ⟨rfl, hbx⟩
    have hb2 : Below wr.heap.size wr w2 := hBd.trans hbx
    have hc2 := And.intro (rangeAt_below hr1 hb2) (rangeAt_below hr2 hb2)
    have HB2 := Lib.hid (HX.out.2.2.2.1.trans (hb2.mono HX.out.2.2.2.1.size))
    clear hBd hbx hb2 hr1 hr2
    go_wp2_with fail
    refine PlanQ.in_ hc2 ?_
    refine wpPlan_pure [9] [] _ (by rfl) (by rfl) ?_
    dsimp only [List.filterMap, List.getElem?_cons_zero, List.getElem?_cons_succ]
    repeat (go_big_quiet_step (fail))
    refine wpQuiet_nil ?_
    refine wpPlan_tidy ?_
    clear hc2
    by_cases hxy : x = y
    · rw [decide_eq_true hxy]
      have HF := Lib.hid (show SpRel w l l' (.int .i64 ((i + 1 : Nat) : Int)) w2 from ⟨i + 1, by omega, rfl, HB2.out, by
        rw [List.take_succ_eq_append_getElem hlt, List.take_succ_eq_append_getElem hlt', HX.out.2.2.1, ← HX.out.1, ← HX.out.2.1, hxy]⟩)
      clear hi hxy
      go_wp2
      go_roundw
      case rel => exact HF.out
      case measure => simp [intOf]; omega
    · rw [decide_eq_false hxy]
      have he : q = false := by
        rw [HQ.out, decide_eq_false_iff_not]
        intro e
        apply hxy
        rw [HX.out.1, HX.out.2.1]
        simp [e]
      subst he
      clear hi hxy
      go_wp2
      go_ret
      exact ⟨rfl, HB2.out⟩
end Go.Proofs.YtgkljncigbiffaaDoor

/- How a loop's measure falls; a byte of a number; a grid's list when the first blocks are taken. Plain facts. No condition. -/
namespace Go.Proofs.YtgkljncigbiffaaDoor
open Go.RowKit
def cL (n i : Nat) : List Nat := List.replicate i 1 ++ List.replicate (n - i) 0
theorem meas_up {m i : Nat} {a b : Value} (ha : intOf a = ((i + 1 : Nat) : Int)) (hb : intOf b = (i : Int)) (h : i < m) : m - (intOf a).toNat < m - (intOf b).toNat := by rw [ha, hb]; omega
theorem meas_dn {j : Nat} {a b : Value} (ha : intOf a = (j : Int) - 1) (hb : intOf b = (j : Int)) : (intOf a + 1).toNat < (intOf b + 1).toNat := by rw [ha, hb]; omega
theorem u8_of {n : Nat} (h : n < 256) : u8v (UInt8.ofNat n) = .int .u8 (n : Int) := by unfold u8v; rw [iu8_ofNat n h]
end Go.Proofs.YtgkljncigbiffaaDoor

/- Maps keyed by ints, in a block of the call's own: what is looked up, stored, cleared, made. Plain facts over any program. No condition. -/
namespace Go
open Go.RowKit Go.Instr Go.MapKept
/-- A map's block. -/
def MapB (w : World) (g : Nat) (es : Array MapEntry) (c : Nat) : Prop := w.heap[g]? = some (.map es c)
section
variable {w w' : World} {g : Nat} {es : Array MapEntry} {c : Nat}
theorem MapB.lt (h : MapB w g es c) : g < w.heap.size := (Array.getElem?_eq_some_iff.1 h).1
theorem MapB.below {B : Nat} (h : MapB w g es c) (hb : Below B w w') (hlt : g < B) : MapB w' g es c := (hb.block g hlt).trans h
theorem MapB.upd {k : Nat} (h : MapB w g es c) (u : Upd k w w') (hne : g ≠ k) : MapB w' g es c := (u.block g hne).trans h
theorem MapB.drew (h : MapB w g es c) : MapB w.drew g es c := h
theorem MapB.alloc (h : MapB w g es c) (o : Obj) : MapB (w.alloc o) g es c := by
  have hl := h.lt
  unfold MapB at *
  rw [← h]
  exact ((Below.refl w.heap.size w).alloc (Nat.le_refl _) o).block g hl
theorem MapB.new (w : World) (es : Array MapEntry) (c : Nat) : MapB (w.alloc (.map es c)) w.heap.size es c := heap_alloc_last w _
instance : KeepsTo w w' (MapB w g es c) (MapB w' g es c) := ⟨fun hb h => h.below hb h.lt⟩
end
/-- The place and the element of a key. -/
def mfind : List MapEntry → Int → Nat → Option (Nat × Value)
  | [], _, _ => none
  | e :: es, a, i => match e.key with
    | .int .i64 b => if a = b then some (i, e.val) else mfind es a (i + 1)
    | _ => mfind es a (i + 1)
def IntKeys (es : List MapEntry) : Prop := ∀ e ∈ es, ∃ a, e.key = .int .i64 a
def mget (es : Array MapEntry) (a : Int) : Option Value := (mfind es.toList a 0).map (·.2)
theorem findNow_int (a : Int) : ∀ (es : List MapEntry) (i : Nat), IntKeys es → findNow (.int .i64) (.int .i64 a) es i = some (mfind es a i)
  | [], _, _ => rfl
  | e :: es, i, h => by
    obtain ⟨b, hb⟩ := h e (.head _)
    have ih := findNow_int a es (i + 1) (fun x hx => h x (.tail _ hx))
    unfold findNow mfind
    rw [hb]
    by_cases hab : a = b
    · subst hab; simp [sameNow]
    · simp only [sameNow, if_true, beq_eq_false_iff_ne.2 hab, if_neg hab, ih]
/-- What a store leaves. -/
def mput (es : Array MapEntry) (c : Nat) (a : Int) (v : Value) : Array MapEntry × Nat :=
  match mfind es.toList a 0 with
  | some (i, _) => (es.modify i fun e => { e with key := .int .i64 a, val := v }, c)
  | none => (es.push { key := .int .i64 a, val := v, born := c }, c + 1)
theorem mfind_lt (a : Int) : ∀ (es : List MapEntry) (i j : Nat) (v : Value), mfind es a i = some (j, v) → i ≤ j ∧ ∃ e, es[j - i]? = some e ∧ e.key = .int .i64 a ∧ e.val = v
  | [], _, _, _, h => by cases h
  | e :: es, i, j, v, h => by
    unfold mfind at h
    split at h
    · rename_i b hb
      by_cases hab : a = b
      · rw [if_pos hab] at h
        injection h with h; injection h with h1 h2
        subst h1 h2
        exact ⟨Nat.le_refl _, e, by simp, by rw [hb, hab], rfl⟩
      · rw [if_neg hab] at h
        obtain ⟨h1, e', h2, h3⟩ := mfind_lt a es (i + 1) j v h
        exact ⟨by omega, e', by rw [show j - i = (j - (i + 1)) + 1 by omega]; simpa using h2, h3⟩
    · obtain ⟨h1, e', h2, h3⟩ := mfind_lt a es (i + 1) j v h
      exact ⟨by omega, e', by rw [show j - i = (j - (i + 1)) + 1 by omega]; simpa using h2, h3⟩
theorem IntKeys.put {es : Array MapEntry} {c : Nat} {a : Int} {v : Value} (h : IntKeys es.toList) : IntKeys (mput es c a v).1.toList := by
  unfold mput
  split
  · intro e he
    rw [Array.toList_modify] at he
    obtain ⟨k, hk, rfl⟩ := List.getElem_of_mem he
    rw [List.getElem_modify]
    split
    · exact ⟨a, rfl⟩
    · exact h _ (List.getElem_mem _)
  · intro e he
    rw [Array.toList_push, List.mem_append, List.mem_singleton] at he
    rcases he with he | rfl
    · exact h e he
    · exact ⟨a, rfl⟩
section
variable {P : Program} {w : World} {ops : Array Oper} {rest : List Oper} {o : Oper} {a : Act} {Q : Exit → Act → World → Prop}
theorem run_lookup_int (t kt et : TypeId) (ht : P.underlying t = some (.map kt et)) (hk : P.underlying kt = some (.int .i64)) (g : Nat) (es : Array MapEntry) (c : Nat) (hg : MapB w g es c) (hes : IntKeys es.toList) (x : Int) (z : Value)
    (hz : (zeroValue et).run P w = .ok z w) : (lookup t (.map (some g)) (.int .i64 x) true).run P w = .ok (.tuple #[(mget es x).getD z, .bool (mget es x).isSome]) w := by
  have h1 := run_checkKey (P := P) (w := w) (k := .int .i64 x) hk rfl es.isEmpty 9999
  have h2 := run_findKey (w := w) hk (findNow_int x es.toList 0 hes)
  have h0 : (getObj g).run P w = .ok (.map es c) w := MapKept.run_getObj_map hg
  unfold lookup mget
  cases hm : mfind es.toList x 0 with
  | none => rw [hm] at h2; simp [run_underlying ht, h0, h1, h2, hz, Result.andThen]
  | some p => rw [hm] at h2; simp [run_underlying ht, h0, h1, h2, Result.andThen]
theorem wpList_lookup_int (hgd : o.guard = none) (t kt et : TypeId) (m k : Operand) (ho : o.op = .lookup t m k true) (ht : P.underlying t = some (.map kt et)) (hk : P.underlying kt = some (.int .i64)) (g : Nat) (es : Array MapEntry) (c : Nat)
    (hg : MapB w g es c) (hes : IntKeys es.toList) (x : Int) (z : Value) (hz : (zeroValue et).run P w = .ok z w) (hm : a.eval m = .map (some g)) (hx : a.eval k = .int .i64 x)
    (h : wpList P ops Q rest (a.put o.dst (.tuple #[(mget es x).getD z, .bool (mget es x).isSome])) w) : wpList P ops Q (o :: rest) a w :=
  wpList_run _ hgd (by unfold execOp; simp only [ho, hm, hx, run_lookup_int t kt et ht hk g es c hg hes x z hz, Sem.run_bind, Result.andThen_ok, Sem.run_pure]) h
theorem sameBits_int (x : Int) : sameBits 10000 (.int .i64 x) (.int .i64 x) = true := by simp [sameBits]
theorem run_mapUpdate_int (t kt et : TypeId) (ht : P.underlying t = some (.map kt et)) (hk : P.underlying kt = some (.int .i64)) (g : Nat) (es : Array MapEntry) (c : Nat) (hg : MapB w g es c) (hes : IntKeys es.toList) (x : Int) (v : Value) :
    ∃ w', (mapUpdate t (.map (some g)) (.int .i64 x) v).run P w = .ok () w' ∧ MapB w' g (mput es c x v).1 (mput es c x v).2 ∧ Upd g w w' := by
  have h1 := run_checkKey (P := P) (w := w) (k := .int .i64 x) hk rfl false 9999
  have h2 := run_findKey (w := w) hk (findNow_int x es.toList 0 hes)
  have hu : ∀ ob, MapB w g es c → Upd g w { w with heap := w.heap.setIfInBounds g ob } := fun ob _ => ⟨rfl, rfl, rfl, by simp, fun k hk => by simp [Ne.symm hk]⟩
  have h0 : (getObj g).run P w = .ok (.map es c) w := MapKept.run_getObj_map hg
  have hs : ∀ ob, (setObj g ob).run P w = .ok () { w with heap := w.heap.setIfInBounds g ob } := fun ob => MapKept.run_setObj_map ob hg
  unfold mapUpdate mput
  cases hm : mfind es.toList x 0 with
  | none =>
    rw [hm] at h2
    simp only [Sem.run_bind, run_underlying ht, Result.andThen_ok, h0, h1, h2, hs]
    exact ⟨_, rfl, (heap_set hg).1, hu _ hg⟩
  | some p =>
    obtain ⟨i, v0⟩ := p
    obtain ⟨_, e, h3, h4, _⟩ := mfind_lt x es.toList 0 i v0 hm
    have h5 : ((es[i]?).map (·.key)).getD (.int .i64 x) = .int .i64 x := by
      rw [Nat.sub_zero, Array.getElem?_toList] at h3
      rw [h3]; exact h4
    rw [hm] at h2
    simp only [Sem.run_bind, run_underlying ht, Result.andThen_ok, h0, h1, h2, h5, keyThatStays, sameBits_int, if_true, Sem.run_pure, hs]
    exact ⟨_, rfl, (heap_set hg).1, hu _ hg⟩
theorem wpList_mapUpdate_int (hgd : o.guard = none) (t kt et : TypeId) (m k y : Operand) (ho : o.op = .mapUpdate t m k y) (ht : P.underlying t = some (.map kt et)) (hk : P.underlying kt = some (.int .i64)) (g : Nat) (es : Array MapEntry) (c : Nat)
    (hg : MapB w g es c) (hes : IntKeys es.toList) (x : Int) (v : Value) (hm : a.eval m = .map (some g)) (hx : a.eval k = .int .i64 x) (hy : a.eval y = v)
    (h : ∀ w', MapB w' g (mput es c x v).1 (mput es c x v).2 → Upd g w w' → wpList P ops Q rest (a.put o.dst undef) w') : wpList P ops Q (o :: rest) a w := by
  obtain ⟨w', h1, h2, h3⟩ := run_mapUpdate_int t kt et ht hk g es c hg hes x v
  refine wpList_plain hgd fun _ hK => ?_
  unfold Oper.wp execOp
  simp only [ho, hm, hx, hy, h1, Sem.run_bind, Sem.run_pure, Result.andThen_ok]
  exact hK _ _ (h w' h2 h3)
theorem wpList_clear_map (hgd : o.guard = none) (t : TypeId) (m : Operand) (d : TypeDesc) (ho : o.op = .call { callee := .builtin .clear, args := #[m], argTypes := #[t] }) (ht : P.underlying t = some d) (g : Nat) (es : Array MapEntry) (c : Nat)
    (hg : MapB w g es c) (hm : a.eval m = .map (some g)) (h : ∀ w', MapB w' g #[] c → Upd g w w' → wpList P ops Q rest (a.put o.dst (.tuple #[])) w') : wpList P ops Q (o :: rest) a w := by
  refine wpList_plain hgd fun _ hK => ?_
  have hr : (Builtin.clear_ #[t] o.type #[.map (some g)]).run P w = .ok (.tuple #[]) { w with heap := w.heap.setIfInBounds g (.map #[] c) } := by
    unfold Builtin.clear_
    have h0 : (getObj g).run P w = .ok (.map es c) w := MapKept.run_getObj_map hg
    have hs : ∀ ob, (setObj g ob).run P w = .ok () { w with heap := w.heap.setIfInBounds g ob } := fun ob => MapKept.run_setObj_map ob hg
    simp [run_underlying ht, h0, hs, Result.andThen]
  unfold Oper.wp
  simp [execOp, ho, resolve, invoke, builtin, hm, hr, Result.andThen]
  exact hK _ _ (h _ (heap_set hg).1 ⟨rfl, rfl, rfl, by simp, fun k hk => by simp [Ne.symm hk]⟩)
end
end Go

/- Worlds that differ in a few blocks and in new ones alone. Plain facts. No condition. -/
namespace Go
open Go.RowKit
/-- Of the blocks that were there, those of X alone may have been written. -/
structure Near (X : List Nat) (w w' : World) : Prop where
  os : w'.os = w.os
  tape : w'.tape = w.tape
  output : w'.output = w.output
  size : w.heap.size ≤ w'.heap.size
  block : ∀ k, k < w.heap.size → k ∉ X → w'.heap[k]? = w.heap[k]?
section
variable {X Y : List Nat} {w w' w'' : World}
theorem Near.refl (X : List Nat) (w : World) : Near X w w := ⟨rfl, rfl, rfl, Nat.le_refl _, fun _ _ _ => rfl⟩
theorem Near.trans (h : Near X w w') (k : Near X w' w'') : Near X w w'' :=
  ⟨k.os.trans h.os, k.tape.trans h.tape, k.output.trans h.output, Nat.le_trans h.size k.size, fun x hx hn => (k.block x (Nat.lt_of_lt_of_le hx h.size) hn).trans (h.block x hx hn)⟩
theorem Near.wider (h : Near X w w') (hs : ∀ x ∈ X, x ∈ Y) : Near Y w w' := ⟨h.os, h.tape, h.output, h.size, fun k hk hn => h.block k hk fun hx => hn (hs k hx)⟩
theorem Near.below (h : Below w.heap.size w w') : Near X w w' := ⟨h.os, h.tape, h.output, h.size, fun k hk _ => h.block k hk⟩
theorem Near.upd {g : Nat} (u : Upd g w w') (hg : g ∈ X) : Near X w w' := ⟨u.os, u.tape, u.output, by rw [u.size]; exact Nat.le_refl _, fun k _ hn => u.block k fun e => hn (e ▸ hg)⟩
theorem Near.drew (h : Near X w w') : Near X w w'.drew := ⟨h.os, h.tape, h.output, h.size, h.block⟩
/-- Blocks that came later may be written as well. -/
theorem Near.new {g : Nat} (h : Near X w w') (u : Upd g w' w'') (hg : w.heap.size ≤ g) : Near X w w'' :=
  ⟨u.os.trans h.os, u.tape.trans h.tape, u.output.trans h.output, by rw [u.size]; exact h.size, fun k hk hn => (u.block k (by omega)).trans (h.block k hk hn)⟩
theorem Near.toBelow {B : Nat} (h : Near X w w') (hX : ∀ x ∈ X, B ≤ x) (hB : B ≤ w.heap.size) : Below B w w' := ⟨h.os, h.tape, h.output, h.size, fun k hk => h.block k (by omega) fun hx => by have := hX k hx; omega⟩
theorem Blk.near {g : Nat} {t : TypeId} {cs : Array Value} (h : Blk w g t cs) (k : Near X w w') (hn : g ∉ X) : Blk w' g t cs := (k.block g h.lt hn).trans h
theorem MapB.near {g : Nat} {es : Array MapEntry} {c : Nat} (h : MapB w g es c) (k : Near X w w') (hn : g ∉ X) : MapB w' g es c := (k.block g h.lt hn).trans h
theorem Near.cell {p : Addr} (k : Near X w w') (hp : p.block < w.heap.size) (hn : p.block ∉ X) : w'.cell? p = w.cell? p := by
  unfold World.cell?; rw [k.block _ hp hn]
theorem Bytes.near {A : Option Addr} {l : List UInt8} (h : Bytes w A l) (k : Near X w w') (hn : ∀ ad, A = some ad → ad.block ∉ X) : Bytes w' A l := fun hne => by
  obtain ⟨b, off, e, hc⟩ := h hne
  refine ⟨b, off, e, fun j v hv => ?_⟩
  have h1 := hc j v hv
  exact (k.cell (p := ⟨b, off + j, none⟩) (World.block_lt_of_cell? w _ h1) (hn ⟨b, off, none⟩ e)).trans h1
end
end Go

/- Maps keyed by arrays or structs, in a block of the call's own: what is looked up, stored, stored through an entry. Plain facts over any program. No condition. -/
namespace Go
open Go.RowKit Go.Instr Go.MapKept
/-- Keys of a type: which values they are, that they may be keys, how they are compared. -/
structure KeyLaw (P : Program) (kt : TypeId) {α : Type} (ok : α → Prop) (enc : α → Value) : Prop where
  wide : (match P.underlying kt with | some (.array _ _) | some (.struct _) => true | _ => false) = true
  check : ∀ em x w, ok x → (checkKey em 10000 kt (enc x)).run P w = .ok () w
  eq : ∀ x y w, ok x → ok y → ∃ r : Bool, (Op.equal kt (enc x) (enc y)).run P w = .ok r w ∧ (r = true ↔ x = y)
  bits : ∀ x, ok x → sameBits 10000 (enc x) (enc x) = true
section
variable {α : Type}
def kfind [DecidableEq α] : List (α × Value) → α → Nat → Option (Nat × Value)
  | [], _, _ => none
  | p :: l, x, i => if x = p.1 then some (i, p.2) else kfind l x (i + 1)
def kget [DecidableEq α] (l : List (α × Value)) (x : α) : Option Value := (kfind l x 0).map (·.2)
/-- Where a key stands, or will stand. -/
def kat [DecidableEq α] (l : List (α × Value)) (x : α) : Nat := match kfind l x 0 with | some p => p.1 | none => l.length
/-- An entry is asked for. -/
def kask [DecidableEq α] (l : List (α × Value)) (x : α) (z : Value) : List (α × Value) := match kfind l x 0 with | some _ => l | none => l ++ [(x, z)]
def kput [DecidableEq α] (l : List (α × Value)) (x : α) (v : Value) : List (α × Value) := match kfind l x 0 with | some p => l.set p.1 (x, v) | none => l ++ [(x, v)]
theorem kfind_lt [DecidableEq α] {x : α} : ∀ (l : List (α × Value)) (i j : Nat) (v : Value), kfind l x i = some (j, v) → i ≤ j ∧ l[j - i]? = some (x, v)
  | [], _, _, _, h => by cases h
  | p :: l, i, j, v, h => by
    unfold kfind at h
    by_cases hx : x = p.1
    · rw [if_pos hx] at h
      injection h with h; injection h with h1 h2
      subst h1 h2
      exact ⟨Nat.le_refl _, by rw [Nat.sub_self, hx]; rfl⟩
    · rw [if_neg hx] at h
      obtain ⟨h1, h2⟩ := kfind_lt l (i + 1) j v h
      exact ⟨by omega, by rw [show j - i = (j - (i + 1)) + 1 by omega]; simpa using h2⟩
theorem kfind_shift [DecidableEq α] {x : α} : ∀ (l : List (α × Value)) (i : Nat), kfind l x i = (kfind l x 0).map fun p => (p.1 + i, p.2)
  | [], _ => rfl
  | p :: l, i => by
    unfold kfind
    by_cases hx : x = p.1
    · rw [if_pos hx, if_pos hx]; simp
    · rw [if_neg hx, if_neg hx, kfind_shift l (i + 1), kfind_shift l 1, Option.map_map]
      congr 1
      funext p
      simp only [Function.comp, Prod.mk.injEq, and_true]
      omega
theorem kget_cons [DecidableEq α] {p : α × Value} {l : List (α × Value)} {x : α} : kget (p :: l) x = if x = p.1 then some p.2 else kget l x := by
  unfold kget
  rw [kfind]
  by_cases hx : x = p.1
  · rw [if_pos hx, if_pos hx]; rfl
  · rw [if_neg hx, if_neg hx, kfind_shift l 1, Option.map_map]
    rfl
theorem kput_cons [DecidableEq α] {p : α × Value} {l : List (α × Value)} {x : α} {v : Value} : kput (p :: l) x v = if x = p.1 then (x, v) :: l else p :: kput l x v := by
  unfold kput
  rw [kfind]
  by_cases hx : x = p.1
  · rw [if_pos hx, if_pos hx]; rfl
  · rw [if_neg hx, if_neg hx, kfind_shift l 1]
    cases kfind l x 0 <;> rfl
theorem kget_put [DecidableEq α] (l : List (α × Value)) (x y : α) (v : Value) : kget (kput l x v) y = if y = x then some v else kget l y := by
  induction l with
  | nil =>
    show kget [(x, v)] y = _
    rw [kget_cons]
  | cons p l ih =>
    rw [kput_cons]
    by_cases hx : x = p.1
    · rw [if_pos hx, kget_cons, kget_cons]
      by_cases hy : y = x
      · rw [if_pos hy, if_pos hy]
      · rw [if_neg hy, if_neg hy, if_neg (by rw [← hx]; exact hy)]
    · rw [if_neg hx, kget_cons, kget_cons, ih]
      by_cases hy : y = p.1
      · rw [if_pos hy, if_pos hy, if_neg (by rw [hy]; exact fun e => hx e.symm)]
      · rw [if_neg hy, if_neg hy]
theorem kask_set [DecidableEq α] (l : List (α × Value)) (x : α) (z v : Value) : (kask l x z).set (kat l x) (x, v) = kput l x v := by
  unfold kask kat kput
  cases kfind l x 0 with
  | none => simp
  | some p => rfl
theorem kask_at [DecidableEq α] (l : List (α × Value)) (x : α) (z : Value) : ∃ v, (kask l x z)[kat l x]? = some (x, v) := by
  unfold kask kat
  cases h : kfind l x 0 with
  | none => exact ⟨z, by simp⟩
  | some p => exact ⟨p.2, by simpa using (kfind_lt l 0 p.1 p.2 h).2⟩
theorem kask_get [DecidableEq α] (l : List (α × Value)) (x : α) (z : Value) : (kget (kask l x z) x).getD z = (kget l x).getD z := by
  unfold kask
  cases h : kfind l x 0 with
  | some p => rfl
  | none =>
    have e : kput l x z = l ++ [(x, z)] := by unfold kput; rw [h]
    show (kget (l ++ [(x, z)]) x).getD z = _
    rw [← e, kget_put, if_pos rfl]
    unfold kget
    rw [h]; rfl
variable {P : Program} {kt : TypeId} {ok : α → Prop} {enc : α → Value}
/-- A map's entries are these pairs. -/
structure Says (ok : α → Prop) (enc : α → Value) (es : Array MapEntry) (c : Nat) (l : List (α × Value)) : Prop where
  pairs : es.toList.map (fun e => (e.key, e.val)) = l.map fun p => (enc p.1, p.2)
  born : (es.toList.map (·.born)).Nodup
  old : ∀ e ∈ es.toList, e.born < c
  ok : ∀ p ∈ l, ok p.1
def MapK (w : World) (g : Nat) (ok : α → Prop) (enc : α → Value) (l : List (α × Value)) : Prop := ∃ es c, MapB w g es c ∧ Says ok enc es c l
/-- And the entry of stamp b is the i-th. -/
def MapS (w : World) (g : Nat) (ok : α → Prop) (enc : α → Value) (l : List (α × Value)) (b : Int) (i : Nat) : Prop := ∃ es c, MapB w g es c ∧ Says ok enc es c l ∧ ∃ e, es[i]? = some e ∧ (e.born : Int) = b
theorem MapS.mapK {w : World} {g : Nat} {l : List (α × Value)} {b : Int} {i : Nat} (h : MapS w g ok enc l b i) : MapK w g ok enc l := by
  obtain ⟨es, c, h1, h2, _⟩ := h
  exact ⟨es, c, h1, h2⟩
theorem MapK.lt {w : World} {g : Nat} {l : List (α × Value)} (h : MapK w g ok enc l) : g < w.heap.size := by obtain ⟨es, c, h1, _⟩ := h; exact h1.lt
theorem MapK.near {w w' : World} {g : Nat} {l : List (α × Value)} {X : List Nat} (h : MapK w g ok enc l) (k : Near X w w') (hn : g ∉ X) : MapK w' g ok enc l := by obtain ⟨es, c, h1, h2⟩ := h; exact ⟨es, c, h1.near k hn, h2⟩
theorem MapS.near {w w' : World} {g : Nat} {l : List (α × Value)} {b : Int} {i : Nat} {X : List Nat} (h : MapS w g ok enc l b i) (k : Near X w w') (hn : g ∉ X) : MapS w' g ok enc l b i := by obtain ⟨es, c, h1, h2⟩ := h; exact ⟨es, c, h1.near k hn, h2⟩
theorem MapK.new (w : World) (c : Nat) : MapK (w.alloc (.map #[] c)) w.heap.size ok enc ([] : List (α × Value)) := ⟨#[], c, MapB.new w _ _, rfl, by simp, by simp, by simp⟩
theorem run_findAsking_k [DecidableEq α] (hk : KeyLaw P kt ok enc) (x : α) (hx : ok x) (w : World) : ∀ (es : List MapEntry) (l : List (α × Value)) (i : Nat), es.map (fun e => (e.key, e.val)) = l.map (fun p => (enc p.1, p.2)) → (∀ p ∈ l, ok p.1) → (findAsking kt (enc x) es i).run P w = .ok (kfind l x i) w
  | [], [], _, _, _ => by simp [findAsking, kfind]
  | [], _ :: _, _, h, _ => by simp at h
  | _ :: _, [], _, h, _ => by simp at h
  | e :: es, p :: l, i, h, ho => by
    simp only [List.map_cons, List.cons.injEq, Prod.mk.injEq] at h
    obtain ⟨⟨h1, h2⟩, h3⟩ := h
    obtain ⟨r, hr, hiff⟩ := hk.eq x p.1 w hx (ho p (.head _))
    have ih := run_findAsking_k hk x hx w es l (i + 1) h3 fun q hq => ho q (.tail _ hq)
    unfold findAsking kfind
    rw [h1]
    simp only [Sem.run_bind, hr, Result.andThen_ok]
    by_cases hxp : x = p.1
    · rw [hiff.2 hxp, if_pos hxp, h2]; simp
    · have : r = false := by cases r; rfl; exact absurd (hiff.1 rfl) hxp
      rw [this, if_neg hxp]
      simpa using ih
theorem run_findKey_k [DecidableEq α] (hk : KeyLaw P kt ok enc) (x : α) (hx : ok x) (w : World) {es : Array MapEntry} {c : Nat} {l : List (α × Value)} (hs : Says ok enc es c l) : (findKey kt (enc x) es.toList).run P w = .ok (kfind l x 0) w := by
  rw [run_findKey_eq (w := w) hk.wide]
  exact run_findAsking_k hk x hx w es.toList l 0 hs.pairs hs.ok
theorem run_lookup_k [DecidableEq α] (hk : KeyLaw P kt ok enc) (t et : TypeId) (ht : P.underlying t = some (.map kt et)) {w : World} {g : Nat} {l : List (α × Value)} (hg : MapK w g ok enc l) (x : α) (hx : ok x) (z : Value) (hz : (zeroValue et).run P w = .ok z w) (ck : Bool) :
    (lookup t (.map (some g)) (enc x) ck).run P w = .ok (if ck then .tuple #[(kget l x).getD z, .bool (kget l x).isSome] else (kget l x).getD z) w := by
  obtain ⟨es, c, hb, hs⟩ := hg
  have h1 := hk.check es.isEmpty x w hx
  have h2 := run_findKey_k hk x hx w hs
  have h0 : (getObj g).run P w = .ok (.map es c) w := MapKept.run_getObj_map hb
  unfold lookup kget
  cases hm : kfind l x 0 with
  | none => rw [hm] at h2; cases ck <;> simp [run_underlying ht, h0, h1, h2, hz, Result.andThen]
  | some p => rw [hm] at h2; cases ck <;> simp [run_underlying ht, h0, h1, h2, Result.andThen]
theorem Says.entry {es : Array MapEntry} {c : Nat} {l : List (α × Value)} (hs : Says ok enc es c l) {i : Nat} {p : α × Value} (h : l[i]? = some p) : ∃ e, es[i]? = some e ∧ e.key = enc p.1 ∧ e.val = p.2 := by
  have h1 := congrArg (·[i]?) hs.pairs
  simp only [List.getElem?_map, h, Option.map_some] at h1
  rw [Array.getElem?_toList] at h1
  cases he : es[i]? with
  | none => rw [he] at h1; simp at h1
  | some e =>
    rw [he] at h1
    simp only [Option.map_some, Option.some.injEq, Prod.mk.injEq] at h1
    exact ⟨e, rfl, h1.1, h1.2⟩
/-- An entry of the map is given its key anew, or a value. -/
theorem Says.modify {es : Array MapEntry} {c : Nat} {l : List (α × Value)} (hs : Says ok enc es c l) (i : Nat) (f : MapEntry → MapEntry) (q : α × Value) (hf : ∀ e, es[i]? = some e → (f e).key = enc q.1 ∧ (f e).val = q.2) (hb : ∀ e, (f e).born = e.born) (ho : ok q.1) :
    Says ok enc (es.modify i f) c (l.set i q) := by
  have hborn : (es.modify i f).toList.map (·.born) = es.toList.map (·.born) := by
    apply List.ext_getElem?
    intro j
    rw [Array.toList_modify, List.getElem?_map, List.getElem?_map, List.getElem?_modify]
    by_cases hij : i = j
    · subst hij; cases es.toList[i]? <;> simp [hb]
    · cases es.toList[j]? <;> simp [hij]
  refine ⟨?_, by rw [hborn]; exact hs.born, fun e he => ?_, fun p hp => ?_⟩
  · apply List.ext_getElem?
    intro j
    have h1 := congrArg (·[j]?) hs.pairs
    simp only [List.getElem?_map] at h1
    rw [List.getElem?_map, List.getElem?_map, Array.toList_modify, List.getElem?_modify, List.getElem?_set]
    by_cases hij : i = j
    · subst hij
      rw [if_pos rfl]
      cases he : es.toList[i]? with
      | none =>
        rw [he] at h1
        have h9 : l[i]? = none := by cases h : l[i]? with | none => rfl | some _ => rw [h] at h1; cases h1
        have : ¬ i < l.length := by rw [List.getElem?_eq_none_iff] at h9; omega
        rw [if_neg this]; rfl
      | some e =>
        rw [he] at h1
        have : i < l.length := by
          by_cases h : i < l.length
          · exact h
          · rw [List.getElem?_eq_none (by omega)] at h1; cases h1
        rw [if_pos this]
        obtain ⟨h2, h3⟩ := hf e (by rw [← Array.getElem?_toList]; exact he)
        simp [h2, h3]
    · rw [if_neg hij]
      cases he : es.toList[j]? with
      | none => rw [he] at h1; simpa [hij] using h1
      | some e => rw [he] at h1; simpa [hij] using h1
  · have hm : e.born ∈ (es.modify i f).toList.map (·.born) := List.mem_map.2 ⟨e, he, rfl⟩
    rw [hborn] at hm
    obtain ⟨e', he', hb'⟩ := List.mem_map.1 hm
    rw [← hb']; exact hs.old e' he'
  · rcases List.mem_or_eq_of_mem_set hp with h | h
    · exact hs.ok p h
    · rw [h]; exact ho
theorem Says.push {es : Array MapEntry} {c : Nat} {l : List (α × Value)} (hs : Says ok enc es c l) (x : α) (v : Value) (hx : ok x) : Says ok enc (es.push { key := enc x, val := v, born := c }) (c + 1) (l ++ [(x, v)]) := by
  refine ⟨?_, ?_, fun e he => ?_, fun p hp => ?_⟩
  · rw [Array.toList_push, List.map_append, List.map_append, hs.pairs]; rfl
  · rw [Array.toList_push, List.map_append]
    refine List.nodup_append.2 ⟨hs.born, by simp, fun a ha b hb => ?_⟩
    obtain ⟨e, he, rfl⟩ := List.mem_map.1 ha
    simp only [List.map_cons, List.map_nil, List.mem_singleton] at hb
    subst hb
    have := hs.old e he
    omega
  · rw [Array.toList_push, List.mem_append, List.mem_singleton] at he
    rcases he with he | rfl
    · have := hs.old e he; omega
    · exact Nat.lt_succ_self c
  · rw [List.mem_append, List.mem_singleton] at hp
    rcases hp with hp | rfl
    · exact hs.ok p hp
    · exact hx
theorem upd_heap {w : World} {g : Nat} (ob : Obj) : Upd g w { w with heap := w.heap.setIfInBounds g ob } := ⟨rfl, rfl, rfl, by simp, fun k hk => by simp [Ne.symm hk]⟩
theorem run_mapUpdate_k [DecidableEq α] (hk : KeyLaw P kt ok enc) (t et : TypeId) (ht : P.underlying t = some (.map kt et)) {w : World} {g : Nat} {l : List (α × Value)} (hg : MapK w g ok enc l) (x : α) (hx : ok x) (v : Value) :
    ∃ w', (mapUpdate t (.map (some g)) (enc x) v).run P w = .ok () w' ∧ MapK w' g ok enc (kput l x v) ∧ Upd g w w' := by
  obtain ⟨es, c, hb, hs⟩ := hg
  have h1 := hk.check false x w hx
  have h2 := run_findKey_k hk x hx w hs
  have h0 : (getObj g).run P w = .ok (.map es c) w := MapKept.run_getObj_map hb
  have hst : ∀ ob, (setObj g ob).run P w = .ok () { w with heap := w.heap.setIfInBounds g ob } := fun ob => MapKept.run_setObj_map ob hb
  unfold mapUpdate kput
  cases hm : kfind l x 0 with
  | none =>
    rw [hm] at h2
    simp only [Sem.run_bind, run_underlying ht, Result.andThen_ok, h0, h1, h2, hst]
    exact ⟨_, rfl, ⟨_, _, (heap_set hb).1, hs.push x v hx⟩, upd_heap _⟩
  | some p =>
    obtain ⟨i, v0⟩ := p
    have h3 := (kfind_lt l 0 i v0 hm).2
    rw [Nat.sub_zero] at h3
    obtain ⟨e, he, hke, _⟩ := hs.entry h3
    have h5 : ((es[i]?).map (·.key)).getD (enc x) = enc x := by rw [he]; exact hke
    rw [hm] at h2
    simp only [Sem.run_bind, run_underlying ht, Result.andThen_ok, h0, h1, h2, h5, keyThatStays, hk.bits x hx, if_true, Sem.run_pure, hst]
    exact ⟨_, rfl, ⟨_, _, (heap_set hb).1, hs.modify i _ (x, v) (fun _ _ => ⟨rfl, rfl⟩) (fun _ => rfl) hx⟩, upd_heap _⟩
theorem run_mapEntry_k [DecidableEq α] (hk : KeyLaw P kt ok enc) (t et : TypeId) (ht : P.underlying t = some (.map kt et)) {w : World} {g : Nat} {l : List (α × Value)} (hg : MapK w g ok enc l) (x : α) (hx : ok x) (z : Value) (hz : (zeroValue et).run P w = .ok z w) :
    ∃ w' b, (mapEntry t (.map (some g)) (enc x)).run P w = .ok (.tuple #[(kget l x).getD z, .int .i64 b]) w' ∧ MapS w' g ok enc (kask l x z) b (kat l x) ∧ Upd g w w' := by
  obtain ⟨es, c, hb, hs⟩ := hg
  have h1 := hk.check false x w hx
  have h2 := run_findKey_k hk x hx w hs
  have h0 : (getObj g).run P w = .ok (.map es c) w := MapKept.run_getObj_map hb
  have hst : ∀ ob, (setObj g ob).run P w = .ok () { w with heap := w.heap.setIfInBounds g ob } := fun ob => MapKept.run_setObj_map ob hb
  have hlen : es.size = l.length := by have := congrArg List.length hs.pairs; simpa using this
  unfold mapEntry kask kat kget
  cases hm : kfind l x 0 with
  | none =>
    rw [hm] at h2
    simp only [Sem.run_bind, run_underlying ht, Result.andThen_ok, h0, h1, h2, hz, hst, Sem.run_pure]
    refine ⟨_, _, rfl, ⟨_, _, (heap_set hb).1, hs.push x z hx, { key := enc x, val := z, born := c }, ?_, rfl⟩, upd_heap _⟩
    rw [← hlen, Array.getElem?_push_size]
  | some p =>
    obtain ⟨i, v0⟩ := p
    have h3 := (kfind_lt l 0 i v0 hm).2
    rw [Nat.sub_zero] at h3
    obtain ⟨e, he, hke, hve⟩ := hs.entry h3
    have h5 : ((es[i]?).map (·.key)).getD (enc x) = enc x := by rw [he]; exact hke
    rw [hm] at h2
    simp only [Sem.run_bind, run_underlying ht, Result.andThen_ok, h0, h1, h2, h5, keyThatStays, hk.bits x hx, if_true, Sem.run_pure, hst]
    refine ⟨_, _, rfl, ⟨_, _, (heap_set hb).1, ?_, { e with key := enc x }, ?_, ?_⟩, upd_heap _⟩
    · have h := hs.modify i (fun e => { e with key := enc x }) (x, v0) (fun e' he' => by rw [he] at he'; injection he' with he'; exact ⟨rfl, by rw [← he']; exact hve⟩) (fun _ => rfl) hx
      have e2 : l.set i (x, v0) = l := by
        rw [List.getElem?_eq_some_iff] at h3
        obtain ⟨hlt, h3⟩ := h3
        rw [← h3]; exact List.set_getElem_self hlt
      rw [e2] at h; exact h
    · rw [Array.getElem?_modify, if_pos rfl, he]; rfl
    · show (e.born : Int) = _
      rw [he]; rfl
theorem run_entryStore_k [DecidableEq α] (t : TypeId) {w : World} {g : Nat} {l : List (α × Value)} {b : Int} {i : Nat} (hg : MapS w g ok enc l b i) (x : α) (v0 : Value) (hi : l[i]? = some (x, v0)) (v : Value) :
    ∃ w', (entryStore t (.map (some g)) (.int .i64 b) v).run P w = .ok () w' ∧ MapK w' g ok enc (l.set i (x, v)) ∧ Upd g w w' := by
  obtain ⟨es, c, hb, hs, e, he, hbe⟩ := hg
  have h0 : (getObj g).run P w = .ok (.map es c) w := MapKept.run_getObj_map hb
  have hst : ∀ ob, (setObj g ob).run P w = .ok () { w with heap := w.heap.setIfInBounds g ob } := fun ob => MapKept.run_setObj_map ob hb
  obtain ⟨e', he', hke, hve⟩ := hs.entry hi
  rw [he] at he'
  injection he' with he'
  subst he'
  have hfind : es.findIdx? (fun e => (e.born : Int) == b) = some i := by
    obtain ⟨hlt, hee⟩ := Array.getElem?_eq_some_iff.1 he
    rw [Array.findIdx?_eq_some_iff_getElem]
    refine ⟨hlt, by rw [hee]; simpa using hbe, fun j hji => ?_⟩
    have hjl : j < es.size := by omega
    intro hj
    have hj' : (es[j].born : Int) = b := by simpa using hj
    have hn := List.pairwise_iff_getElem.1 hs.born j i (by simpa using hjl) (by simpa using hlt) hji
    apply hn
    simp only [List.getElem_map, Array.getElem_toList, hee]
    omega
  unfold entryStore
  simp only [Sem.run_bind, Result.andThen_ok, h0, asInt, asIntOf, Sem.run_pure]
  rw [hfind]
  simp only [hst]
  exact ⟨_, rfl, ⟨_, _, (heap_set hb).1, hs.modify i _ (x, v) (fun e' he' => by rw [he] at he'; injection he' with he'; exact ⟨by rw [← he']; exact hke, rfl⟩) (fun _ => rfl) (show ok x from hs.ok (x, v0) (List.mem_of_getElem? hi))⟩, upd_heap _⟩
end
end Go

/- A range over a function that yields a fixed row of items; the state ahead of each round is known to the function, too. Plain facts over any program. No condition. -/
namespace Go
open Go.RowKit
section
variable {F : Fence} {n : Nat} {P : Program}
/-- The function's part: whoever calls keeps I, from round to round; then all N items are yielded, or the caller stops. -/
def RowOf (F : Fence) (n : Nat) (P : Program) (gf : Nat) (lb : Array Value) (encs : Nat → Array Value) (I : Nat → World → Prop) (N : Nat) : Prop :=
  ∀ (l : Nat) (J : Nat → World → Prop) (Jx : World → Prop) (W : World), (∀ k W, J k W → I k W) → (∀ k W W', J k W → Below W.heap.size W W' → J k W') → (∀ W W', Jx W → Below W.heap.size W W' → Jx W') →
    (∀ k W, J k W → k < N → YieldAt F (n - 1) P l (encs k) W fun e W' => (e = .returned (.bool true) ∧ J (k + 1) W') ∨ (e = .returned (.bool false) ∧ Jx W')) →
    J 0 W → CallsIn F n P gf (#[.func (.yield l) #[] #[]] ++ lb) W fun e W' => (∃ v, e = .returned v) ∧ (J N W' ∨ Jx W')
/-- How a round's body may end. -/
def rowPost (B : Nat) (I : World → Prop) (Ix : Code → World → Prop) (W : World) : Exit → Act → World → Prop
  | .normal, _, W' => KeepsFrom B W W' ∧ I W'
  | .ret, _, W' => KeepsFrom B W W' ∧ Ix .ret W'
  | .exit i, _, W' => KeepsFrom B W W' ∧ Ix (.exit i) W'
  | .goto t, _, W' => KeepsFrom B W W' ∧ Ix (.goto t) W'
  | .panic _, _, _ => False
  | .outgrown, _, _ => False
theorem KeepsFrom.near {B : Nat} {X : List Nat} {W W' : World} (h : Near X W W') (hX : ∀ x ∈ X, x < B) : KeepsFrom B W W' :=
  ⟨h.size, fun k _ hB hk _ => (h.block k (Array.getElem?_eq_some_iff.1 hk).1 (fun e => by have := hX k e; omega)).trans hk⟩
theorem KeepsFrom.below {B : Nat} {W W' : World} (h : Below W.heap.size W W') : KeepsFrom B W W' :=
  ⟨h.size, fun k _ _ hk _ => (h.block k (Array.getElem?_eq_some_iff.1 hk).1).trans hk⟩
theorem putObj_near (W : World) (l : Nat) (o : Obj) : Near [l] W (W.putObj l o) :=
  ⟨rfl, rfl, rfl, by simp [World.putObj], fun k _ hn => World.putObj_heap_other (fun e => hn (by rw [e]; exact List.mem_singleton_self _))⟩
theorem putObj_below {B : Nat} (W : World) (l : Nat) (o : Obj) (hB : B ≤ l) (hs : B ≤ W.heap.size) : Below B W (W.putObj l o) :=
  (putObj_near W l o).toBelow (fun x hx => by rw [List.mem_singleton.1 hx]; exact hB) hs
/-- What lay below B, and all cells, lie as they lay. -/
structure Kept (B : Nat) (W W' : World) : Prop where
  os : W'.os = W.os
  tape : W'.tape = W.tape
  output : W'.output = W.output
  size : W.heap.size ≤ W'.heap.size
  low : ∀ j, j < B → j < W.heap.size → W'.heap[j]? = W.heap[j]?
  cells : ∀ (j : Nat) (o : Obj), W.heap[j]? = some o → o.isCells = true → W'.heap[j]? = some o
theorem Kept.below {B : Nat} {W W' : World} (h : Below W.heap.size W W') : Kept B W W' :=
  ⟨h.os, h.tape, h.output, h.size, fun j _ hj => h.block j hj, fun j _ hj _ => (h.block j (Array.getElem?_eq_some_iff.1 hj).1).trans hj⟩
theorem Kept.put {B : Nat} {W : World} {l : Nat} {o o' : Obj} (hB : B ≤ l) (hl : W.heap[l]? = some o') (ho : o'.isCells = false) : Kept B W (W.putObj l o) :=
  ⟨rfl, rfl, rfl, by simp [World.putObj], fun j hj _ => World.putObj_heap_other (by omega), fun j o2 hj h2 => by
    by_cases e : j = l
    · subst e; rw [hl] at hj; injection hj with hj; subst hj; rw [ho] at h2; cases h2
    · exact (World.putObj_heap_other e).trans hj⟩
theorem Blk.keptW {B : Nat} {W W' : World} {g : Nat} {t : TypeId} {cs : Array Value} (h : Blk W g t cs) (k : Kept B W W') : Blk W' g t cs := k.cells g _ h rfl
theorem MapB.keptW {B : Nat} {W W' : World} {g : Nat} {es : Array MapEntry} {c : Nat} (h : MapB W g es c) (k : Kept B W W') (hg : g < B) : MapB W' g es c := (k.low g hg h.lt).trans h
theorem Kept.cell {B : Nat} {W W' : World} (k : Kept B W W') {p : Addr} {v : Value} (h : W.cell? p = some v) : W'.cell? p = some v := by
  unfold World.cell? at h ⊢
  split at h
  · rename_i cs t e
    rw [k.cells _ _ e rfl]; exact h
  · cases h
theorem Near.keptW {B : Nat} {X : List Nat} {w W W' : World} (h : Near X w W) (k : Kept B W W') (hB : w.heap.size ≤ B) : Near X w W' :=
  ⟨k.os.trans h.os, k.tape.trans h.tape, k.output.trans h.output, Nat.le_trans h.size k.size, fun j hj hn => (k.low j (by omega) (Nat.lt_of_lt_of_le hj h.size)).trans (h.block j hj hn)⟩
theorem Near.high {X Y : List Nat} {w W W' : World} (h : Near X w W) (k : Near Y W W') (hY : ∀ y ∈ Y, w.heap.size ≤ y) : Near X w W' :=
  ⟨k.os.trans h.os, k.tape.trans h.tape, k.output.trans h.output, Nat.le_trans h.size k.size, fun j hj hn => (k.block j (Nat.lt_of_lt_of_le hj h.size) (fun hx => by have := hY j hx; omega)).trans (h.block j hj hn)⟩
theorem Reads.keptW {B : Nat} {W W' : World} {A : Option Addr} {xs : List Value} (h : Reads W A xs) (k : Kept B W W') : Reads W' A xs := fun hn => by
  obtain ⟨b, off, e, hc⟩ := h hn
  exact ⟨b, off, e, fun j v hv => k.cell (hc j v hv)⟩
theorem wpIn_rangeRow {g : Operand} {ps : Array Tmp} {assign body : Code} {Q : Exit → Act → World → Prop} {a : Act} {w : World}
    (hro : F.round = none) (h1 : 1 ≤ n) {gf : Nat} {lb : Array Value} (hg : a.eval g = .func (.func gf) #[] lb) (hFg : F.fn gf) (eg : ∀ args w, (callFunc gf args).run P w = .ok (.enter gf args) w)
    (encs : Nat → Array Value) (hps : ∀ k, (encs k).size = ps.size) (N : Nat) (I : Nat → World → Prop) (Ix : Code → World → Prop)
    (hI : ∀ k W W', I k W → Kept w.heap.size W W' → I k W') (hIx : ∀ c W W', Ix c W → Kept w.heap.size W W' → Ix c W') (h0 : I 0 w)
    (hrow : RowOf F (n - 1) P gf lb encs I N)
    (hround : ∀ l k W, w.heap.size ≤ l → l < W.heap.size → I k W → k < N → assign.wpIn (F.inRound l) (n - 1 - 1) P
      (Exit.then (fun a₁ W₁ => Below W.heap.size W W₁ ∧ ∀ W₂, Kept w.heap.size W₁ W₂ → body.wpIn (F.inRound l) (n - 1 - 1) P (rowPost w.heap.size (I (k + 1)) Ix W₂) a₁ W₂) (fun _ _ _ => False))
      { tmps := (ps.zip (encs k)).foldl (fun t (p, v) => t.setIfInBounds p v) a.tmps, defers := [] } W)
    (hdone : ∀ D W, w.heap.size ≤ D → I N W → W.heap[D]? = some (.deferred (some [])) → Q .normal { a with defers := { target := .collected D, args := #[] } :: a.defers } W)
    (hstop : ∀ D c W, w.heap.size ≤ D → Ix c W → W.heap[D]? = some (.deferred (some [])) → c.wpIn F n P Q { a with defers := { target := .collected D, args := #[] } :: a.defers } W) :
    (Code.rangeFunc g ps assign body).wpIn F n P Q a w := by
  refine wpIn_rangeFunc fun fn hfn => ?_
  rw [hro]
  -- the loop's record, in a state; the two blocks that the loop lays
  let R : LoopState → Option Code → Obj := fun st pe => .loop { state := st, pending := pe, fn, tmps := a.tmps, params := ps, assign, body, defers := w.heap.size }
  let D := w.heap.size
  let l := w.heap.size + 1
  -- what the loop needs of a world, beside the caller's own
  let Bk : LoopState → Option Code → World → Prop := fun st pe W => W.heap[l]? = some (R st pe) ∧ W.heap[D]? = some (.deferred (some []))
  have bklt : ∀ {st pe W}, Bk st pe W → l < W.heap.size := fun h => (Array.getElem?_eq_some_iff.1 h.1).1
  have bkput : ∀ {st pe W} st' pe', Bk st pe W → Bk st' pe' (W.putObj l (R st' pe')) := fun st' pe' h =>
    ⟨World.putObj_heap_same (bklt h), (World.putObj_heap_other (by show D ≠ l; omega)).trans h.2⟩
  have bkput' : ∀ {st pe W} (o : Obj), Bk st pe W → (W.putObj l o).heap[D]? = some (.deferred (some [])) := fun o h => (World.putObj_heap_other (by show D ≠ l; omega)).trans h.2
  have bkbel : ∀ {st pe W W'}, Bk st pe W → Below W.heap.size W W' → Bk st pe W' := fun h k =>
    ⟨(k.block _ (bklt h)).trans h.1, (k.block _ (by have := bklt h; omega)).trans h.2⟩
  have low : ∀ {st pe W}, Bk st pe W → w.heap.size ≤ W.heap.size := fun h => by have := bklt h; omega
  have put : ∀ {st pe W} (o : Obj), Bk st pe W → Kept w.heap.size W (W.putObj l o) := fun o h => Kept.put (by show D ≤ l; omega) h.1 rfl
  -- the world behind the loop's entry
  let W1 := (w.alloc (.deferred (some []))).alloc (R .ready none)
  have e1 : Below w.heap.size w W1 := ((Below.refl _ w).alloc (Nat.le_refl _) _).alloc (by simp) _
  have b1 : Bk .ready none W1 := by
    refine ⟨?_, ?_⟩
    · have h := World.alloc_heap_new (w.alloc (.deferred (some []))) (R .ready none)
      rwa [World.size_alloc] at h
    · exact (Below.heap_alloc _ _ _ (by rw [World.size_alloc]; exact Nat.lt_succ_self _)).trans (World.alloc_heap_new w _)
  refine ⟨l, [{ target := .collected D, args := #[] }], W1, { target := .fn (.func gf) lb, args := #[.func (.yield l) #[] #[]] }, W1, gf, #[.func (.yield l) #[] #[]] ++ lb, W1,
    run_enterLoop_outer _ _ _ _ _, ?_, ?_, ?_, fun _ => h1, ?_⟩
  · simp only [resolve, hg]
    simp [go_sem]
  · intro f' hf'
    simp [Target.leads] at hf'
    exact hf' ▸ hFg
  · simp [invoke, go_sem, eg]
  refine (hrow l (fun k W => I k W ∧ Bk .ready none W) (fun W => ∃ c, Ix c W ∧ Bk .done (some c) W) W1 (fun _ _ h => h.1)
    (fun k W W' h b => ⟨hI k W W' h.1 (Kept.below b), bkbel h.2 b⟩) (fun W W' h b => by obtain ⟨c, hc, hb⟩ := h; exact ⟨c, hIx c W W' hc (Kept.below b), bkbel hb b⟩) ?_ ⟨hI 0 w W1 h0 (Kept.below e1), b1⟩).mono ?_
  · -- a round
    rintro k W ⟨hi, hb⟩ hk
    refine ⟨fn, _, assign, body, run_yield hb.1 (hps k), roundIn_of_wpIn hfn ?_⟩
    refine wpIn_mono (hround l k W (by show D ≤ l; omega) (bklt hb) hi hk) ?_
    rintro e a1 W2 he
    cases e
    case normal =>
      obtain ⟨hB, hbody⟩ := he
      have hb2 := bkbel hb hB
      refine ⟨_, run_beginRound hb2.1 rfl, ?_⟩
      have hb3 := bkput .busy none hb2
      refine wpIn_mono (hbody _ (Kept.put (by show D ≤ l; omega) hb2.1 rfl)) ?_
      rintro e3 a3 W4 hp
      have fin : KeepsFrom w.heap.size (W2.putObj l (R .busy none)) W4 → Bk .busy none W4 := fun hkf => ⟨hkf.same _ _ (by show D ≤ l; omega) hb3.1 rfl, hkf.same _ _ (Nat.le_refl _) hb3.2 rfl⟩
      cases e3 with
      | normal =>
        have hb4 := fin hp.1
        exact ⟨_, _, run_endRound none hb4.1, .inl ⟨rfl, hI _ _ _ hp.2 (put _ hb4), bkput .ready none hb4⟩⟩
      | ret =>
        have hb4 := fin hp.1
        exact ⟨_, _, run_endRound (some .ret) hb4.1, .inr ⟨rfl, .ret, hIx _ _ _ hp.2 (put _ hb4), bkput .done (some .ret) hb4⟩⟩
      | exit i =>
        have hb4 := fin hp.1
        exact ⟨_, _, run_endRound (some (.exit i)) hb4.1, .inr ⟨rfl, .exit i, hIx _ _ _ hp.2 (put _ hb4), bkput .done (some (.exit i)) hb4⟩⟩
      | goto t =>
        have hb4 := fin hp.1
        exact ⟨_, _, run_endRound (some (.goto t)) hb4.1, .inr ⟨rfl, .goto t, hIx _ _ _ hp.2 (put _ hb4), bkput .done (some (.goto t)) hb4⟩⟩
      | panic ch => exact hp.elim
      | outgrown => exact hp.elim
    all_goals exact he.elim
  · -- behind the function
    rintro e W2 ⟨⟨v, rfl⟩, (⟨hi, hb⟩ | ⟨c, hc, hb⟩)⟩
    · exact ⟨none, _, run_endLoop hb.1 (by simp), hdone D _ (Nat.le_refl _) (hI _ _ _ hi (put _ hb)) (bkput' _ hb)⟩
    · exact ⟨some c, _, run_endLoop hb.1 (by simp), hstop D c _ (Nat.le_refl _) (hIx _ _ _ hc (put _ hb)) (bkput' _ hb)⟩
end
end Go

/- Maps keyed by arrays or structs: the walk's arms. Plain facts over any program. No condition. -/
namespace Go
open Go.RowKit Go.Instr
section
variable {α : Type} {P : Program} {kt : TypeId} {ok : α → Prop} {enc : α → Value}
variable {w : World} {ops : Array Oper} {rest : List Oper} {o : Oper} {a : Act} {Q : Exit → Act → World → Prop}
theorem wpList_lookup_k [DecidableEq α] (hgd : o.guard = none) (hk : KeyLaw P kt ok enc) (t et : TypeId) (m k : Operand) (ck : Bool) (ho : o.op = .lookup t m k ck) (ht : P.underlying t = some (.map kt et)) {g : Nat} {l : List (α × Value)} (hg : MapK w g ok enc l)
    (x : α) (hx : ok x) (z : Value) (hz : (zeroValue et).run P w = .ok z w) (hm : a.eval m = .map (some g)) (he : a.eval k = enc x)
    (h : wpList P ops Q rest (a.put o.dst (if ck then .tuple #[(kget l x).getD z, .bool (kget l x).isSome] else (kget l x).getD z)) w) : wpList P ops Q (o :: rest) a w :=
  wpList_run _ hgd (by unfold execOp; simp only [ho, hm, he, run_lookup_k hk t et ht hg x hx z hz ck, Sem.run_bind, Result.andThen_ok, Sem.run_pure]) h
theorem wpList_mapUpdate_k [DecidableEq α] (hgd : o.guard = none) (hk : KeyLaw P kt ok enc) (t et : TypeId) (m k y : Operand) (ho : o.op = .mapUpdate t m k y) (ht : P.underlying t = some (.map kt et)) {g : Nat} {l : List (α × Value)} (hg : MapK w g ok enc l)
    (x : α) (hx : ok x) (v : Value) (hm : a.eval m = .map (some g)) (he : a.eval k = enc x) (hy : a.eval y = v)
    (h : ∀ w', MapK w' g ok enc (kput l x v) → Upd g w w' → wpList P ops Q rest (a.put o.dst undef) w') : wpList P ops Q (o :: rest) a w := by
  obtain ⟨w', h1, h2, h3⟩ := run_mapUpdate_k hk t et ht hg x hx v
  refine wpList_plain hgd fun _ hK => ?_
  unfold Oper.wp execOp
  simp only [ho, hm, he, hy, h1, Sem.run_bind, Sem.run_pure, Result.andThen_ok]
  exact hK _ _ (h w' h2 h3)
theorem wpList_mapEntry_k [DecidableEq α] (hgd : o.guard = none) (hk : KeyLaw P kt ok enc) (t et : TypeId) (m k : Operand) (ho : o.op = .mapEntry t m k) (ht : P.underlying t = some (.map kt et)) {g : Nat} {l : List (α × Value)} (hg : MapK w g ok enc l)
    (x : α) (hx : ok x) (z : Value) (hz : (zeroValue et).run P w = .ok z w) (hm : a.eval m = .map (some g)) (he : a.eval k = enc x)
    (h : ∀ w' b, MapS w' g ok enc (kask l x z) b (kat l x) → Upd g w w' → wpList P ops Q rest (a.put o.dst (.tuple #[(kget l x).getD z, .int .i64 b])) w') : wpList P ops Q (o :: rest) a w := by
  obtain ⟨w', b, h1, h2, h3⟩ := run_mapEntry_k hk t et ht hg x hx z hz
  refine wpList_plain hgd fun _ hK => ?_
  unfold Oper.wp execOp
  simp only [ho, hm, he, h1, Sem.run_bind, Sem.run_pure, Result.andThen_ok]
  exact hK _ _ (h w' b h2 h3)
theorem wpList_entryStore_k [DecidableEq α] (hgd : o.guard = none) (t : TypeId) (m s y : Operand) (ho : o.op = .entryStore t m s y) {g : Nat} {l : List (α × Value)} {b : Int} {x : α} {z : Value} (hg : MapS w g ok enc (kask l x z) b (kat l x))
    (v : Value) (hm : a.eval m = .map (some g)) (hs : a.eval s = .int .i64 b) (hy : a.eval y = v)
    (h : ∀ w', MapK w' g ok enc (kput l x v) → Upd g w w' → wpList P ops Q rest (a.put o.dst undef) w') : wpList P ops Q (o :: rest) a w := by
  obtain ⟨v0, hv0⟩ := kask_at l x z
  obtain ⟨w', h1, h2, h3⟩ := run_entryStore_k (P := P) t hg x v0 hv0 v
  rw [kask_set] at h2
  refine wpList_plain hgd fun _ hK => ?_
  unfold Oper.wp execOp
  simp only [ho, hm, hs, hy, h1, Sem.run_bind, Sem.run_pure, Result.andThen_ok]
  exact hK _ _ (h w' h2 h3)
theorem MapK.keptW {B : Nat} {W W' : World} {g : Nat} {l : List (α × Value)} (h : MapK W g ok enc l) (k : Kept B W W') (hg : g < B) : MapK W' g ok enc l := by obtain ⟨es, c, h1, h2⟩ := h; exact ⟨es, c, h1.keptW k hg, h2⟩
end
end Go

/- Maps keyed by arrays or structs: an entry is deleted. Plain facts over any program. No condition. -/
namespace Go
open Go.RowKit Go.Instr Go.MapKept
section
variable {α : Type} {P : Program} {kt : TypeId} {ok : α → Prop} {enc : α → Value}
theorem eraseIdx_map' {β γ : Type} (f : β → γ) : ∀ (l : List β) (i : Nat), (l.map f).eraseIdx i = (l.eraseIdx i).map f
  | [], _ => by simp
  | x :: l, 0 => by simp
  | x :: l, i + 1 => by simp [eraseIdx_map' f l i]
def kdel [DecidableEq α] (l : List (α × Value)) (x : α) : List (α × Value) := match kfind l x 0 with | some p => l.eraseIdx p.1 | none => l
theorem kdel_cons [DecidableEq α] {p : α × Value} {l : List (α × Value)} {x : α} : kdel (p :: l) x = if x = p.1 then l else p :: kdel l x := by
  unfold kdel
  rw [kfind]
  by_cases h : x = p.1
  · rw [if_pos h, if_pos h]; rfl
  · rw [if_neg h, if_neg h, kfind_shift]
    cases kfind l x 0 with
    | none => rfl
    | some q => rfl
theorem Says.erase {es : Array MapEntry} {c : Nat} {l : List (α × Value)} (hs : Says ok enc es c l) (i : Nat) : Says ok enc (es.eraseIdxIfInBounds i) c (l.eraseIdx i) := by
  have e : (es.eraseIdxIfInBounds i).toList = es.toList.eraseIdx i := by
    rw [Array.eraseIdxIfInBounds]
    split
    · simp
    · rename_i h
      rw [List.eraseIdx_of_length_le (by simpa using h)]
  refine ⟨?_, ?_, ?_, fun p hp => hs.ok p (List.mem_of_mem_eraseIdx hp)⟩
  · rw [e, ← eraseIdx_map', hs.pairs, eraseIdx_map']
  · rw [e, ← eraseIdx_map']
    exact (List.eraseIdx_sublist _ _).nodup hs.born
  · intro x hx
    rw [e] at hx
    exact hs.old x (List.mem_of_mem_eraseIdx hx)
theorem run_delete_k [DecidableEq α] (hk : KeyLaw P kt ok enc) (t tk ty et : TypeId) (ht : P.underlying t = some (.map kt et)) {w : World} {g : Nat} {l : List (α × Value)} (hg : MapK w g ok enc l) (x : α) (hx : ok x) :
    ∃ w', (Builtin.delete_ #[t, tk] ty #[.map (some g), enc x]).run P w = .ok (.tuple #[]) w' ∧ MapK w' g ok enc (kdel l x) ∧ Upd g w w' := by
  obtain ⟨es, c, hb, hs⟩ := hg
  have h1 := hk.check es.isEmpty x w hx
  have h2 := run_findKey_k hk x hx w hs
  have h0 : (getObj g).run P w = .ok (.map es c) w := MapKept.run_getObj_map hb
  have hst : ∀ ob, (setObj g ob).run P w = .ok () { w with heap := w.heap.setIfInBounds g ob } := fun ob => MapKept.run_setObj_map ob hb
  unfold Builtin.delete_ kdel
  cases hm : kfind l x 0 with
  | none =>
    rw [hm] at h2
    simp only [List.getElem?_toArray, List.getElem?_cons_zero, List.getElem?_cons_succ, Sem.run_bind, run_underlying ht, Result.andThen_ok, h0, h1, h2, hst, Sem.run_pure]
    exact ⟨_, rfl, ⟨_, _, (heap_set hb).1, hs⟩, upd_heap _⟩
  | some p =>
    obtain ⟨i, v0⟩ := p
    rw [hm] at h2
    simp only [List.getElem?_toArray, List.getElem?_cons_zero, List.getElem?_cons_succ, Sem.run_bind, run_underlying ht, Result.andThen_ok, h0, h1, h2, hst, Sem.run_pure]
    exact ⟨_, rfl, ⟨_, _, (heap_set hb).1, hs.erase i⟩, upd_heap _⟩
variable {w : World} {ops : Array Oper} {rest : List Oper} {o : Oper} {a : Act} {Q : Exit → Act → World → Prop}
theorem wpList_delete_k [DecidableEq α] (hgd : o.guard = none) (hk : KeyLaw P kt ok enc) (t tk et : TypeId) (m k : Operand) (ho : o.op = .call { callee := .builtin .delete, args := #[m, k], argTypes := #[t, tk] }) (ht : P.underlying t = some (.map kt et)) {g : Nat} {l : List (α × Value)} (hg : MapK w g ok enc l)
    (x : α) (hx : ok x) (hm : a.eval m = .map (some g)) (he : a.eval k = enc x)
    (h : ∀ w', MapK w' g ok enc (kdel l x) → Upd g w w' → wpList P ops Q rest (a.put o.dst (.tuple #[])) w') : wpList P ops Q (o :: rest) a w := by
  obtain ⟨w', h1, h2, h3⟩ := run_delete_k (P := P) hk t tk o.type et ht hg x hx
  refine wpList_plain hgd fun _ hK => ?_
  unfold Oper.wp execOp
  simp only [ho, resolve, invoke, builtin, Sem.run_bind, Sem.run_pure, Result.andThen_ok, List.map_toArray, List.map_cons, List.map_nil, hm, he, h1]
  exact hK _ _ (h w' h2 h3)
end
end Go
