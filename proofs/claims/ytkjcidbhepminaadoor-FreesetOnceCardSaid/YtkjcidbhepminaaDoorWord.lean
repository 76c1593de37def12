/- Words of 64 bits and the bits in them: a bit read, set, cleared; bits counted; the lowest one. Plain arithmetic. Conditions: the words are below 2^64. -/
import Derived.Laws.BitsAllLaws
import Derived.Laws.BitsLemmas
import Derived.Lib.TrailingZeros
namespace Go.Proofs.YtkjcidbhepminaaDoor
/-- How many of the lowest n bits of x are set. -/
def pop : Nat → Nat → Nat
  | 0, _ => 0
  | n + 1, x => x % 2 + pop n (x / 2)
theorem pop_add (m : Nat) : ∀ (n x : Nat), pop (n + m) x = pop n x + pop m (x / 2 ^ n)
  | 0, x => by simp [pop]
  | n + 1, x => by
    rw [Nat.succ_add]
    show x % 2 + pop (n + m) (x / 2) = (x % 2 + pop n (x / 2)) + _
    rw [pop_add m n (x / 2), Nat.div_div_eq_div_mul, Nat.pow_succ, Nat.mul_comm (2 ^ n) 2]; omega
theorem pop_mod : ∀ (n x : Nat), pop n (x % 2 ^ n) = pop n x
  | 0, x => rfl
  | n + 1, x => by
    show (x % 2 ^ (n + 1)) % 2 + pop n (x % 2 ^ (n + 1) / 2) = x % 2 + pop n (x / 2)
    have e1 : x % 2 ^ (n + 1) % 2 = x % 2 := Nat.mod_mod_of_dvd _ ⟨2 ^ n, by rw [Nat.pow_succ]; omega⟩
    have e2 : x % 2 ^ (n + 1) / 2 = x / 2 % 2 ^ n := by
      rw [Nat.pow_succ, Nat.mul_comm, Nat.mod_mul_right_div_self]
    rw [e1, e2, pop_mod n]
theorem pop_le : ∀ (n x : Nat), pop n x ≤ n
  | 0, _ => Nat.le_refl _
  | n + 1, x => by have := pop_le n (x / 2); unfold pop; omega
theorem and_step (h l H c : Nat) (hl : l < 256) (hc : c < 256) : (256 * h + l) &&& (256 * H + c) = 256 * (h &&& H) + (l &&& c) := by
  have e1 : ((256 * h + l) &&& (256 * H + c)) / 2 ^ 8 = (256 * h + l) / 2 ^ 8 &&& (256 * H + c) / 2 ^ 8 := Nat.and_div_two_pow
  have e2 : ((256 * h + l) &&& (256 * H + c)) % 2 ^ 8 = (256 * h + l) % 2 ^ 8 &&& (256 * H + c) % 2 ^ 8 := Nat.and_mod_two_pow
  have a1 : (256 * h + l) / 2 ^ 8 = h := by omega
  have a2 : (256 * H + c) / 2 ^ 8 = H := by omega
  have a3 : (256 * h + l) % 2 ^ 8 = l := by omega
  have a4 : (256 * H + c) % 2 ^ 8 = c := by omega
  rw [a1, a2] at e1
  rw [a3, a4] at e2
  omega
/-- k bytes, each c. -/
def reps (c : Nat) : Nat → Nat
  | 0 => 0
  | k + 1 => 256 * reps c k + c
/-- The number whose k bytes are f of x's. -/
def bytewise (f : Nat → Nat) : Nat → Nat → Nat
  | 0, _ => 0
  | k + 1, x => 256 * bytewise f k (x / 256) + f (x % 256)
def g1 (l : Nat) : Nat := (l / 2 &&& 85) + (l &&& 85)
def g2 (l : Nat) : Nat := (l / 4 &&& 51) + (l &&& 51)
def g3 (l : Nat) : Nat := (l / 16 + l) &&& 15
theorem g1_bit : ∀ l, l < 256 → ∀ r, r < 2 → (128 * r + l / 2) &&& 85 = l / 2 &&& 85 := by decide +kernel
theorem g2_bit : ∀ l, l < 256 → ∀ r, r < 4 → (64 * r + l / 4) &&& 51 = l / 4 &&& 51 := by decide +kernel
theorem g1_lt : ∀ l, l < 256 → g1 l < 256 := by decide +kernel
theorem g2_lt : ∀ l, l < 256 → g2 (g1 l) < 69 ∧ g2 (g1 l) % 16 ≤ 4 := by decide +kernel
theorem g3_bit : ∀ l, l < 69 → ∀ r, r ≤ 4 → 16 * r + l / 16 + l < 256 ∧ (16 * r + l / 16 + l) &&& 15 = g3 l := by decide +kernel
theorem g_pop : ∀ l, l < 256 → g3 (g2 (g1 l)) = pop 8 l := by decide +kernel
theorem bytewise_1 (k : Nat) : ∀ x, x < 256 ^ k → (x / 2 &&& reps 85 k) + (x &&& reps 85 k) = bytewise g1 k x := by
  induction k with
  | zero => intro x hx; simp [reps, bytewise]
  | succ k ih =>
    intro x hx
    rw [Nat.pow_succ] at hx
    have hb := ih (x / 256) (by omega)
    have e : x / 2 = 256 * (x / 256 / 2) + (128 * (x / 256 % 2) + x % 256 / 2) := by omega
    have e0 : x = 256 * (x / 256) + x % 256 := by omega
    show (x / 2 &&& (256 * reps 85 k + 85)) + (x &&& (256 * reps 85 k + 85)) = 256 * bytewise g1 k (x / 256) + g1 (x % 256)
    rw [e, and_step _ _ _ _ (by omega) (by omega), g1_bit _ (by omega) _ (by omega)]
    have e3 : x &&& (256 * reps 85 k + 85) = 256 * (x / 256 &&& reps 85 k) + (x % 256 &&& 85) := by
      conv => lhs; rw [e0]
      exact and_step _ _ _ _ (by omega) (by omega)
    rw [e3, ← hb]
    unfold g1
    omega
theorem bytewise_lt (f : Nat → Nat) (hf : ∀ l, l < 256 → f l < 256) (k : Nat) : ∀ x, bytewise f k x < 256 ^ k := by
  induction k with
  | zero => intro x; simp [bytewise]
  | succ k ih =>
    intro x
    have := ih (x / 256)
    have h2 := hf (x % 256) (by omega)
    show 256 * bytewise f k (x / 256) + f (x % 256) < 256 ^ (k + 1)
    rw [Nat.pow_succ]; omega
theorem bytewise_2 (k : Nat) : ∀ x, bytewise g1 k x / 4 &&& reps 51 k = bytewise (fun l => g1 l / 4 &&& 51) k x ∧ bytewise g1 k x &&& reps 51 k = bytewise (fun l => g1 l &&& 51) k x := by
  induction k with
  | zero => intro x; simp [reps, bytewise]
  | succ k ih =>
    intro x
    obtain ⟨h1, h2⟩ := ih (x / 256)
    have hl := g1_lt (x % 256) (by omega)
    show (256 * bytewise g1 k (x / 256) + g1 (x % 256)) / 4 &&& (256 * reps 51 k + 51) = 256 * _ + _ ∧ (256 * bytewise g1 k (x / 256) + g1 (x % 256)) &&& (256 * reps 51 k + 51) = 256 * _ + _
    generalize bytewise g1 k (x / 256) = y at h1 h2 ⊢
    have e : (256 * y + g1 (x % 256)) / 4 = 256 * (y / 4) + (64 * (y % 4) + g1 (x % 256) / 4) := by omega
    constructor
    · rw [e, and_step _ _ _ _ (by omega) (by omega), g2_bit _ hl _ (by omega), h1]
    · rw [and_step _ _ _ _ hl (by omega), h2]
theorem bytewise_add (f g : Nat → Nat) (k : Nat) : ∀ x, bytewise f k x + bytewise g k x = bytewise (fun l => f l + g l) k x := by
  induction k with
  | zero => intro x; rfl
  | succ k ih => intro x; have := ih (x / 256); unfold bytewise; omega
theorem bytewise_mod (k : Nat) : ∀ x, bytewise (fun l => g2 (g1 l)) k x % 16 ≤ 4 := by
  intro x
  cases k with
  | zero => simp [bytewise]
  | succ k => have := (g2_lt (x % 256) (by omega)).2; unfold bytewise; omega
theorem bytewise_3 (k : Nat) : ∀ x, (bytewise (fun l => g2 (g1 l)) k x / 16 + bytewise (fun l => g2 (g1 l)) k x) &&& reps 15 k = bytewise (pop 8) k x := by
  induction k with
  | zero => intro x; simp [reps, bytewise]
  | succ k ih =>
    intro x
    have h1 := ih (x / 256)
    have hm := bytewise_mod k (x / 256)
    obtain ⟨hl, _⟩ := g2_lt (x % 256) (by omega)
    show ((256 * bytewise _ k (x / 256) + g2 (g1 (x % 256))) / 16 + (256 * bytewise _ k (x / 256) + g2 (g1 (x % 256)))) &&& (256 * reps 15 k + 15) = 256 * bytewise (pop 8) k (x / 256) + pop 8 (x % 256)
    rw [← g_pop _ (by omega)]
    generalize bytewise (fun l => g2 (g1 l)) k (x / 256) = y at h1 hm ⊢
    obtain ⟨c1, c2⟩ := g3_bit _ hl (y % 16) hm
    have e : (256 * y + g2 (g1 (x % 256))) / 16 + (256 * y + g2 (g1 (x % 256))) = 256 * (y / 16 + y) + (16 * (y % 16) + g2 (g1 (x % 256)) / 16 + g2 (g1 (x % 256))) := by omega
    rw [e, and_step _ _ _ _ c1 (by omega), h1, c2]
/-- The three steps that count within each byte. -/
theorem pop_steps (x y z : Nat) (hx : x < 18446744073709551616) (hy : y = (x / 2 &&& 6148914691236517205) + (x &&& 6148914691236517205))
    (hz : z = (y / 4 &&& 3689348814741910323) + (y &&& 3689348814741910323)) : (z / 16 + z) &&& 1085102592571150095 = bytewise (pop 8) 8 x := by
  have e1 : y = bytewise g1 8 x := by rw [hy]; exact bytewise_1 8 x (by omega)
  have e2 := bytewise_2 8 x
  have e3 : z = bytewise (fun l => g2 (g1 l)) 8 x := by
    rw [hz, e1]
    have e4 := bytewise_add (fun l => g1 l / 4 &&& 51) (fun l => g1 l &&& 51) 8 x
    rw [← e2.1, ← e2.2] at e4
    exact e4
  rw [e3]
  exact bytewise_3 8 x
theorem pop_sum (x : Nat) : ∃ p0 p1 p2 p3 p4 p5 p6 p7 : Nat, p0 ≤ 8 ∧ p1 ≤ 8 ∧ p2 ≤ 8 ∧ p3 ≤ 8 ∧ p4 ≤ 8 ∧ p5 ≤ 8 ∧ p6 ≤ 8 ∧ p7 ≤ 8 ∧
    bytewise (pop 8) 8 x = p0 + 256 * (p1 + 256 * (p2 + 256 * (p3 + 256 * (p4 + 256 * (p5 + 256 * (p6 + 256 * p7)))))) ∧ pop 64 x = p0 + p1 + p2 + p3 + p4 + p5 + p6 + p7 := by
  refine ⟨pop 8 (x % 256), pop 8 (x / 256 % 256), pop 8 (x / 256 / 256 % 256), pop 8 (x / 256 / 256 / 256 % 256), pop 8 (x / 256 / 256 / 256 / 256 % 256), pop 8 (x / 256 / 256 / 256 / 256 / 256 % 256),
    pop 8 (x / 256 / 256 / 256 / 256 / 256 / 256 % 256), pop 8 (x / 256 / 256 / 256 / 256 / 256 / 256 / 256 % 256), pop_le _ _, pop_le _ _, pop_le _ _, pop_le _ _, pop_le _ _, pop_le _ _, pop_le _ _, pop_le _ _, ?_, ?_⟩
  · simp only [bytewise]; omega
  · have h8 : ∀ n y, pop (8 + n) y = pop 8 (y % 256) + pop n (y / 256) := fun n y => by rw [pop_add n 8 y, ← pop_mod 8 y]
    have e : ∀ m n y, m = 8 + n → pop m y = pop 8 (y % 256) + pop n (y / 256) := fun m n y h => by rw [h]; exact h8 n y
    rw [e 64 56 _ (by omega), e 56 48 _ (by omega), e 48 40 _ (by omega), e 40 32 _ (by omega), e 32 24 _ (by omega), e 24 16 _ (by omega), e 16 8 _ (by omega), ← pop_mod 8 (x / 256 / 256 / 256 / 256 / 256 / 256 / 256)]
    simp only [Nat.add_assoc]
/-- The last steps: the bytes are added up. -/
theorem pop_fold (x : Nat) (a b c d : Nat) (ha : a = bytewise (pop 8) 8 x) (hb : b = a + a / 256) (hc : c = b + b / 65536) (hd : d = c + c / 4294967296) :
    d % 128 = pop 64 x ∧ a ≤ 578721382704613384 ∧ b ≤ 1157442765409226768 ∧ c ≤ 2314885530818453536 ∧ d ≤ 4629771061636907072 := by
  obtain ⟨p0, p1, p2, p3, p4, p5, p6, p7, h0, h1, h2, h3, h4, h5, h6, h7, e, e'⟩ := pop_sum x
  rw [e] at ha
  rw [e']
  clear e e'
  have ha' : a ≤ 578721382704613384 := by omega
  refine ⟨?_, ha', by omega, by omega, by omega⟩
  have q1 : a / 256 = p1 + 256 * (p2 + 256 * (p3 + 256 * (p4 + 256 * (p5 + 256 * (p6 + 256 * p7))))) := by omega
  rw [q1, ha] at hb
  have hb' : b = (p0 + p1) + 256 * ((p1 + p2) + 256 * ((p2 + p3) + 256 * ((p3 + p4) + 256 * ((p4 + p5) + 256 * ((p5 + p6) + 256 * ((p6 + p7) + 256 * p7)))))) := by omega
  have q2 : b / 65536 = (p2 + p3) + 256 * ((p3 + p4) + 256 * ((p4 + p5) + 256 * ((p5 + p6) + 256 * ((p6 + p7) + 256 * p7)))) := by clear hb; omega
  clear hb ha
  rw [q2, hb'] at hc
  have hc' : c = (p0 + p1 + p2 + p3) + 256 * ((p1 + p2 + p3 + p4) + 256 * ((p2 + p3 + p4 + p5) + 256 * ((p3 + p4 + p5 + p6) + 256 * ((p4 + p5 + p6 + p7) + 256 * ((p5 + p6 + p7) + 256 * ((p6 + p7) + 256 * p7)))))) := by omega
  have q3 : c / 4294967296 = (p4 + p5 + p6 + p7) + 256 * ((p5 + p6 + p7) + 256 * ((p6 + p7) + 256 * p7)) := by clear hc; omega
  clear hc
  rw [q3, hc'] at hd
  clear hc' q3 q2 hb' q1
  omega
/-- The number of n bits whose bit i is f i. -/
def wf (f : Nat → Bool) : Nat → Nat
  | 0 => 0
  | n + 1 => wf f n + if f n then 2 ^ n else 0
theorem wf_lt (f : Nat → Bool) : ∀ n, wf f n < 2 ^ n
  | 0 => by simp [wf]
  | n + 1 => by have := wf_lt f n; rw [Nat.pow_succ]; unfold wf; split <;> omega
theorem wf_bit (f : Nat → Bool) : ∀ n i, (wf f n).testBit i = (decide (i < n) && f i)
  | 0, i => by simp [wf]
  | n + 1, i => by
    have h := wf_lt f n
    have ih := wf_bit f n i
    unfold wf
    by_cases hf : f n = true
    · rw [if_pos hf, Nat.add_comm]
      rcases Nat.lt_trichotomy i n with hi | hi | hi
      · rw [Nat.testBit_two_pow_add_gt hi, ih]
        have e : decide (i < n) = decide (i < n + 1) := by simp; omega
        rw [e]
      · subst hi
        rw [Nat.testBit_two_pow_add_eq, ih]; simp [hf]
      · have hp : 2 ^ (n + 1) ≤ 2 ^ i := Nat.pow_le_pow_right (by omega) (by omega)
        rw [Nat.pow_succ] at hp
        rw [Nat.testBit_lt_two_pow (by omega)]
        simp; omega
    · rw [if_neg hf, Nat.add_zero, ih]
      by_cases hi : i = n
      · subst hi; simp [hf]
      · have e : decide (i < n) = decide (i < n + 1) := by simp; omega
        rw [e]
theorem wf_ext {x n : Nat} {f : Nat → Bool} (hx : x < 2 ^ n) (h : ∀ i, i < n → x.testBit i = f i) : x = wf f n := by
  apply Nat.eq_of_testBit_eq
  intro i
  rw [wf_bit]
  by_cases hi : i < n
  · rw [h i hi]; simp [hi]
  · rw [Nat.testBit_lt_two_pow (Nat.lt_of_lt_of_le hx (Nat.pow_le_pow_right (by omega) (by omega)))]; simp [hi]
/-- f but at b, where it is v. -/
def at_ (f : Nat → Bool) (b : Nat) (v : Bool) : Nat → Bool := fun i => if i = b then v else f i
theorem wf_get (f : Nat → Bool) {b : Nat} (hb : b < 64) : wf f 64 / 2 ^ b % 2 = if f b then 1 else 0 := by
  have h := wf_bit f 64 b
  rw [Nat.testBit_eq_decide_div_mod_eq] at h
  cases hf : f b
  · simp [hf] at h ⊢; omega
  · simp [hf, hb] at h ⊢; exact h
theorem wf_clear (f : Nat → Bool) {b : Nat} (hb : b < 64) : wf f 64 &&& (18446744073709551615 - 2 ^ b) = wf (at_ f b false) 64 := by
  have h64 : 2 ^ b < 2 ^ 64 := Nat.pow_lt_pow_right (by omega) hb
  have e : 18446744073709551615 - 2 ^ b = 2 ^ 64 - (2 ^ b + 1) := by omega
  refine wf_ext (Nat.and_lt_two_pow _ (Nat.lt_of_le_of_lt (Nat.sub_le _ _) (by decide))) fun i hi => ?_
  rw [Nat.testBit_and, wf_bit, e, Nat.testBit_two_pow_sub_succ h64, Nat.testBit_two_pow]
  unfold at_
  by_cases hib : i = b
  · subst hib; simp
  · rw [if_neg hib]; simp [hi]; intro _ h; exact absurd h.symm hib
theorem wf_set (f : Nat → Bool) {b : Nat} (hb : b < 64) : wf f 64 ||| 2 ^ b = wf (at_ f b true) 64 := by
  have h64 : 2 ^ b < 2 ^ 64 := Nat.pow_lt_pow_right (by omega) hb
  refine wf_ext (Nat.or_lt_two_pow (wf_lt _ _) h64) fun i hi => ?_
  rw [Nat.testBit_or, wf_bit, Nat.testBit_two_pow]
  unfold at_
  by_cases hib : i = b
  · subst hib; simp
  · rw [if_neg hib]
    have : ¬ b = i := fun h => hib h.symm
    simp [hi, this]
theorem wf_without (f g : Nat → Bool) : wf f 64 &&& (18446744073709551615 - wf g 64) = wf (fun i => f i && !g i) 64 := by
  have h64 := wf_lt g 64
  refine wf_ext (Nat.and_lt_two_pow _ (by omega)) fun i hi => ?_
  have e : 18446744073709551615 - wf g 64 = 2 ^ 64 - (wf g 64 + 1) := by omega
  rw [Nat.testBit_and, wf_bit, e, Nat.testBit_two_pow_sub_succ h64, wf_bit]
  simp [hi]
theorem wf_not (f : Nat → Bool) : 18446744073709551615 - wf f 64 = wf (fun i => !f i) 64 := by
  have h64 := wf_lt f 64
  refine wf_ext (by omega) fun i hi => ?_
  have e : 18446744073709551615 - wf f 64 = 2 ^ 64 - (wf f 64 + 1) := by omega
  rw [e, Nat.testBit_two_pow_sub_succ h64, wf_bit]
  simp [hi]
theorem wf_none {f : Nat → Bool} (h : ∀ i, i < 64 → f i = false) : wf f 64 = 0 := by
  have : (0 : Nat) = wf f 64 := wf_ext (by omega) (fun i hi => by rw [h i hi]; simp)
  exact this.symm
theorem ctzFrom_bits : ∀ (n x k : Nat), k < n → x.testBit k = true → (∀ i, i < k → x.testBit i = false) → Lib.ctzFrom n x = k
  | 0, _, _, h, _, _ => by omega
  | n + 1, x, k, h, hk, hl => by
    unfold Lib.ctzFrom
    cases k with
    | zero =>
      have : x % 2 = 1 := by simpa [Nat.testBit_zero] using hk
      rw [if_pos this]
    | succ k =>
      have h0 := hl 0 (by omega)
      have : ¬ x % 2 = 1 := by simpa [Nat.testBit_zero] using h0
      rw [if_neg this, ctzFrom_bits n (x / 2) k (by omega) (by rw [← Nat.testBit_succ]; exact hk) (fun i hi => by rw [← Nat.testBit_succ]; exact hl (i + 1) (by omega))]
      omega
theorem wf_ctz {f : Nat → Bool} {k : Nat} (hk : k < 64) (h1 : f k = true) (h2 : ∀ i, i < k → f i = false) : wf f 64 ≠ 0 ∧ Lib.ctz 64 (wf f 64) = k := by
  have hb : (wf f 64).testBit k = true := by rw [wf_bit]; simp [hk, h1]
  have hne : wf f 64 ≠ 0 := by intro h; rw [h] at hb; simp at hb
  refine ⟨hne, ?_⟩
  unfold Lib.ctz
  rw [if_neg hne]
  exact ctzFrom_bits 64 _ k hk hb (fun i hi => by rw [wf_bit]; simp [h2 i hi])
theorem pop_bits : ∀ (n x : Nat), pop n x = ((List.range n).filter fun i => x.testBit i).length
  | 0, _ => rfl
  | n + 1, x => by
    rw [List.range_succ_eq_map, List.filter_cons]
    have e : ((List.map Nat.succ (List.range n)).filter fun i => x.testBit i) = ((List.range n).filter fun i => (x / 2).testBit i).map Nat.succ := by
      rw [List.filter_map]; congr 1
      apply List.filter_congr; intro i _; simp [Nat.testBit_succ]
    rw [e]
    show x % 2 + pop n (x / 2) = _
    rw [pop_bits n (x / 2), Nat.testBit_zero]
    by_cases h : x % 2 = 1
    · simp [h]; omega
    · simp [h]; omega
theorem wf_pop (f : Nat → Bool) : pop 64 (wf f 64) = ((List.range 64).filter f).length := by
  rw [pop_bits]
  congr 1
  apply List.filter_congr
  intro i hi
  rw [wf_bit]
  have := List.mem_range.1 hi
  simp [this]
theorem wf_congr {f g : Nat → Bool} {n : Nat} (h : ∀ i, i < n → f i = g i) : wf f n = wf g n := wf_ext (wf_lt f n) (fun i hi => by rw [wf_bit]; simp [hi, h i hi])
end Go.Proofs.YtkjcidbhepminaaDoor
