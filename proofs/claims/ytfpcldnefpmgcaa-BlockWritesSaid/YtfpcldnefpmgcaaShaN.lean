/- The plain seal, reckoned with natural numbers, so that the kernel can reckon it of long bytes. Plain facts. No condition. -/
import Derived.Test.YtfpcldnefpmgcaaSha
import Derived.Test.YtfpcldnefpmgcaaCore
namespace Go
namespace ShaN
/-- A number reckoned ahead of what uses it. -/
def force {α : Type} (n : Nat) (f : Nat → α) : α := match n with
  | 0 => f 0
  | k + 1 => f (k + 1)
theorem force_eq {α : Type} (n : Nat) (f : Nat → α) : force n f = f n := by cases n <;> rfl
def rot (x n : Nat) : Nat := Nat.lor (Nat.shiftRight x n) (Nat.mod (Nat.shiftLeft x (32 - n)) 4294967296)
def sg0 (x : Nat) : Nat := Nat.xor (Nat.xor (rot x 7) (rot x 18)) (Nat.shiftRight x 3)
def sg1 (x : Nat) : Nat := Nat.xor (Nat.xor (rot x 17) (rot x 19)) (Nat.shiftRight x 10)
def tt1 (k w e f g h : Nat) : Nat := Nat.mod (h + Nat.xor (Nat.xor (rot e 6) (rot e 11)) (rot e 25) + Nat.xor (Nat.land e f) (Nat.land (4294967295 - e) g) + k + w) 4294967296
def tt2 (a b c : Nat) : Nat := Nat.xor (Nat.xor (rot a 2) (rot a 13)) (rot a 22) + Nat.xor (Nat.xor (Nat.land a b) (Nat.land a c)) (Nat.land b c)
def nextN (w0 w1 w9 w14 : Nat) : Nat := Nat.mod (sg1 w14 + w9 + sg0 w1 + w0) 4294967296
/-- Some rounds; 16 words ahead are known. -/
def go : List Nat → List Nat → Nat → Nat → Nat → Nat → Nat → Nat → Nat → Nat → List Nat
  | [], _, a, b, c, d, e, f, g, h => [a, b, c, d, e, f, g, h]
  | k :: ks, ws, a, b, c, d, e, f, g, h =>
    force (ws.getD 0 0) fun w0 =>
    force (tt1 k w0 e f g h) fun t1 =>
    force (Nat.mod (t1 + tt2 a b c) 4294967296) fun a' =>
    force (Nat.mod (d + t1) 4294967296) fun e' =>
    force (nextN w0 (ws.getD 1 0) (ws.getD 9 0) (ws.getD 14 0)) fun wn =>
    go ks (ws.drop 1 ++ [wn]) a' a b c e' e f g
def toL (s : Sha.St) : List Nat := [s.a.toNat, s.b.toNat, s.c.toNat, s.d.toNat, s.e.toNat, s.f.toNat, s.g.toNat, s.h.toNat]
theorem rot_eq (x : UInt32) (n : Nat) (h0 : 0 < n) (h : n < 32) : rot x.toNat n = (Sha.rotr x n).toNat := by
  unfold rot Sha.rotr
  rw [UInt32.toNat_or, u32_shr_nat x n h, u32_shl_nat x (32 - n) (by omega)]
  show Nat.lor (x.toNat >>> n) ((x.toNat <<< (32 - n)) % 4294967296) = _
  rw [Nat.shiftRight_eq_div_pow, Nat.shiftLeft_eq]; rfl
theorem sg0_eq (x : UInt32) : sg0 x.toNat = (Sha.s0 x).toNat := by
  unfold sg0 Sha.s0
  rw [UInt32.toNat_xor, UInt32.toNat_xor, rot_eq x 7 (by omega) (by omega), rot_eq x 18 (by omega) (by omega)]
  have := u32_shr_nat x 3 (by omega)
  rw [show (x >>> (3 : UInt32)) = x >>> UInt32.ofNat 3 from rfl, this]
  show Nat.xor _ (x.toNat >>> 3) = _
  rw [Nat.shiftRight_eq_div_pow]; rfl
theorem sg1_eq (x : UInt32) : sg1 x.toNat = (Sha.s1 x).toNat := by
  unfold sg1 Sha.s1
  rw [UInt32.toNat_xor, UInt32.toNat_xor, rot_eq x 17 (by omega) (by omega), rot_eq x 19 (by omega) (by omega)]
  have := u32_shr_nat x 10 (by omega)
  rw [show (x >>> (10 : UInt32)) = x >>> UInt32.ofNat 10 from rfl, this]
  show Nat.xor _ (x.toNat >>> 10) = _
  rw [Nat.shiftRight_eq_div_pow]; rfl
theorem not_eq (x : UInt32) : 4294967295 - x.toNat = (~~~x).toNat := by
  rw [UInt32.toNat_not]; simp [UInt32.size]
theorem tt1_eq (k w : UInt32) (s : Sha.St) : tt1 k.toNat w.toNat s.e.toNat s.f.toNat s.g.toNat s.h.toNat = (Sha.t1 k w s).toNat := by
  unfold tt1 Sha.t1
  rw [not_eq, rot_eq s.e 6 (by omega) (by omega), rot_eq s.e 11 (by omega) (by omega), rot_eq s.e 25 (by omega) (by omega)]
  simp only [UInt32.toNat_add, UInt32.toNat_xor, UInt32.toNat_and]
  show (_ + (_ ^^^ _ ^^^ _) + ((_ &&& _) ^^^ (_ &&& _)) + _ + _) % 4294967296 = _
  omega
theorem tt2_eq (s : Sha.St) : tt2 s.a.toNat s.b.toNat s.c.toNat % 4294967296 = (Sha.t2 s).toNat := by
  unfold tt2 Sha.t2
  rw [rot_eq s.a 2 (by omega) (by omega), rot_eq s.a 13 (by omega) (by omega), rot_eq s.a 22 (by omega) (by omega)]
  simp only [UInt32.toNat_add, UInt32.toNat_xor, UInt32.toNat_and]
  rfl
theorem next_eq (w0 w1 w9 w14 : UInt32) : nextN w0.toNat w1.toNat w9.toNat w14.toNat = (Sha.s1 w14 + w9 + Sha.s0 w1 + w0).toNat := by
  unfold nextN
  rw [sg1_eq, sg0_eq]
  simp only [UInt32.toNat_add]
  show (_ + _ + _ + _) % 4294967296 = _
  omega
/-- Rounds from t on. -/
theorem go_eq (m : Nat → UInt32) (s : Sha.St) : ∀ (n t : Nat), t + n = 64 →
    go ((Sha.kl.drop t).map (·.toNat)) ((List.range 16).map fun i => (Sha.wd m (t + i)).toNat) (Sha.rounds m s t).a.toNat (Sha.rounds m s t).b.toNat (Sha.rounds m s t).c.toNat (Sha.rounds m s t).d.toNat (Sha.rounds m s t).e.toNat (Sha.rounds m s t).f.toNat (Sha.rounds m s t).g.toNat (Sha.rounds m s t).h.toNat
      = toL (Sha.rounds m s 64)
  | 0, t, h => by
    obtain rfl : t = 64 := by omega
    have : Sha.kl.drop 64 = [] := rfl
    rw [this]; rfl
  | n + 1, t, h => by
    have hk : Sha.kl.drop t = Sha.kt t :: Sha.kl.drop (t + 1) := by
      have hl : t < Sha.kl.length := by show t < 64; omega
      rw [List.drop_eq_getElem_cons hl]
      congr 1
      unfold Sha.kt
      simp [List.getD, hl]
    rw [hk, List.map_cons]
    unfold go
    simp only [force_eq]
    have e0 : ((List.range 16).map fun i => (Sha.wd m (t + i)).toNat).getD 0 0 = (Sha.wd m t).toNat := rfl
    have e1 : ((List.range 16).map fun i => (Sha.wd m (t + i)).toNat).getD 1 0 = (Sha.wd m (t + 1)).toNat := rfl
    have e9 : ((List.range 16).map fun i => (Sha.wd m (t + i)).toNat).getD 9 0 = (Sha.wd m (t + 9)).toNat := rfl
    have e14 : ((List.range 16).map fun i => (Sha.wd m (t + i)).toNat).getD 14 0 = (Sha.wd m (t + 14)).toNat := rfl
    rw [e0, e1, e9, e14, tt1_eq, next_eq]
    have hw : (Sha.s1 (Sha.wd m (t + 14)) + Sha.wd m (t + 9) + Sha.s0 (Sha.wd m (t + 1)) + Sha.wd m t) = Sha.wd m (t + 16) := by
      rw [Sha.wd_hi m (show 16 ≤ t + 16 by omega)]
      rw [show t + 16 - 2 = t + 14 by omega, show t + 16 - 7 = t + 9 by omega, show t + 16 - 15 = t + 1 by omega, show t + 16 - 16 = t by omega]
    rw [hw]
    have hwin : ((List.range 16).map fun i => (Sha.wd m (t + i)).toNat).drop 1 ++ [(Sha.wd m (t + 16)).toNat] = (List.range 16).map fun i => (Sha.wd m (t + 1 + i)).toNat := by
      have : ∀ i, Sha.wd m (t + 1 + i) = Sha.wd m (t + (1 + i)) := fun i => by rw [Nat.add_assoc]
      simp only [this]
      rfl
    rw [hwin]
    have hr : Sha.rounds m s (t + 1) = Sha.round (Sha.kt t) (Sha.wd m t) (Sha.rounds m s t) := rfl
    have ha : ((Sha.t1 (Sha.kt t) (Sha.wd m t) (Sha.rounds m s t)).toNat + tt2 (Sha.rounds m s t).a.toNat (Sha.rounds m s t).b.toNat (Sha.rounds m s t).c.toNat).mod 4294967296 = (Sha.rounds m s (t + 1)).a.toNat := by
      rw [hr]
      show (_ + _) % 4294967296 = (Sha.t1 _ _ _ + Sha.t2 _).toNat
      rw [UInt32.toNat_add, ← tt2_eq]
      omega
    have he : ((Sha.rounds m s t).d.toNat + (Sha.t1 (Sha.kt t) (Sha.wd m t) (Sha.rounds m s t)).toNat).mod 4294967296 = (Sha.rounds m s (t + 1)).e.toNat := by
      rw [hr]
      show (_ + _) % 4294967296 = ((Sha.rounds m s t).d + Sha.t1 _ _ _).toNat
      rw [UInt32.toNat_add]
    rw [ha, he]
    have := go_eq m s n (t + 1) (by omega)
    rw [← this]
    rfl
def beN (a b c d : Nat) : Nat := Nat.lor (Nat.lor (Nat.lor (Nat.mod (Nat.shiftLeft a 24) 4294967296) (Nat.mod (Nat.shiftLeft b 16) 4294967296)) (Nat.mod (Nat.shiftLeft c 8) 4294967296)) d
theorem beN_eq (a b c d : UInt8) : beN a.toNat b.toNat c.toNat d.toNat = (Sha.be a b c d).toNat := by
  unfold beN Sha.be
  have e : ∀ (x : UInt8) (n : Nat), n < 32 → (Nat.shiftLeft x.toNat n).mod 4294967296 = (x.toUInt32 <<< UInt32.ofNat n).toNat := fun x n h => by
    rw [u32_shl_nat _ n h, UInt8.toNat_toUInt32]
    show (x.toNat <<< n) % _ = _
    rw [Nat.shiftLeft_eq]
  rw [UInt32.toNat_or, UInt32.toNat_or, UInt32.toNat_or, UInt8.toNat_toUInt32, e a 24 (by omega), e b 16 (by omega), e c 8 (by omega)]
  rfl
def w4 : List Nat → List Nat
  | a :: b :: c :: d :: r => force (beN a b c d) fun w => w :: w4 r
  | _ => []
theorem w4_eq (l : List UInt8) : ∀ (n at_ : Nat), at_ + 4 * n ≤ l.length → w4 (((l.drop at_).take (4 * n)).map (·.toNat)) = (List.range n).map fun t => (Sha.word l at_ t).toNat
  | 0, at_, _ => by simp [w4]
  | n + 1, at_, h => by
    have e4 : (l.drop at_).take (4 * (n + 1)) = l.getD at_ 0 :: l.getD (at_ + 1) 0 :: l.getD (at_ + 2) 0 :: l.getD (at_ + 3) 0 :: (l.drop (at_ + 4)).take (4 * n) := by
      have hg : ∀ i, i < l.length → l.drop i = l.getD i 0 :: l.drop (i + 1) := fun i hi => by
        rw [List.drop_eq_getElem_cons hi]; congr 1; simp [List.getD, hi]
      rw [hg at_ (by omega), hg (at_ + 1) (by omega), hg (at_ + 1 + 1) (by omega), hg (at_ + 1 + 1 + 1) (by omega)]
      rw [show 4 * (n + 1) = 4 * n + 1 + 1 + 1 + 1 by omega]
      simp only [List.take_succ_cons]
    rw [e4]
    simp only [List.map_cons, w4, force_eq]
    rw [w4_eq l n (at_ + 4) (by omega), beN_eq, List.range_succ_eq_map, List.map_cons, List.map_map]
    have hw0 : Sha.word l at_ 0 = Sha.be (l.getD at_ 0) (l.getD (at_ + 1) 0) (l.getD (at_ + 2) 0) (l.getD (at_ + 3) 0) := rfl
    rw [hw0]
    refine congrArg (List.cons _) ?_
    apply List.map_congr_left
    intro t _
    simp only [Function.comp, Sha.word]
    rw [show at_ + 4 + 4 * t = at_ + 4 * (t + 1) by omega]
def kN : List Nat := [
  0x428a2f98, 0x71374491, 0xb5c0fbcf, 0xe9b5dba5, 0x3956c25b, 0x59f111f1, 0x923f82a4, 0xab1c5ed5,
  0xd807aa98, 0x12835b01, 0x243185be, 0x550c7dc3, 0x72be5d74, 0x80deb1fe, 0x9bdc06a7, 0xc19bf174,
  0xe49b69c1, 0xefbe4786, 0x0fc19dc6, 0x240ca1cc, 0x2de92c6f, 0x4a7484aa, 0x5cb0a9dc, 0x76f988da,
  0x983e5152, 0xa831c66d, 0xb00327c8, 0xbf597fc7, 0xc6e00bf3, 0xd5a79147, 0x06ca6351, 0x14292967,
  0x27b70a85, 0x2e1b2138, 0x4d2c6dfc, 0x53380d13, 0x650a7354, 0x766a0abb, 0x81c2c92e, 0x92722c85,
  0xa2bfe8a1, 0xa81a664b, 0xc24b8b70, 0xc76c51a3, 0xd192e819, 0xd6990624, 0xf40e3585, 0x106aa070,
  0x19a4c116, 0x1e376c08, 0x2748774c, 0x34b0bcb5, 0x391c0cb3, 0x4ed8aa4a, 0x5b9cca4f, 0x682e6ff3,
  0x748f82ee, 0x78a5636f, 0x84c87814, 0x8cc70208, 0x90befffa, 0xa4506ceb, 0xbef9a3f7, 0xc67178f2]
theorem kN_eq : Sha.kl.map (·.toNat) = kN := by decide +kernel
/-- Numbers reckoned ahead of what uses them. -/
def forceL {α : Type} : List Nat → (List Nat → α) → α
  | [], f => f []
  | n :: l, f => force n fun m => forceL l fun r => f (m :: r)
theorem forceL_eq {α : Type} : ∀ (l : List Nat) (f : List Nat → α), forceL l f = f l
  | [], _ => rfl
  | n :: l, f => by simp only [forceL, force_eq, forceL_eq l]
def addL : List Nat → List Nat → List Nat
  | a :: l, b :: m => Nat.mod (a + b) 4294967296 :: addL l m
  | _, _ => []
def blkN (s : List Nat) (bytes : List Nat) : List Nat := match s with
  | [a, b, c, d, e, f, g, h] => addL s (go kN (w4 bytes) a b c d e f g h)
  | _ => []
theorem blkN_eq (s : Sha.St) (l : List UInt8) (at_ : Nat) (h : at_ + 64 ≤ l.length) : blkN (toL s) (((l.drop at_).take 64).map (·.toNat)) = toL (Sha.blk s l at_) := by
  have hw := w4_eq l 16 at_ h
  unfold blkN toL
  simp only []
  rw [show (64 : Nat) = 4 * 16 from rfl, hw]
  have hwd : ((List.range 16).map fun t => (Sha.word l at_ t).toNat) = (List.range 16).map fun i => (Sha.wd (Sha.word l at_) (0 + i)).toNat := by
    apply List.map_congr_left
    intro t ht
    rw [Nat.zero_add, Sha.wd_lo _ (List.mem_range.1 ht)]
  have := go_eq (Sha.word l at_) s 64 0 rfl
  rw [← hwd, List.drop_zero, kN_eq] at this
  have e0 : Sha.rounds (Sha.word l at_) s 0 = s := rfl
  rw [e0] at this
  rw [this]
  unfold Sha.blk Sha.add toL
  simp only [addL, UInt32.toNat_add]
  rfl
def blksN : Nat → List Nat → List Nat → List Nat
  | 0, _, s => s
  | n + 1, l, s => forceL (blkN s (l.take 64)) fun s' => blksN n (l.drop 64) s'
theorem blksN_eq (l : List UInt8) (s : Sha.St) : ∀ (n k : Nat), 64 * (k + n) ≤ l.length → blksN n ((l.drop (64 * k)).map (·.toNat)) (toL (Sha.blks l s k)) = toL (Sha.blks l s (k + n))
  | 0, k, _ => rfl
  | n + 1, k, h => by
    simp only [blksN, forceL_eq]
    rw [← List.map_take, blkN_eq _ _ _ (by omega), ← List.map_drop, List.drop_drop]
    have : toL (Sha.blk (Sha.blks l s k) l (64 * k)) = toL (Sha.blks l s (k + 1)) := rfl
    rw [this, show 64 * k + 64 = 64 * (k + 1) by omega, blksN_eq l s n (k + 1) (by omega)]
    congr 2; omega
def outN (s : List Nat) : List Nat := (List.range 16).map fun k => Nat.mod (Nat.div (s.getD (k / 4) 0) (2 ^ (24 - 8 * (k % 4)))) 256
def initN : List Nat := [0x6a09e667, 0xbb67ae85, 0x3c6ef372, 0xa54ff53a, 0x510e527f, 0x9b05688c, 0x1f83d9ab, 0x5be0cd19]
/-- The seal of bytes. -/
def sumN (l : List Nat) (tl : List Nat) (n : Nat) : List Nat := outN (blksN n (l ++ tl) initN)
theorem sumN_eq (l : List UInt8) (n : Nat) (hn : n = (l.length + Sha.zeros l.length + 9) / 64) : (Sha.sum l).map (·.toNat) = sumN (l.map (·.toNat)) ((Sha.tail l.length).map (·.toNat)) n := by
  unfold sumN Sha.sum
  have hlen : (Sha.pad l).length / 64 = n := by rw [Sha.pad_length, hn]
  rw [hlen]
  have h1 := blksN_eq (Sha.pad l) Sha.init n 0 (by rw [Sha.pad_length]; have := Sha.pad_mod l; rw [Sha.pad_length] at this; omega)
  rw [Nat.mul_zero, List.drop_zero, Nat.zero_add] at h1
  have h0 : toL (Sha.blks (Sha.pad l) Sha.init 0) = initN := by
    show toL Sha.init = initN
    decide +kernel
  rw [h0] at h1
  have hp : (Sha.pad l).map (·.toNat) = l.map (·.toNat) ++ (Sha.tail l.length).map (·.toNat) := by unfold Sha.pad; rw [List.map_append]
  rw [← hp, h1]
  unfold Sha.out outN
  rw [List.map_map]
  apply List.map_congr_left
  intro k hk
  have hk16 := List.mem_range.1 hk
  simp only [Function.comp, Sha.outAt, Sha.byte]
  have hg : (toL (Sha.blks (Sha.pad l) Sha.init n)).getD (k / 4) 0 = (Sha.get (Sha.blks (Sha.pad l) Sha.init n) (k / 4)).toNat := by
    have : k / 4 = 0 ∨ k / 4 = 1 ∨ k / 4 = 2 ∨ k / 4 = 3 := by omega
    rcases this with h | h | h | h <;> rw [h] <;> rfl
  rw [hg]
  exact UInt8.toNat_ofNat_of_lt' (by have := Nat.mod_lt ((Sha.get (Sha.blks (Sha.pad l) Sha.init n) (k / 4)).toNat / 2 ^ (24 - 8 * (k % 4))) (show 0 < 256 by omega); simpa [UInt8.size] using this)
theorem toNat_inj : ∀ {l m : List UInt8}, l.map (·.toNat) = m.map (·.toNat) → l = m
  | [], [], _ => rfl
  | [], _ :: _, h => by cases h
  | _ :: _, [], h => by cases h
  | a :: l, b :: m, h => by
    simp only [List.map_cons, List.cons.injEq] at h
    rw [UInt8.toNat_inj.1 h.1, toNat_inj h.2]
end ShaN
end Go
