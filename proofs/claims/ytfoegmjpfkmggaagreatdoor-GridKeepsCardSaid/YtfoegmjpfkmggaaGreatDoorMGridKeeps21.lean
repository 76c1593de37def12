/- The plain seal, reckoned with natural numbers, so that the kernel can reckon it of long bytes. Plain facts. No condition. -/
import Derived.Test.YtfoegmjpfkmggaaGreatDoorMGridKeeps20
import Derived.Test.YtfoegmjpfkmggaaGreatDoorTie
import Derived.Test.YtfoegmjpfkmggaaGreatDoorCards
import Derived.SevenTiedAt
namespace Go
namespace ShaN
/-- A number reckoned ahead of what uses it. -/
def force {α : Type} (n : Nat) (f : Nat → α) : α := match n with
  | 0 => f 0
  | k + 1 => f (k + 1)
theorem force_eq {α : Type} (n : Nat) (f : Nat → α) : force n f = f n := by cases n <;> rfl
def rot (x n : Nat) : Nat := Nat.lor (Nat.shiftRight x n) (Nat.mod (Nat.shiftLeft x (32 - n)) 4294967296)
def sg0 (x : Nat) : Nat := Nat.xor (Nat.xor (rot x 7) (rot x 18)) (Nat.shiftRight x 3)
def sg1 (x : Nat) : Nat := Nat.xor (Nat.xor (rot x 17) (rot x 19)) (Nat.shiftRight x 10)
def tt1 (k w e f g h : Nat) : Nat := Nat.mod (h + Nat.xor (Nat.xor (rot e 6) (rot e 11)) (rot e 25) + Nat.xor (Nat.land e f) (Nat.land (4294967295 - e) g) + k + w) 4294967296
def tt2 (a b c : Nat) : Nat := Nat.xor (Nat.xor (rot a 2) (rot a 13)) (rot a 22) + Nat.xor (Nat.xor (Nat.land a b) (Nat.land a c)) (Nat.land b c)
def nextN (w0 w1 w9 w14 : Nat) : Nat := Nat.mod (sg1 w14 + w9 + sg0 w1 + w0) 4294967296
/-- Some rounds; 16 words ahead are known. -/
def go : List Nat → List Nat → Nat → Nat → Nat → Nat → Nat → Nat → Nat → Nat → List Nat
  | [], _, a, b, c, d, e, f, g, h => [a, b, c, d, e, f, g, h]
  | k :: ks, ws, a, b, c, d, e, f, g, h =>
    force (ws.getD 0 0) fun w0 =>
    force (tt1 k w0 e f g h) fun t1 =>
    force (Nat.mod (t1 + tt2 a b c) 4294967296) fun a' =>
    force (Nat.mod (d + t1) 4294967296) fun e' =>
    force (nextN w0 (ws.getD 1 0) (ws.getD 9 0) (ws.getD 14 0)) fun wn =>
    go ks (ws.drop 1 ++ [wn]) a' a b c e' e f g
def toL (s : Sha.St) : List Nat := [s.a.toNat, s.b.toNat, s.c.toNat, s.d.toNat, s.e.toNat, s.f.toNat, s.g.toNat, s.h.toNat]
theorem rot_eq (x : UInt32) (n : Nat) (h0 : 0 < n) (h : n < 32) : rot x.toNat n = (Sha.rotr x n).toNat := by
  unfold rot Sha.rotr
  rw [UInt32.toNat_or, u32_shr_nat x n h, u32_shl_nat x (32 - n) (by omega)]
  show Nat.lor (x.toNat >>> n) ((x.toNat <<< (32 - n)) % 4294967296) = _
  rw [Nat.shiftRight_eq_div_pow, Nat.shiftLeft_eq]; rfl
theorem sg0_eq (x : UInt32) : sg0 x.toNat = (Sha.s0 x).toNat := by
  unfold sg0 Sha.s0
  rw [UInt32.toNat_xor, UInt32.toNat_xor, rot_eq x 7 (by omega) (by omega), rot_eq x 18 (by omega) (by omega)]
  have := u32_shr_nat x 3 (by omega)
  rw [show (x >>> (3 : UInt32)) = x >>> UInt32.ofNat 3 from rfl, this]
  show Nat.xor _ (x.toNat >>> 3) = _
  rw [Nat.shiftRight_eq_div_pow]; rfl
theorem sg1_eq (x : UInt32) : sg1 x.toNat = (Sha.s1 x).toNat := by
  unfold sg1 Sha.s1
  rw [UInt32.toNat_xor, UInt32.toNat_xor, rot_eq x 17 (by omega) (by omega), rot_eq x 19 (by omega) (by omega)]
  have := u32_shr_nat x 10 (by omega)
  rw [show (x >>> (10 : UInt32)) = x >>> UInt32.ofNat 10 from rfl, this]
  show Nat.xor _ (x.toNat >>> 10) = _
  rw [Nat.shiftRight_eq_div_pow]; rfl
theorem not_eq (x : UInt32) : 4294967295 - x.toNat = (~~~x).toNat := by
  rw [UInt32.toNat_not]; simp [UInt32.size]
theorem tt1_eq (k w : UInt32) (s : Sha.St) : tt1 k.toNat w.toNat s.e.toNat s.f.toNat s.g.toNat s.h.toNat = (Sha.t1 k w s).toNat := by
  unfold tt1 Sha.t1
  rw [not_eq, rot_eq s.e 6 (by omega) (by omega), rot_eq s.e 11 (by omega) (by omega), rot_eq s.e 25 (by omega) (by omega)]
  simp only [UInt32.toNat_add, UInt32.toNat_xor, UInt32.toNat_and]
  show (_ + (_ ^^^ _ ^^^ _) + ((_ &&& _) ^^^ (_ &&& _)) + _ + _) % 4294967296 = _
  omega
theorem tt2_eq (s : Sha.St) : tt2 s.a.toNat s.b.toNat s.c.toNat % 4294967296 = (Sha.t2 s).toNat := by
  unfold tt2 Sha.t2
  rw [rot_eq s.a 2 (by omega) (by omega), rot_eq s.a 13 (by omega) (by omega), rot_eq s.a 22 (by omega) (by omega)]
  simp only [UInt32.toNat_add, UInt32.toNat_xor, UInt32.toNat_and]
  rfl
theorem next_eq (w0 w1 w9 w14 : UInt32) : nextN w0.toNat w1.toNat w9.toNat w14.toNat = (Sha.s1 w14 + w9 + Sha.s0 w1 + w0).toNat := by
  unfold nextN
  rw [sg1_eq, sg0_eq]
  simp only [UInt32.toNat_add]
  show (_ + _ + _ + _) % 4294967296 = _
  omega
/-- Rounds from t on. -/
theorem go_eq (m : Nat → UInt32) (s : Sha.St) : ∀ (n t : Nat), t + n = 64 →
    go ((Sha.kl.drop t).map (·.toNat)) ((List.range 16).map fun i => (Sha.wd m (t + i)).toNat) (Sha.rounds m s t).a.toNat (Sha.rounds m s t).b.toNat (Sha.rounds m s t).c.toNat (Sha.rounds m s t).d.toNat (Sha.rounds m s t).e.toNat (Sha.rounds m s t).f.toNat (Sha.rounds m s t).g.toNat (Sha.rounds m s t).h.toNat
      = toL (Sha.rounds m s 64)
  | 0, t, h => by
    obtain rfl : t = 64 := by omega
    have : Sha.kl.drop 64 = [] := rfl
    rw [this]; rfl
  | n + 1, t, h => by
    have hk : Sha.kl.drop t = Sha.kt t :: Sha.kl.drop (t + 1) := by
      have hl : t < Sha.kl.length := by show t < 64; omega
      rw [List.drop_eq_getElem_cons hl]
      congr 1
      unfold Sha.kt
      simp [List.getD, hl]
    rw [hk, List.map_cons]
    unfold go
    simp only [force_eq]
    have e0 : ((List.range 16).map fun i => (Sha.wd m (t + i)).toNat).getD 0 0 = (Sha.wd m t).toNat := rfl
    have e1 : ((List.range 16).map fun i => (Sha.wd m (t + i)).toNat).getD 1 0 = (Sha.wd m (t + 1)).toNat := rfl
    have e9 : ((List.range 16).map fun i => (Sha.wd m (t + i)).toNat).getD 9 0 = (Sha.wd m (t + 9)).toNat := rfl
    have e14 : ((List.range 16).map fun i => (Sha.wd m (t + i)).toNat).getD 14 0 = (Sha.wd m (t + 14)).toNat := rfl
    rw [e0, e1, e9, e14, tt1_eq, next_eq]
    have hw : (Sha.s1 (Sha.wd m (t + 14)) + Sha.wd m (t + 9) + Sha.s0 (Sha.wd m (t + 1)) + Sha.wd m t) = Sha.wd m (t + 16) := by
      rw [Sha.wd_hi m (show 16 ≤ t + 16 by omega)]
      rw [show t + 16 - 2 = t + 14 by omega, show t + 16 - 7 = t + 9 by omega, show t + 16 - 15 = t + 1 by omega, show t + 16 - 16 = t by omega]
    rw [hw]
    have hwin : ((List.range 16).map fun i => (Sha.wd m (t + i)).toNat).drop 1 ++ [(Sha.wd m (t + 16)).toNat] = (List.range 16).map fun i => (Sha.wd m (t + 1 + i)).toNat := by
      have : ∀ i, Sha.wd m (t + 1 + i) = Sha.wd m (t + (1 + i)) := fun i => by rw [Nat.add_assoc]
      simp only [this]
      rfl
    rw [hwin]
    have hr : Sha.rounds m s (t + 1) = Sha.round (Sha.kt t) (Sha.wd m t) (Sha.rounds m s t) := rfl
    have ha : ((Sha.t1 (Sha.kt t) (Sha.wd m t) (Sha.rounds m s t)).toNat + tt2 (Sha.rounds m s t).a.toNat (Sha.rounds m s t).b.toNat (Sha.rounds m s t).c.toNat).mod 4294967296 = (Sha.rounds m s (t + 1)).a.toNat := by
      rw [hr]
      show (_ + _) % 4294967296 = (Sha.t1 _ _ _ + Sha.t2 _).toNat
      rw [UInt32.toNat_add, ← tt2_eq]
      omega
    have he : ((Sha.rounds m s t).d.toNat + (Sha.t1 (Sha.kt t) (Sha.wd m t) (Sha.rounds m s t)).toNat).mod 4294967296 = (Sha.rounds m s (t + 1)).e.toNat := by
      rw [hr]
      show (_ + _) % 4294967296 = ((Sha.rounds m s t).d + Sha.t1 _ _ _).toNat
      rw [UInt32.toNat_add]
    rw [ha, he]
    have := go_eq m s n (t + 1) (by omega)
    rw [← this]
    rfl
def beN (a b c d : Nat) : Nat := Nat.lor (Nat.lor (Nat.lor (Nat.mod (Nat.shiftLeft a 24) 4294967296) (Nat.mod (Nat.shiftLeft b 16) 4294967296)) (Nat.mod (Nat.shiftLeft c 8) 4294967296)) d
theorem beN_eq (a b c d : UInt8) : beN a.toNat b.toNat c.toNat d.toNat = (Sha.be a b c d).toNat := by
  unfold beN Sha.be
  have e : ∀ (x : UInt8) (n : Nat), n < 32 → (Nat.shiftLeft x.toNat n).mod 4294967296 = (x.toUInt32 <<< UInt32.ofNat n).toNat := fun x n h => by
    rw [u32_shl_nat _ n h, UInt8.toNat_toUInt32]
    show (x.toNat <<< n) % _ = _
    rw [Nat.shiftLeft_eq]
  rw [UInt32.toNat_or, UInt32.toNat_or, UInt32.toNat_or, UInt8.toNat_toUInt32, e a 24 (by omega), e b 16 (by omega), e c 8 (by omega)]
  rfl
def w4 : List Nat → List Nat
  | a :: b :: c :: d :: r => force (beN a b c d) fun w => w :: w4 r
  | _ => []
theorem w4_eq (l : List UInt8) : ∀ (n at_ : Nat), at_ + 4 * n ≤ l.length → w4 (((l.drop at_).take (4 * n)).map (·.toNat)) = (List.range n).map fun t => (Sha.word l at_ t).toNat
  | 0, at_, _ => by simp [w4]
  | n + 1, at_, h => by
    have e4 : (l.drop at_).take (4 * (n + 1)) = l.getD at_ 0 :: l.getD (at_ + 1) 0 :: l.getD (at_ + 2) 0 :: l.getD (at_ + 3) 0 :: (l.drop (at_ + 4)).take (4 * n) := by
      have hg : ∀ i, i < l.length → l.drop i = l.getD i 0 :: l.drop (i + 1) := fun i hi => by
        rw [List.drop_eq_getElem_cons hi]; congr 1; simp [List.getD, hi]
      rw [hg at_ (by omega), hg (at_ + 1) (by omega), hg (at_ + 1 + 1) (by omega), hg (at_ + 1 + 1 + 1) (by omega)]
      rw [show 4 * (n + 1) = 4 * n + 1 + 1 + 1 + 1 by omega]
      simp only [List.take_succ_cons]
    rw [e4]
    simp only [List.map_cons, w4, force_eq]
    rw [w4_eq l n (at_ + 4) (by omega), beN_eq, List.range_succ_eq_map, List.map_cons, List.map_map]
    have hw0 : Sha.word l at_ 0 = Sha.be (l.getD at_ 0) (l.getD (at_ + 1) 0) (l.getD (at_ + 2) 0) (l.getD (at_ + 3) 0) := rfl
    rw [hw0]
    refine congrArg (List.cons _) ?_
    apply List.map_congr_left
    intro t _
    simp only [Function.comp, Sha.word]
    rw [show at_ + 4 + 4 * t = at_ + 4 * (t + 1) by omega]
def kN : List Nat := [
  0x428a2f98, 0x71374491, 0xb5c0fbcf, 0xe9b5dba5, 0x3956c25b, 0x59f111f1, 0x923f82a4, 0xab1c5ed5,
  0xd807aa98, 0x12835b01, 0x243185be, 0x550c7dc3, 0x72be5d74, 0x80deb1fe, 0x9bdc06a7, 0xc19bf174,
  0xe49b69c1, 0xefbe4786, 0x0fc19dc6, 0x240ca1cc, 0x2de92c6f, 0x4a7484aa, 0x5cb0a9dc, 0x76f988da,
  0x983e5152, 0xa831c66d, 0xb00327c8, 0xbf597fc7, 0xc6e00bf3, 0xd5a79147, 0x06ca6351, 0x14292967,
  0x27b70a85, 0x2e1b2138, 0x4d2c6dfc, 0x53380d13, 0x650a7354, 0x766a0abb, 0x81c2c92e, 0x92722c85,
  0xa2bfe8a1, 0xa81a664b, 0xc24b8b70, 0xc76c51a3, 0xd192e819, 0xd6990624, 0xf40e3585, 0x106aa070,
  0x19a4c116, 0x1e376c08, 0x2748774c, 0x34b0bcb5, 0x391c0cb3, 0x4ed8aa4a, 0x5b9cca4f, 0x682e6ff3,
  0x748f82ee, 0x78a5636f, 0x84c87814, 0x8cc70208, 0x90befffa, 0xa4506ceb, 0xbef9a3f7, 0xc67178f2]
theorem kN_eq : Sha.kl.map (·.toNat) = kN := by decide +kernel
/-- Numbers reckoned ahead of what uses them. -/
def forceL {α : Type} : List Nat → (List Nat → α) → α
  | [], f => f []
  | n :: l, f => force n fun m => forceL l fun r => f (m :: r)
theorem forceL_eq {α : Type} : ∀ (l : List Nat) (f : List Nat → α), forceL l f = f l
  | [], _ => rfl
  | n :: l, f => by simp only [forceL, force_eq, forceL_eq l]
def addL : List Nat → List Nat → List Nat
  | a :: l, b :: m => Nat.mod (a + b) 4294967296 :: addL l m
  | _, _ => []
def blkN (s : List Nat) (bytes : List Nat) : List Nat := match s with
  | [a, b, c, d, e, f, g, h] => addL s (go kN (w4 bytes) a b c d e f g h)
  | _ => []
theorem blkN_eq (s : Sha.St) (l : List UInt8) (at_ : Nat) (h : at_ + 64 ≤ l.length) : blkN (toL s) (((l.drop at_).take 64).map (·.toNat)) = toL (Sha.blk s l at_) := by
  have hw := w4_eq l 16 at_ h
  unfold blkN toL
  simp only []
  rw [show (64 : Nat) = 4 * 16 from rfl, hw]
  have hwd : ((List.range 16).map fun t => (Sha.word l at_ t).toNat) = (List.range 16).map fun i => (Sha.wd (Sha.word l at_) (0 + i)).toNat := by
    apply List.map_congr_left
    intro t ht
    rw [Nat.zero_add, Sha.wd_lo _ (List.mem_range.1 ht)]
  have := go_eq (Sha.word l at_) s 64 0 rfl
  rw [← hwd, List.drop_zero, kN_eq] at this
  have e0 : Sha.rounds (Sha.word l at_) s 0 = s := rfl
  rw [e0] at this
  rw [this]
  unfold Sha.blk Sha.add toL
  simp only [addL, UInt32.toNat_add]
  rfl
def blksN : Nat → List Nat → List Nat → List Nat
  | 0, _, s => s
  | n + 1, l, s => forceL (blkN s (l.take 64)) fun s' => blksN n (l.drop 64) s'
theorem blksN_eq (l : List UInt8) (s : Sha.St) : ∀ (n k : Nat), 64 * (k + n) ≤ l.length → blksN n ((l.drop (64 * k)).map (·.toNat)) (toL (Sha.blks l s k)) = toL (Sha.blks l s (k + n))
  | 0, k, _ => rfl
  | n + 1, k, h => by
    simp only [blksN, forceL_eq]
    rw [← List.map_take, blkN_eq _ _ _ (by omega), ← List.map_drop, List.drop_drop]
    have : toL (Sha.blk (Sha.blks l s k) l (64 * k)) = toL (Sha.blks l s (k + 1)) := rfl
    rw [this, show 64 * k + 64 = 64 * (k + 1) by omega, blksN_eq l s n (k + 1) (by omega)]
    congr 2; omega
def outN (s : List Nat) : List Nat := (List.range 16).map fun k => Nat.mod (Nat.div (s.getD (k / 4) 0) (2 ^ (24 - 8 * (k % 4)))) 256
def initN : List Nat := [0x6a09e667, 0xbb67ae85, 0x3c6ef372, 0xa54ff53a, 0x510e527f, 0x9b05688c, 0x1f83d9ab, 0x5be0cd19]
/-- The seal of bytes. -/
def sumN (l : List Nat) (tl : List Nat) (n : Nat) : List Nat := outN (blksN n (l ++ tl) initN)
theorem sumN_eq (l : List UInt8) (n : Nat) (hn : n = (l.length + Sha.zeros l.length + 9) / 64) : (Sha.sum l).map (·.toNat) = sumN (l.map (·.toNat)) ((Sha.tail l.length).map (·.toNat)) n := by
  unfold sumN Sha.sum
  have hlen : (Sha.pad l).length / 64 = n := by rw [Sha.pad_length, hn]
  rw [hlen]
  have h1 := blksN_eq (Sha.pad l) Sha.init n 0 (by rw [Sha.pad_length]; have := Sha.pad_mod l; rw [Sha.pad_length] at this; omega)
  rw [Nat.mul_zero, List.drop_zero, Nat.zero_add] at h1
  have h0 : toL (Sha.blks (Sha.pad l) Sha.init 0) = initN := by
    show toL Sha.init = initN
    decide +kernel
  rw [h0] at h1
  have hp : (Sha.pad l).map (·.toNat) = l.map (·.toNat) ++ (Sha.tail l.length).map (·.toNat) := by unfold Sha.pad; rw [List.map_append]
  rw [← hp, h1]
  unfold Sha.out outN
  rw [List.map_map]
  apply List.map_congr_left
  intro k hk
  have hk16 := List.mem_range.1 hk
  simp only [Function.comp, Sha.outAt, Sha.byte]
  have hg : (toL (Sha.blks (Sha.pad l) Sha.init n)).getD (k / 4) 0 = (Sha.get (Sha.blks (Sha.pad l) Sha.init n) (k / 4)).toNat := by
    have : k / 4 = 0 ∨ k / 4 = 1 ∨ k / 4 = 2 ∨ k / 4 = 3 := by omega
    rcases this with h | h | h | h <;> rw [h] <;> rfl
  rw [hg]
  exact UInt8.toNat_ofNat_of_lt' (by have := Nat.mod_lt ((Sha.get (Sha.blks (Sha.pad l) Sha.init n) (k / 4)).toNat / 2 ^ (24 - 8 * (k % 4))) (show 0 < 256 by omega); simpa [UInt8.size] using this)
theorem toNat_inj : ∀ {l m : List UInt8}, l.map (·.toNat) = m.map (·.toNat) → l = m
  | [], [], _ => rfl
  | [], _ :: _, h => by cases h
  | _ :: _, [], h => by cases h
  | a :: l, b :: m, h => by
    simp only [List.map_cons, List.cons.injEq] at h
    rw [UInt8.toNat_inj.1 h.1, toNat_inj h.2]
end ShaN
end Go

/- The chapter's grid with a byte of a block turned: what is answered then. Plain facts. No condition. -/
namespace Go.Proofs.YtfoegmjpfkmggaaGreatDoor
open Go.RowKit
def gb1Rest : List UInt8 := GB.rest gb1
def gb1Sum : List UInt8 := [147, 66, 73, 135, 13, 230, 99, 145, 241, 150, 89, 157, 144, 241, 97, 235]
def gb1Bad : List UInt8 := [38, 63, 236, 137, 192, 229, 37, 116, 55, 79, 25, 113, 220, 204, 142, 76]
theorem gb1Rest_length : gb1Rest.length = 1008 := by decide +kernel
theorem gb1Sum_eq : Sha.sum gb1Rest = gb1Sum := by
  refine ShaN.toNat_inj ?_
  rw [ShaN.sumN_eq gb1Rest 16 (by decide +kernel), gb1Rest_length]
  decide +kernel
theorem gb1Bad_eq : Sha.sum (gb1Rest.set 24 1) = gb1Bad := by
  refine ShaN.toNat_inj ?_
  have hl : (gb1Rest.set 24 1).length = 1008 := by rw [List.length_set, gb1Rest_length]
  rw [ShaN.sumN_eq (gb1Rest.set 24 1) 16 (by rw [hl]; decide +kernel), hl]
  decide +kernel
theorem gb1_turned : (GB.read (flip (GB.bytes gb1) 40 1)).1 ≠ 0 := by
  have hb : GB.bytes gb1 = gb1Sum ++ gb1Rest := by unfold GB.bytes; rw [show GB.rest gb1 = gb1Rest from rfl, gb1Sum_eq]
  have hz : (gb1Sum ++ gb1Rest).getD 40 0 = 0 := by decide +kernel
  have e : flip (GB.bytes gb1) 40 1 = gb1Sum ++ gb1Rest.set 24 1 := by
    unfold flip
    rw [hb, hz, List.set_append_right _ _ (by decide)]; rfl
  have h1 : (gb1Sum ++ gb1Rest.set 24 1).drop 16 = gb1Rest.set 24 1 := rfl
  have h2 : (gb1Sum ++ gb1Rest.set 24 1).take 16 = gb1Sum := rfl
  have hl : (gb1Sum ++ gb1Rest.set 24 1).length = 1024 := by rw [List.length_append, List.length_set, gb1Rest_length]; rfl
  unfold GB.read
  rw [e, if_neg (by rw [hl]; simp), h1, h2, gb1Bad_eq, if_pos (by decide)]
  decide
theorem look_two {d : Dsk} (h : Two d) {W : List RefT} : glook ⟨4, [1, 1, 0, 0], W⟩ d none (2, 7, ()) = (0, some gb2, ⟨4, [1, 1, 0, 0], W⟩) := by
  have ht : gthere d (2, 7, ()) = some gb2 := gthere_some (b := gb2) (by decide) h.two
  unfold glook
  rw [if_neg (by unfold Dsk.isOut; rw [h.rm.out]; simp), if_neg (by show ¬ (Grd.of ⟨4, [], []⟩ (2, 7, ()) = false); decide), ht]
/-- The disk with the byte turned. -/
structure Two' (d : Dsk) : Prop where
  rm : Rm d 4
  one : (GB.read (gblk d 1)).1 ≠ 0
  two : gblk d 2 = GB.bytes gb2
  n120 : d.N = 120
theorem two_turn {d : Dsk} (h : Two d) : ∃ d', d.turn 104 40 1 = (0, d') ∧ d'.N = d.N ∧ Two' d' := by
  obtain ⟨d', e1, e2, e3, e4, e5⟩ := gturn h.rm (a := 1) (by omega) (by omega) (i := 40) (by omega) 1
  exact ⟨d', e1, e3, e2, by rw [e4, h.one]; exact gb1_turned, (e5 2 (by omega) (by omega) (by omega)).trans h.two, e3.trans h.n120⟩
def g44 : Grd := ⟨4, [1, 1, 0, 0], [(1, 8, ()), (1, 7, ())]⟩
theorem reach_one {d : Dsk} (h : Two' d) : greach g43 d none (2, 7, ()) = (0, [(1, 7, ())], g44) := by
  have t2 : gthere d (2, 7, ()) = some gb2 := gthere_some (b := gb2) (by decide) h.two
  have t1 : gthere d (1, 7, ()) = none := gthere_bad h.one
  have k2 : gkids g43 d (2, 7, ()) = [(1, 7, ())] := by unfold gkids; rw [if_pos (by decide), t2]; rfl
  have k1 : gkids g43 d (1, 7, ()) = [] := by unfold gkids; rw [if_pos (by decide), t1]
  have o2 : gok g43 d (2, 7, ()) = true := by unfold gok; rw [t2]; decide
  have o1 : gok g43 d (1, 7, ()) = false := by unfold gok; rw [t1]; decide
  have hw : gwalk g43 d (2, 7, ()) = [(2, 7, ()), (1, 7, ())] := by
    unfold gwalk gnum
    rw [show 16 * g43.n + 2 = 64 + 1 + 1 from rfl, dfs_new (by simp), k2, dfss_cons, dfss_nil, dfs_new (by decide), k1, dfss_nil]
    rfl
  have hm : gmiss g43 d (2, 7, ()) = [(1, 7, ())] := by
    unfold gmiss
    rw [hw]
    simp [o1, o2]
  unfold greach
  rw [if_neg (by unfold Dsk.isOut; rw [h.rm.out]; simp), if_neg (by decide), hm]
  rfl
theorem inst_one {d : Dsk} (h : Two' d) : ∃ d', ginst g44 d none (1, 7, ()) (GB.bytes gb1) = (0, g43, d', none) ∧ Two d' := by
  obtain ⟨d', e1, e2, e3, e4, e5⟩ := gwrite h.rm (a := 1) (by omega) (by omega) (b := GB.bytes gb1) (GB.bytes_length gb1 (by decide) (by decide))
  refine ⟨d', ?_, e2, e4, (e5 2 (by omega) (by omega) (by omega)).trans h.two, e3.trans h.n120⟩
  unfold ginst
  rw [if_neg (by unfold Dsk.isOut; rw [h.rm.out]; simp), if_neg (by decide), GB.read_bytes gb1 (by decide), if_neg (by simp), if_neg (by decide), e1]
  rw [if_neg (by simp)]
  rfl
theorem reach_all {d : Dsk} (h : Two d) : greach g43 d none (2, 7, ()) = (0, [], g43) := by
  have t2 : gthere d (2, 7, ()) = some gb2 := gthere_some (b := gb2) (by decide) h.two
  have t1 : gthere d (1, 7, ()) = some gb1 := gthere_some (b := gb1) (by decide) h.one
  have k2 : gkids g43 d (2, 7, ()) = [(1, 7, ())] := by unfold gkids; rw [if_pos (by decide), t2]; rfl
  have k1 : gkids g43 d (1, 7, ()) = [] := by unfold gkids; rw [if_pos (by decide), t1]; rfl
  have o2 : gok g43 d (2, 7, ()) = true := by unfold gok; rw [t2]; decide
  have o1 : gok g43 d (1, 7, ()) = true := by unfold gok; rw [t1]; decide
  have hw : gwalk g43 d (2, 7, ()) = [(2, 7, ()), (1, 7, ())] := by
    unfold gwalk gnum
    rw [show 16 * g43.n + 2 = 64 + 1 + 1 from rfl, dfs_new (by simp), k2, dfss_cons, dfss_nil, dfs_new (by decide), k1, dfss_nil]
    rfl
  have hm : gmiss g43 d (2, 7, ()) = [] := by
    unfold gmiss
    rw [hw]
    simp [o1, o2]
  unfold greach
  rw [if_neg (by unfold Dsk.isOut; rw [h.rm.out]; simp), if_neg (by decide), hm]
  rfl
theorem inst_other {d : Dsk} (h : Two d) : ginst g43 d none (1, 7, ()) (GB.bytes gb2) = (2, g43, d, none) := by
  unfold ginst
  rw [if_neg (by unfold Dsk.isOut; rw [h.rm.out]; simp), if_neg (by decide), GB.read_bytes gb2 (by decide), if_neg (by simp), if_pos (by decide)]
theorem inst_short {d : Dsk} (h : Two d) : ginst g43 d none (1, 7, ()) [1, 2, 3] = (4, g43, d, none) := by
  have hr : GB.read [1, 2, 3] = (4, GB.none_) := by unfold GB.read; rw [if_pos (by decide)]
  unfold ginst
  rw [if_neg (by unfold Dsk.isOut; rw [h.rm.out]; simp), if_neg (by decide), hr, if_pos (by simp)]
end Go.Proofs.YtfoegmjpfkmggaaGreatDoor

/- GridKnown: the chapter's examples. Condition: the library's table is there. -/
namespace Go.Proofs.YtfoegmjpfkmggaaGreatDoor
open Go.RowKit
theorem setOk_all {L : List Nat} (h1 : L.length ≤ 512) (h2 : L.all (fun x => decide (x ≤ 2)) = true) : SetOk L := ⟨h1, fun i => by
  rw [List.getD_eq_getElem?_getD]
  cases h : L[i]? with
  | none => simp
  | some x => simpa using List.all_eq_true.1 h2 x (List.mem_of_getElem? h)⟩
theorem known_tail : turnCode g43.L 1 1 = 0 ∧ turnL g43.L 1 1 2 = [2, 1, 0, 0] ∧ cnt [2, 1, 1, 0] 4 = 1 ∧ setl [2, 1, 1, 0] = [0, 1, 1, 0] := by decide
theorem known_put {d : Dsk} (h : Two d) : ∃ d3 d4, gput ⟨4, [2, 1, 0, 0], [(1, 8, ())]⟩ d none 3 [] [99] 8 = ((0, (3, 8, ())), ⟨4, [2, 1, 1, 0], [(1, 8, ())]⟩, d3, none) ∧
    gput ⟨4, [0, 1, 1, 0], [(1, 8, ())]⟩ d3 none 3 [] [99] 9 = ((0, (1, 9, ())), ⟨4, [1, 1, 1, 0], [(1, 8, ())]⟩, d4, none) ∧ Rm d4 4 ∧ d4.N = d.N := by
  obtain ⟨d3, e3, r3, n3, b3, o3⟩ := gput_ok (g := ⟨4, [2, 1, 0, 0], [(1, 8, ())]⟩) (k := 3) (s := 8) (l := []) (m := [99]) h.rm rfl (setOk_all (by decide) (by decide)) (by decide) (by decide)
  obtain ⟨d4, e4, r4, n4, b4, o4⟩ := gput_ok (g := ⟨4, [0, 1, 1, 0], [(1, 8, ())]⟩) (k := 3) (s := 9) (l := []) (m := [99]) r3 rfl (setOk_all (by decide) (by decide)) (by decide) (by decide)
  exact ⟨d3, d4, e3, e4, r4, n4.trans n3⟩
theorem look_five {d : Dsk} {g : Grd} (ho : d.out = false) (hn : g.n = 4) : glook g d none (5, 0, ()) = (2, none, g) := by
  unfold glook
  rw [if_neg (by unfold Dsk.isOut; rw [ho]; simp), if_pos (by unfold Grd.of; rw [hn]; decide)]
set_option maxRecDepth 100000 in
set_option maxHeartbeats 8000000 in
theorem lgridKnown_any (w : World) (hT : Tab w) : Calls Tryz.prog 17 #[] w fun e w' => e = .returned (.bool true) ∧ Below w.heap.size w w' := by
  have hz := zeroGBrun
  have H0 := Lib.hid hT
  clear hT
  go_enter Tryz.func17, Tryz.ntmps17
  go_wp2_with fail
  refine (ltwo_any w H0.out).mono ?_
  rintro e w1 ⟨gp, dp, d, rfl, hG, hTwo, hB⟩
  obtain ⟨d1, ht1, hN1, hTwo1⟩ := two_turn hTwo
  obtain ⟨d2, hi2, hTwo2⟩ := inst_one hTwo1
  obtain ⟨d3, d4, hp3, hp4, hr4, hN4⟩ := known_put hTwo2
  replace hN4 := hN4.trans hTwo2.n120
  have HP := Lib.hid (And.intro hTwo (And.intro ht1 (And.intro hTwo1 (And.intro hi2 (And.intro hTwo2 (And.intro hp3 (And.intro hp4 (And.intro hr4 (And.intro hN1 hN4)))))))))
  have H1 := Lib.hid (And.intro (GX.of_GL hG hB.size) hB)
  clear hN1 hG hB hTwo ht1 hTwo1 hi2 hTwo2 hp3 hp4 hr4 hN4
  go_wp2_with fail
  refine (lawake_any w1 (H0.out.below H1.out.2)).mono ?_
  rintro e w2 ⟨rfl, hbx⟩
  have H2 := Lib.hid (And.intro (H1.out.1.below hbx).1 (H1.out.2.trans (H1.out.1.below hbx).2.bel))
  clear hbx H1
  go_wp2_with fail
  -- Read 1 8
  refine (lref_any 1 8 w2).mono ?_
  rintro e w3 ⟨rfl, hbx⟩
  have H3 := Lib.hid (And.intro (H2.out.1.below hbx).1 (H2.out.2.trans (H2.out.1.below hbx).2.bel))
  clear hbx H2
  go_wp2_with fail
  refine (xread H3.out.1 (by decide) (1, 8, ()) (look_other HP.out.1)).mono ?_
  rintro e w4 ⟨v1, rfl, ⟨v2, A1, c1, BB1, e1, C1, rfl, -⟩, hG, hS⟩
  have H4 := Lib.hid (And.intro hG (H3.out.2.trans hS.bel))
  clear hG hS H3
  go_wp2_with (first
    | ((with_reducible show wpList _ _ _ ((⟨none, _, _, _, _, _⟩ : Oper) :: _) _ _); refine wpList_store_blk (o := ⟨none, _, _, _, _, _⟩) ((Blk.new w4 116 #[.int .i64 0, .int .i64 0, .int .i64 0, .slice none 0 0, .slice none 0 0])) (by rfl) _ _ _ (by rfl) (by rfl) (gbc ((none : Option GBT).getD GB.none_) A1 c1 BB1 e1) (by rfl) (sizeGB) (by rfl) (by rfl) (gbc_one _ _ _ _ _) ?_; intro w5 h5 hu5; have hbx := ((Below.refl w4.heap.size w4).alloc (Nat.le_refl _) (.cells #[.int .i64 0, .int .i64 0, .int .i64 0, .slice none 0 0, .slice none 0 0] 116)).upd hu5 (Nat.le_refl _); have H5 := Lib.hid (And.intro (H4.out.1.below hbx).1 (H4.out.2.trans (H4.out.1.below hbx).2.bel)); clear hu5 hbx h5)
    | fail)
  clear H4
  -- Raw 1 7
  refine (lref_any 1 7 w5).mono ?_
  rintro e w6 ⟨rfl, hbx⟩
  have H6 := Lib.hid (And.intro (H5.out.1.below hbx).1 (H5.out.2.trans (H5.out.1.below hbx).2.bel))
  clear hbx H5
  go_wp2_with fail
  refine (xraw_some H6.out.1 (by decide) (1, 7, ()) (look_one HP.out.1)).mono ?_
  rintro e w7 ⟨y1, rfl, hb1, -, hG, hS⟩
  have H7 := Lib.hid (And.intro hG (And.intro (H6.out.2.trans hS.bel) hb1))
  clear hG hS hb1 H6
  go_wp2_with fail
  -- Raw 2 7
  refine (lref_any 2 7 w7).mono ?_
  rintro e w8 ⟨rfl, hbx⟩
  have H8 := Lib.hid (And.intro (H7.out.1.below hbx).1 (And.intro (H7.out.2.1.trans (H7.out.1.below hbx).2.bel) ((H7.out.1.below hbx).2.same.blk H7.out.2.2 (List.mem_singleton_self _))))
  clear hbx H7
  go_wp2_with fail
  refine (xraw_some H8.out.1 (by decide) (2, 7, ()) (look_two HP.out.1)).mono ?_
  rintro e w9 ⟨y2, rfl, hb2, -, hG, hS⟩
  have hK9 : Blk w9 y1 5 ((GB.bytes gb1).map u8v).toArray ∧ Blk w9 y2 5 ((GB.bytes gb2).map u8v).toArray := ⟨by have h := hS.same.blk H8.out.2.2 (List.mem_singleton_self _); rw [show gblk d (1, 7, ()).fst = GB.bytes gb1 from HP.out.1.one] at h; exact h, by rw [show gblk d (2, 7, ()).fst = GB.bytes gb2 from HP.out.1.two] at hb2; exact hb2⟩
  have H9 := Lib.hid (And.intro hG (And.intro (H8.out.2.1.trans hS.bel) hK9))
  clear hG hS hb2 hK9 H8
  rw [show (gblk d (1, 7, ()).fst).length = 1024 by rw [show gblk d (1, 7, ()).fst = GB.bytes gb1 from HP.out.1.one]; exact GB.bytes_length gb1 (by decide) (by decide), show (gblk d (2, 7, ()).fst).length = 1024 by rw [show gblk d (2, 7, ()).fst = GB.bytes gb2 from HP.out.1.two]; exact GB.bytes_length gb2 (by decide) (by decide)]
  go_wp2_with fail
  -- Turn
  have htn := xturn H9.out.1 104 40 1 HP.out.2.1 HP.out.2.2.2.2.2.2.2.2.1
  rw [show iu8 1 = 1 from rfl] at htn
  refine htn.mono ?_
  rintro e w10 ⟨rfl, hG, hS⟩
  have H10 := Lib.hid (And.intro hG (And.intro (H9.out.2.1.trans hS.bel) (And.intro (hS.same.blk H9.out.2.2.1 (by simp)) (hS.same.blk H9.out.2.2.2 (by simp)))))
  clear htn hG hS H9
  go_wp2_with fail
  -- reaches
  refine (lref_any 2 7 w10).mono ?_
  rintro e w11 ⟨rfl, hbx⟩
  have hS := (H10.out.1.below hbx).2
  have H11 := Lib.hid (And.intro (H10.out.1.below hbx).1 (And.intro (H10.out.2.1.trans hS.bel) (And.intro (hS.same.blk H10.out.2.2.1 (by simp)) (hS.same.blk H10.out.2.2.2 (by simp)))))
  clear hbx hS H10
  go_wp2_with fail
  refine (lref_any 1 7 w11).mono ?_
  rintro e w12 ⟨rfl, hbx⟩
  have hS := (H11.out.1.below hbx).2
  have H12 := Lib.hid (And.intro (H11.out.1.below hbx).1 (And.intro (H11.out.2.1.trans hS.bel) (And.intro (hS.same.blk H11.out.2.2.1 (by simp)) (hS.same.blk H11.out.2.2.2 (by simp)))))
  clear hbx hS H11
  go_wp2_with fail
  have hbl := (Below.refl w12.heap.size w12).alloc (Nat.le_refl _) (.cells #[.int .i64 1, .int .i64 7] 113)
  have hS := (H12.out.1.below hbl).2
  have hG := H12.out.1.add hbl (y := w12.heap.size) (Nat.le_refl _) (by simp)
  have hr13 : Refs (w12.alloc (.cells #[.int .i64 1, .int .i64 7] 113)) (some ⟨w12.heap.size, 0, none⟩) [(1, 7, ())] := Refs.of (reads_new w12 113 [.int .i64 1, .int .i64 7])
  have H13 := Lib.hid (And.intro hG (And.intro (H12.out.2.1.trans hS.bel) (And.intro (hS.same.blk H12.out.2.2.1 (by simp)) (And.intro (hS.same.blk H12.out.2.2.2 (by simp)) hr13))))
  clear hbl hS hG hr13 H12
  generalize w12.alloc (.cells #[.int .i64 1, .int .i64 7] 113) = w13 at H13 ⊢
  refine (lreaches_any H13.out.1 (by decide) (2, 7, ()) (L := [(1, 7, ())]) (by decide) (reach_one HP.out.2.2.1) (some ⟨w12.heap.size, 0, none⟩) 1 1 [(1, 7, ())] rfl H13.out.2.2.2.2 (fun ad e => by cases e; simp)).mono ?_
  rintro e w14 ⟨he, hG, hS⟩
  obtain rfl : e = .returned (.bool true) := by simpa using he
  have H14 := Lib.hid (And.intro hG (And.intro (H13.out.2.1.trans hS.bel) (And.intro (hS.same.blk H13.out.2.2.1 (by simp)) (hS.same.blk H13.out.2.2.2.1 (by simp)))))
  clear he hG hS H13
  go_wp2_with fail
  -- Install
  refine (lref_any 1 7 w14).mono ?_
  rintro e w15 ⟨rfl, hbx⟩
  have hS := (H14.out.1.below hbx).2
  have H15 := Lib.hid (And.intro (H14.out.1.below hbx).1 (And.intro (H14.out.2.1.trans hS.bel) (And.intro (hS.same.blk H14.out.2.2.1 (by simp)) (hS.same.blk H14.out.2.2.2 (by simp)))))
  clear hbx hS H14
  go_wp2_with fail
  refine (xinstall H15.out.1 (by decide) (1, 7, ()) (some ⟨y1, 0, none⟩) 1024 1024 (GB.bytes gb1) (GB.bytes_length gb1 (by decide) (by decide)).symm (Nat.le_refl _) (by omega) H15.out.2.2.1.bytes (fun ad e => by cases e; simp) HP.out.2.2.2.1).mono ?_
  rintro e w16 ⟨rfl, hG, hS⟩
  have H16 := Lib.hid (And.intro hG (And.intro (H15.out.2.1.trans hS.bel) (And.intro (hS.same.blk H15.out.2.2.1 (by simp)) (hS.same.blk H15.out.2.2.2 (by simp)))))
  clear hG hS H15
  go_wp2_with fail
  refine (lref_any 2 7 w16).mono ?_
  rintro e w17 ⟨rfl, hbx⟩
  have hS := (H16.out.1.below hbx).2
  have H17 := Lib.hid (And.intro (H16.out.1.below hbx).1 (And.intro (H16.out.2.1.trans hS.bel) (And.intro (hS.same.blk H16.out.2.2.1 (by simp)) (hS.same.blk H16.out.2.2.2 (by simp)))))
  clear hbx hS H16
  go_wp2_with fail
  refine (lreaches_any H17.out.1 (by decide) (2, 7, ()) (L := []) (by decide) (reach_all HP.out.2.2.2.2.1) none 0 0 [] rfl (fun h => absurd h (by simp)) (fun ad e => by cases e)).mono ?_
  rintro e w18 ⟨he, hG, hS⟩
  obtain rfl : e = .returned (.bool true) := by simpa using he
  have H18 := Lib.hid (And.intro hG (And.intro (H17.out.2.1.trans hS.bel) (And.intro (hS.same.blk H17.out.2.2.1 (by simp)) (hS.same.blk H17.out.2.2.2 (by simp)))))
  clear he hG hS H17
  go_wp2_with fail
  -- Wanted
  refine (xwanted H18.out.1 (by decide)).mono ?_
  rintro e w19 ⟨A3, c3, rfl, hr3, -, hbx⟩
  have hS := (H18.out.1.below hbx).2
  have H19 := Lib.hid (And.intro (H18.out.1.below hbx).1 (And.intro (H18.out.2.1.trans hS.bel) (And.intro (hS.same.blk H18.out.2.2.1 (by simp)) (And.intro (hS.same.blk H18.out.2.2.2 (by simp)) hr3))))
  clear hbx hS hr3 H18
  go_wp2_with fail
  refine (lref_any 1 8 w19).mono ?_
  rintro e w20 ⟨rfl, hbx⟩
  have hbl := (Below.refl w20.heap.size w20).alloc (Nat.le_refl _) (.cells #[.int .i64 1, .int .i64 8] 113)
  have hr21 : Refs (w20.alloc (.cells #[.int .i64 1, .int .i64 8] 113)) (some ⟨w20.heap.size, 0, none⟩) [(1, 8, ())] := Refs.of (reads_new w20 113 [.int .i64 1, .int .i64 8])
  have hb2 := hbx.trans (hbl.mono hbx.size)
  have hS := (H19.out.1.below hb2).2
  have H21 := Lib.hid (And.intro (H19.out.1.below hb2).1 (And.intro (H19.out.2.1.trans hS.bel) (And.intro (hS.same.blk H19.out.2.2.1 (by simp)) (And.intro (hS.same.blk H19.out.2.2.2.1 (by simp)) (And.intro (H19.out.2.2.2.2.below hb2) hr21)))))
  clear hbx hbl hr21 hb2 hS H19
  go_wp2_with fail
  generalize w20.alloc (.cells #[.int .i64 1, .int .i64 8] 113) = w21 at H21 ⊢
  refine (sameRefs_any A3 (some ⟨w20.heap.size, 0, none⟩) 1 1 c3 1 [(1, 8, ())] [(1, 8, ())] rfl rfl (by simp) w21 H21.out.2.2.2.2.1 H21.out.2.2.2.2.2).mono ?_
  rintro e w22 ⟨he, hbx⟩
  obtain rfl : e = .returned (.bool true) := by simpa using he
  have hS := (H21.out.1.below hbx).2
  have H22 := Lib.hid (And.intro (H21.out.1.below hbx).1 (And.intro (H21.out.2.1.trans hS.bel) (hS.same.blk H21.out.2.2.2.1 (by simp))))
  clear he hbx hS H21
  go_wp2_with fail
  -- Install of another one
  refine (lref_any 1 7 w22).mono ?_
  rintro e w23 ⟨rfl, hbx⟩
  have hS := (H22.out.1.below hbx).2
  have H23 := Lib.hid (And.intro (H22.out.1.below hbx).1 (And.intro (H22.out.2.1.trans hS.bel) (hS.same.blk H22.out.2.2 (by simp))))
  clear hbx hS H22
  go_wp2_with fail
  refine (xinstall H23.out.1 (by decide) (1, 7, ()) (some ⟨y2, 0, none⟩) 1024 1024 (GB.bytes gb2) (GB.bytes_length gb2 (by decide) (by decide)).symm (Nat.le_refl _) (by omega) H23.out.2.2.bytes (fun ad e => by cases e; simp) (inst_other HP.out.2.2.2.2.1)).mono ?_
  rintro e w24 ⟨rfl, hG, hS⟩
  have H24 := Lib.hid (And.intro hG (H23.out.2.1.trans hS.bel))
  clear hG hS H23
  go_wp2_with fail
  refine (lref_any 1 7 w24).mono ?_
  rintro e w25 ⟨rfl, hbx⟩
  have hS := (H24.out.1.below hbx).2
  have H25 := Lib.hid (And.intro (H24.out.1.below hbx).1 (H24.out.2.trans hS.bel))
  clear hbx hS H24
  go_wp2_with fail
  have hbl := (Below.refl w25.heap.size w25).alloc (Nat.le_refl _) (.cells #[.int .u8 1, .int .u8 2, .int .u8 3] 5)
  have hG := H25.out.1.add hbl (y := w25.heap.size) (Nat.le_refl _) (by simp)
  have hb26 : Blk (w25.alloc (.cells #[.int .u8 1, .int .u8 2, .int .u8 3] 5)) w25.heap.size 5 (([1, 2, 3] : List UInt8).map u8v).toArray := Blk.new w25 5 #[.int .u8 1, .int .u8 2, .int .u8 3]
  have H26 := Lib.hid (And.intro hG (And.intro (H25.out.2.trans (H25.out.1.below hbl).2.bel) hb26))
  clear hbl hG hb26 H25
  generalize w25.alloc (.cells #[.int .u8 1, .int .u8 2, .int .u8 3] 5) = w26 at H26 ⊢
  refine (xinstall H26.out.1 (by decide) (1, 7, ()) (some ⟨w25.heap.size, 0, none⟩) 3 3 [1, 2, 3] rfl (Nat.le_refl _) (by omega) H26.out.2.2.bytes (fun ad e => by cases e; simp) (inst_short HP.out.2.2.2.2.1)).mono ?_
  rintro e w27 ⟨rfl, hG, hS⟩
  have H27 := Lib.hid (And.intro hG (H26.out.2.1.trans hS.bel))
  clear hG hS H26
  go_wp2_with fail
  refine (lref_any 1 7 w27).mono ?_
  rintro e w28 ⟨rfl, hbx⟩
  have hS := (H27.out.1.below hbx).2
  have H28 := Lib.hid (And.intro (H27.out.1.below hbx).1 (H27.out.2.trans hS.bel))
  clear hbx hS H27
  go_wp2_with fail
  have hrl := xrelease H28.out.1 (1, 7, ()) (by decide) (by decide)
  rw [show turnCode g43.L (1, 7, ()).1 1 = 0 from known_tail.1, show turnL g43.L (1, 7, ()).1 1 2 = [2, 1, 0, 0] from known_tail.2.1] at hrl
  refine hrl.mono ?_
  rintro e w29 ⟨rfl, hG, hS⟩
  have H29 := Lib.hid (And.intro (show GX w.heap.size _ w29 gp dp ⟨4, [2, 1, 0, 0], [(1, 8, ())]⟩ d2 from hG) (H28.out.2.trans hS.bel))
  clear hrl hG hS H28
  go_wp2_with fail
  refine (lref_any 3 8 w29).mono ?_
  rintro e w30 ⟨rfl, hbx⟩
  have hS := (H29.out.1.below hbx).2
  have H30 := Lib.hid (And.intro (H29.out.1.below hbx).1 (H29.out.2.trans hS.bel))
  clear hbx hS H29
  go_wp2_with fail
  refine (lwrites_any H30.out.1.gl H30.out.1.size (H0.out.below H30.out.2) 3 8 none 0 0 [] [99] (3, 8, ()) 0 rfl (by simp) (by simp) (fun h => absurd h (by simp)) (by rw [HP.out.2.2.2.2.2.1])).mono ?_
  rintro e w31 ⟨rfl, hG, hB⟩
  rw [HP.out.2.2.2.2.2.1] at hG
  have H31 := Lib.hid (And.intro (GX.of_GL hG (H30.out.2.trans hB).size) (H30.out.2.trans hB))
  clear hG hB H30
  go_wp2_with fail
  refine (xsettle H31.out.1).mono ?_
  rintro e w32 ⟨rfl, hG, hS⟩
  have H32 := Lib.hid (And.intro (show GX w.heap.size _ w32 gp dp ⟨4, [0, 1, 1, 0], [(1, 8, ())]⟩ d3 from hG) (H31.out.2.trans hS.bel))
  clear hG hS H31
  simp only [show cnt [2, 1, 1, 0] [2, 1, 1, 0].length = 1 from known_tail.2.2.1]
  go_wp2_with fail
  refine (lref_any 1 9 w32).mono ?_
  rintro e w33 ⟨rfl, hbx⟩
  have hS := (H32.out.1.below hbx).2
  have H33 := Lib.hid (And.intro (H32.out.1.below hbx).1 (H32.out.2.trans hS.bel))
  clear hbx hS H32
  go_wp2_with fail
  refine (lwrites_any H33.out.1.gl H33.out.1.size (H0.out.below H33.out.2) 3 9 none 0 0 [] [99] (1, 9, ()) 0 rfl (by simp) (by simp) (fun h => absurd h (by simp)) (by rw [HP.out.2.2.2.2.2.2.1])).mono ?_
  rintro e w34 ⟨rfl, hG, hB⟩
  rw [HP.out.2.2.2.2.2.2.1] at hG
  have H34 := Lib.hid (And.intro (GX.of_GL hG (H33.out.2.trans hB).size) (H33.out.2.trans hB))
  clear hG hB H33
  go_wp2_with fail
  refine (lref_any 5 0 w34).mono ?_
  rintro e w35 ⟨rfl, hbx⟩
  have hS := (H34.out.1.below hbx).2
  have H35 := Lib.hid (And.intro (H34.out.1.below hbx).1 (H34.out.2.trans hS.bel))
  clear hbx hS H34
  go_wp2_with fail
  refine (xread H35.out.1 (by decide) (5, 0, ()) (look_five HP.out.2.2.2.2.2.2.2.1.out rfl)).mono ?_
  rintro e w36 ⟨v1, rfl, ⟨v2, A1, c1, BB1, e1, C1, rfl, -⟩, hG, hS⟩
  have H36 := Lib.hid (And.intro hG (H35.out.2.trans hS.bel))
  clear hG hS H35
  go_wp2_with (first
    | ((with_reducible show wpList _ _ _ ((⟨none, _, _, _, _, _⟩ : Oper) :: _) _ _); refine wpList_store_blk (o := ⟨none, _, _, _, _, _⟩) ((Blk.new w36 116 #[.int .i64 0, .int .i64 0, .int .i64 0, .slice none 0 0, .slice none 0 0])) (by rfl) _ _ _ (by rfl) (by rfl) (gbc ((none : Option GBT).getD GB.none_) A1 c1 BB1 e1) (by rfl) (sizeGB) (by rfl) (by rfl) (gbc_one _ _ _ _ _) ?_; intro w37 h37 hu37; have hbx := ((Below.refl w36.heap.size w36).alloc (Nat.le_refl _) (.cells #[.int .i64 0, .int .i64 0, .int .i64 0, .slice none 0 0, .slice none 0 0] 116)).upd hu37 (Nat.le_refl _); have H37 := Lib.hid (And.intro (H36.out.1.below hbx).1 (H36.out.2.trans (H36.out.1.below hbx).2.bel)); clear hu37 hbx h37)
    | fail)
  clear H36
  obtain ⟨q, hq1, hq2, hq3, hG, -⟩ := H37.out.1
  have hns := gnew_small hG.dk (by unfold Dsk.isOut; rw [HP.out.2.2.2.2.2.2.2.1.out]; rfl) 5 (by omega) (by omega) (by rw [HP.out.2.2.2.2.2.2.2.2.2]; omega)
  rw [hq2] at hns
  refine hns.mono ?_
  rintro e w38 ⟨rfl, hbx⟩
  have H38 := Lib.hid (H37.out.2.trans (hbx.mono H37.out.2.size))
  clear hns hbx hG hq1 hq2 hq3
  go_wp2_with fail
  go_ret
  exact ⟨rfl, H38.out⟩
end Go.Proofs.YtfoegmjpfkmggaaGreatDoor

/- A list of bools as an argument. Plain facts over any program. No condition. -/
namespace Go
open Go.ChangeShapes Go.WideShapes
theorem both_bools {w : World} : ∀ {l : List Bool} {rows : List (List Value)}, Both (fun d r => r.length = Sh.bool.size ∧ Sh.Is w .bool d r) l rows → rows.flatten = l.map .bool
  | [], [], _ => rfl
  | [], _ :: _, h => h.elim
  | _ :: _, [], h => h.elim
  | a :: l, r :: rows, ⟨h1, h2⟩ => by
    have hr : r = [.bool a] := h1.2
    rw [List.flatten_cons, hr, both_bools h2]; rfl
end Go

/- GridKeeps: blocks are there until they were let go and settled. Conditions: the steps can be read; the library's table is there. -/
namespace Go.Proofs.YtfoegmjpfkmggaaGreatDoor
open Go.RowKit
/-- A step. -/
abbrev StT := Int × Int × Int × Int × List UInt8 × UInt8 × List Bool × Unit
def stepSh : Sh := .cons (.int .i64) (.cons (.int .i64) (.cons (.int .i64) (.cons (.int .i64) (.cons (.slice .byte) (.cons .byte (.cons (.slice .bool) .nil))))))
def Steps (w : World) (A : Option Addr) (l : List StT) : Prop :=
  0 < l.length → ∃ b off, A = some ⟨b, off, none⟩ ∧ b < w.heap.size ∧ ∀ i, (h : i < l.length) → ∃ A1 c1 A2 c2, (∀ j v, (stpc l[i].1 l[i].2.1 l[i].2.2.1 l[i].2.2.2.1 A1 l[i].2.2.2.2.1.length c1 l[i].2.2.2.2.2.1 A2 l[i].2.2.2.2.2.2.1.length c2)[j]? = some v → w.cell? ⟨b, off + i * 7 + j, none⟩ = some v) ∧
    Bytes w A1 l[i].2.2.2.2.1 ∧ Reads w A2 (l[i].2.2.2.2.2.2.1.map .bool)
theorem stepSh_is {w : World} {x : StT} {cs : List Value} (h : Sh.Is w stepSh x cs) : ∃ A1 c1 A2 c2, cs = (stpc x.1 x.2.1 x.2.2.1 x.2.2.2.1 A1 x.2.2.2.2.1.length c1 x.2.2.2.2.2.1 A2 x.2.2.2.2.2.2.1.length c2).toList ∧ Bytes w A1 x.2.2.2.2.1 ∧ Reads w A2 (x.2.2.2.2.2.2.1.map .bool) := by
  obtain ⟨c1, d1, rfl, _, hx1, c2, d2, rfl, _, hx2, c3, d3, rfl, _, hx3, c4, d4, rfl, _, hx4, c5, d5, rfl, _, hx5, c6, d6, rfl, _, hx6, c7, d7, rfl, _, hx7, hx8⟩ := h
  obtain ⟨rfl, _, _⟩ := hx1
  obtain ⟨rfl, _, _⟩ := hx2
  obtain ⟨rfl, _, _⟩ := hx3
  obtain ⟨rfl, _, _⟩ := hx4
  obtain ⟨A, c, rfl, h6, h7, h8⟩ := Sh.Is.bytes hx5
  have hx6 : c6 = [u8v x.2.2.2.2.2.1] := hx6
  subst hx6
  obtain ⟨K, k, rows, rfl, h2, h3, h4, h5⟩ := hx7
  have hx8 : d7 = [] := hx8
  subst hx8
  exact ⟨A, c, K, k, rfl, h8, by rw [← both_bools h4]; exact h5⟩
theorem Steps.both {w : World} {B : Option Addr} {ts : List StT} {rows : List (List Value)} (h : Both (fun (d : stepSh.T) r => r.length = stepSh.size ∧ Sh.Is w stepSh d r) ts rows) (hr : Reads w B rows.flatten) : Steps w B ts := by
  have hat : ∀ i, (hi : i < ts.length) → ∃ A1 c1 A2 c2, (∀ j v, (stpc ts[i].1 ts[i].2.1 ts[i].2.2.1 ts[i].2.2.2.1 A1 ts[i].2.2.2.2.1.length c1 ts[i].2.2.2.2.2.1 A2 ts[i].2.2.2.2.2.2.1.length c2)[j]? = some v → rows.flatten[i * 7 + j]? = some v) ∧ Bytes w A1 ts[i].2.2.2.2.1 ∧ Reads w A2 (ts[i].2.2.2.2.2.2.1.map .bool) := by
    intro i hi
    obtain ⟨r, h1, h2, h3⟩ := both_at h i hi
    obtain ⟨A1, c1, A2, c2, rfl, hb, hk⟩ := stepSh_is h2
    refine ⟨A1, c1, A2, c2, fun j v hv => ?_, hb, hk⟩
    have hj : j < 7 := by have := (Array.getElem?_eq_some_iff.1 hv).1; simpa [stpc] using this
    have := h3 j hj
    rw [show i * stepSh.size + j = i * 7 + j by simp [stepSh, Sh.size]] at this
    rw [this, Array.getElem?_toList]; exact hv
  intro hp
  have hne : rows.flatten ≠ [] := by
    intro e
    obtain ⟨A1, c1, A2, c2, h1, -⟩ := hat 0 hp
    have := h1 0 _ rfl
    rw [e] at this; simp at this
  obtain ⟨b, off, e, hc⟩ := hr hne
  obtain ⟨_, _, _, _, h0, -⟩ := hat 0 hp
  refine ⟨b, off, e, World.block_lt_of_cell? w _ (hc _ _ (h0 0 _ rfl)), fun i hi => ?_⟩
  obtain ⟨A1, c1, A2, c2, k1, k2, k3⟩ := hat i hi
  exact ⟨A1, c1, A2, c2, fun j v hv => by rw [Nat.add_assoc]; exact hc _ _ (k1 j v hv), k2, k3⟩
theorem reads_lt {w : World} {A : Option Addr} {l : List Value} (h : Reads w A l) : l ≠ [] → ∀ ad, A = some ad → ad.block < w.heap.size := fun hne ad e => by
  obtain ⟨b, off, e2, hc⟩ := h hne
  rw [e] at e2; injection e2 with e2; subst e2
  obtain ⟨v, hv⟩ : ∃ v, l[0]? = some v := ⟨_, List.getElem?_eq_getElem (List.length_pos_iff.2 hne)⟩
  exact World.block_lt_of_cell? w _ (hc 0 v hv)
/-- Ahead of each step. -/
def KeRel (w : World) (xp dp m N : Nat) (v10 : Value) (wr : World) : Prop :=
  ∃ i : Nat, i ≤ N ∧ v10 = .int .i64 (i : Int) ∧ (∃ Y gp g d L G, Lf w.heap.size Y wr xp gp dp m g d L G) ∧ Below w.heap.size w wr
set_option maxRecDepth 100000 in
set_option maxHeartbeats 8000000 in
theorem lgridKeeps_any (n : Int) (A : Option Addr) (c : Nat) (st : List StT) (w : World) (hT : Tab w) (hb : Steps w A st) (hc : st.length ≤ 9223372036854775807) :
    Calls Tryz.prog 4 #[.int .i64 n, .slice A st.length c] w fun e w' => e = .returned (.bool true) ∧ Below w.heap.size w w' := by
  have H0 := Lib.hid (And.intro hT hb)
  clear hT hb
  go_enter Tryz.func4, Tryz.ntmps4
  go_wp2_with fail
  refine (lgridKnown_any w H0.out.1).mono ?_
  rintro e w1 ⟨rfl, hB1⟩
  have H1 := Lib.hid hB1
  clear hB1
  by_cases h1 : 1 ≤ n ∧ n ≤ 12 ∧ st.length ≤ 40
  case neg =>
    by_cases h2 : n < 1
    · have k1 : decide (n < 1) = true := decide_eq_true h2
      clear h1 h2
      go_wp2
      go_ret
      exact ⟨rfl, H1.out⟩
    by_cases h3 : n > 12
    · have k1 : decide (n < 1) = false := decide_eq_false h2
      have k2 : decide (n > 12) = true := decide_eq_true h3
      clear h1 h2 h3
      go_wp2
      go_ret
      exact ⟨rfl, H1.out⟩
    have k1 : decide (n < 1) = false := decide_eq_false h2
    have k2 : decide (n > 12) = false := decide_eq_false h3
    have k3 : decide ((st.length : Int) > 40) = true := decide_eq_true (by omega)
    clear h1 h2 h3
    go_wp2
    go_ret
    exact ⟨rfl, H1.out⟩
  obtain ⟨h2, h3, h4⟩ := h1
  obtain ⟨m, rfl⟩ : ∃ m : Nat, n = (m : Int) := ⟨n.toNat, by omega⟩
  have k1 : decide ((m : Int) < 1) = false := decide_eq_false (by omega)
  have k2 : decide ((m : Int) > 12) = false := decide_eq_false (by omega)
  have k3 : decide ((st.length : Int) > 40) = false := decide_eq_false (by omega)
  have HM := Lib.hid (And.intro (show 1 ≤ m by omega) (And.intro (show m ≤ 12 by omega) h4))
  clear h2 h3 h4
  go_wp2_with fail
  refine (lmade_any m HM.out.1 (Nat.le_trans HM.out.2.1 (by omega)) w1).mono ?_
  rintro e w2 ⟨gp, dp, rfl, hG, hB⟩
  have hx := GX.of_GL (B := w.heap.size) (by obtain ⟨q, j1, j2, j3, j4, j5⟩ := hG; exact ⟨q, j1, j2, j3, j4, fun x hx => Nat.le_trans H1.out.size (j5 x hx)⟩) (Nat.le_trans H1.out.size hB.size)
  have H2 := Lib.hid (And.intro hx (H1.out.trans (hB.mono H1.out.size)))
  clear hG hB hx H1 k1 k2 k3
  go_wp2_with fail
  have hbl := (Below.refl w2.heap.size w2).alloc (Nat.le_refl _) (.cells #[.pointer (some ⟨dp, 0, none⟩), .pointer (some ⟨gp, 0, none⟩), .slice none 0 0, .slice none 0 0, .int .i64 (m : Int)] 71)
  have hx0 : Blk (w2.alloc (.cells #[.pointer (some ⟨dp, 0, none⟩), .pointer (some ⟨gp, 0, none⟩), .slice none 0 0, .slice none 0 0, .int .i64 (m : Int)] 71)) w2.heap.size 71 #[.pointer (some ⟨dp, 0, none⟩), .pointer (some ⟨gp, 0, none⟩), .slice none 0 0, .slice none 0 0, .int .i64 (m : Int)] := Blk.new w2 _ _
  have hL0 : Lf w.heap.size [] (w2.alloc (.cells #[.pointer (some ⟨dp, 0, none⟩), .pointer (some ⟨gp, 0, none⟩), .slice none 0 0, .slice none 0 0, .int .i64 (m : Int)] 71)) w2.heap.size gp dp m ⟨m, List.replicate m 0, []⟩ (Dsk.new (104 + 4 * m)) [] [] :=
    ⟨(H2.out.1.below hbl).1, ⟨_, _, [], [], hx0, OwnsC.nil _ _ _ _, OwnsC.nil _ _ _ _, fun k e => (by cases e)⟩, fun x hx => absurd hx List.not_mem_nil, Lif.new HM.out.1 HM.out.2.1, H2.out.2.size, fun y hy => absurd hy List.not_mem_nil⟩
  have H3 := Lib.hid (And.intro hL0 (H2.out.2.trans (hbl.mono H2.out.2.size)))
  clear hbl hx0 hL0 H2
  generalize w2.alloc (.cells #[.pointer (some ⟨dp, 0, none⟩), .pointer (some ⟨gp, 0, none⟩), .slice none 0 0, .slice none 0 0, .int .i64 (m : Int)] 71) = w3 at H3 ⊢
  generalize w2.heap.size = xp at H3 ⊢
  go_loopw [10, 11, 12] (fun v10 v11 v12 wr => KeRel w xp dp m st.length v10 wr) (fun v _ _ _ => st.length - (RowKit.intOf v).toNat)
  case atStart => exact ⟨0, Nat.zero_le _, rfl, ⟨[], gp, _, _, [], [], H3.out.1⟩, H3.out.2⟩
  case round =>
    clear H3
    obtain ⟨i, hi, rfl, ⟨Y, gp, g, d, L, G, hL⟩, hB⟩ := hrel
    by_cases hlt : i < st.length
    case neg =>
      have kn : decide ((i : Int) < (st.length : Int)) = false := decide_eq_false (by omega)
      have kn2 : decide (i < st.length) = false := decide_eq_false hlt
      have HB := Lib.hid hB
      clear hL hi hlt hB
      go_wp2
      go_ret
      exact ⟨rfl, HB.out⟩
    obtain ⟨b, off, rfl, hbw, hcs⟩ := H0.out.2 (by omega)
    obtain ⟨BA, bc, KA, kc, hcell, hby, hky⟩ := hcs i hlt
    have hi40 : i < 40 := by have := HM.out.2.2; omega
    have hcw : ∀ j v, (stpc st[i].1 st[i].2.1 st[i].2.2.1 st[i].2.2.2.1 BA st[i].2.2.2.2.1.length bc st[i].2.2.2.2.2.1 KA st[i].2.2.2.2.2.2.1.length kc)[j]? = some v → wr.cell? ⟨b, off + i * 7 + j, none⟩ = some v := fun j v hv => (hB.cell (p := ⟨b, off + i * 7 + j, none⟩) hbw).trans (hcell j v hv)
    have hbl1 : st[i].2.2.2.2.1 ≠ [] → ∀ ad, BA = some ad → ad.block < w.heap.size := fun hne => reads_lt hby (fun e => hne (by simpa using e))
    have hkl1 : st[i].2.2.2.2.2.2.1 ≠ [] → ∀ ad, KA = some ad → ad.block < w.heap.size := fun hne => reads_lt hky (fun e => hne (by simpa using e))
    have HI := Lib.hid (And.intro hL (And.intro hB (And.intro hby (And.intro hky (And.intro hbl1 (And.intro hkl1 hcw))))))
    have HT : Hid (∀ W, Below w.heap.size w W → Tab W) := Lib.hid fun W k => Tab.below H0.out.1 k
    generalize st[i] = s at HI
    obtain ⟨s1, s2, s3, s4, sb, sm, sk, ⟨⟩⟩ := s
    simp only at HI
    clear hL hB hby hky hbl1 hkl1 hcw hcell hcs hi
    have k1 : decide ((i : Int) < (st.length : Int)) = true := decide_eq_true (by omega)
    have k1n : decide (i < st.length) = true := decide_eq_true hlt
    have d4 := HI.out.2.2.2.2.2.2 4 (.slice BA sb.length bc) rfl
    have d6 := HI.out.2.2.2.2.2.2 6 (.slice KA sk.length kc) rfl
    by_cases hs : 860 < sb.length
    case pos =>
      have k2 : decide ((sb.length : Int) > 860) = true := decide_eq_true (by omega)
      clear hs
      go_wp2
      go_ret
      exact ⟨rfl, HI.out.2.1⟩
    by_cases hk : 200 < sk.length
    case pos =>
      have k2 : decide ((sb.length : Int) > 860) = false := decide_eq_false (by omega)
      have k3 : decide ((sk.length : Int) > 200) = true := decide_eq_true (by omega)
      clear hs hk
      go_wp2
      go_ret
      exact ⟨rfl, HI.out.2.1⟩
    have k2 : decide ((sb.length : Int) > 860) = false := decide_eq_false (by omega)
    have k3 : decide ((sk.length : Int) > 200) = false := decide_eq_false (by omega)
    have HK := Lib.hid (And.intro (show sb.length ≤ 860 by omega) (And.intro (show sk.length ≤ 200 by omega) hi40))
    clear hs hk
    have hrg : wr.rangeAt b (off + i * 7) (stpc s1 s2 s3 s4 BA sb.length bc sm KA sk.length kc).toList := fun j v hv => HI.out.2.2.2.2.2.2 j v (by rw [← Array.getElem?_toList]; exact hv)
    go_wp2_with (first
      | ((with_reducible show wpList _ _ _ ((⟨some 67, _, _, _, _, _⟩ : Oper) :: _) _ _); refine wpList_load_mid (o := ⟨some 67, _, _, _, _, _⟩) hrg (by rfl) _ _ (by rfl) (by rfl) _ Tryz.underlying73 (by rfl) sizeStep (by rfl) ?_)
      | fail)
    refine (lfStep_any HI.out.1 (fun W k => HT.out W (HI.out.2.1.trans k)) s1 s2 s3 s4 BA bc sb sm KA sk kc (i : Int) (HI.out.2.2.1.lowB HI.out.2.2.2.2.1 HI.out.2.1 (Nat.le_refl _)) HI.out.2.2.2.2.1 HK.out.1 (HI.out.2.2.2.1.lowR HI.out.2.2.2.2.2.1 HI.out.2.1) HI.out.2.2.2.2.2.1 HK.out.2.1 ⟨by omega, by omega⟩).mono ?_
    rintro e w4 ⟨goes, rfl, hB, hgo⟩
    have H4 := Lib.hid (And.intro (HI.out.2.1.trans hB) hgo)
    clear hB hgo k2 k3 d4 d6 hrg k1 k1n
    cases goes with
    | false =>
      go_wp2
      go_ret
      exact ⟨rfl, H4.out.1⟩
    | true =>
      obtain ⟨Y', gp', g', d', L', G', hL⟩ := H4.out.2 rfl
      have HL := Lib.hid hL
      clear hL
      go_wp2_with fail
      refine (lfReads_any HL.out).mono ?_
      rintro e w5 ⟨rfl, hB⟩
      have H5 := Lib.hid (And.intro (HL.out.below hB) (H4.out.1.trans (hB.mono H4.out.1.size)))
      clear hB
      have hlt' := Lib.hid hlt
      clear hlt
      go_wp2_with fail
      exact ⟨⟨i + 1, hlt'.out, rfl, ⟨Y', gp', g', d', L', G', H5.out.1⟩, H5.out.2⟩, meas_up rfl rfl hlt'.out⟩
end Go.Proofs.YtfoegmjpfkmggaaGreatDoor

/- GridKeeps: for every input the law returns true and the arguments read as they did. Condition: the table of Go's library is as its initialiser lays it (tied to the program's text by the card). -/
namespace Go.Proofs.YtfoegmjpfkmggaaGreatDoor
open Go.ChangeShapes Go.WideShapes Go.ChangeAt Go.RowKit
theorem gridKeeps_args (n : Int) (A : Option Addr) (c : Nat) (l : List StT) (rows : List (List Value)) (W : World) (hb : Both (fun (d : stepSh.T) r => r.length = stepSh.size ∧ Sh.Is W stepSh d r) l rows) (hr : Reads W A rows.flatten) (hl : l.length ≤ c) (hc : c ≤ 9223372036854775807) (hT : Tab W) :
    Calls Tryz.prog 4 #[.int .i64 n, .slice A l.length c] W fun e w' => e = .returned (.bool true) ∧ Below W.heap.size W w' :=
  lgridKeeps_any n A c l W hT (Steps.both hb hr) (Nat.le_trans hl hc)
set_option maxRecDepth 100000 in
theorem gridKeeps_lifted (os : Os) (started : os.Started) (H : Type) (enc : TypeId × Value → H) :
    ReturnsInHanded {} Tryz.checked os 4 .any (fun w args => (Rows.gridKeepsSpec.pre enc Tryz.prog Tryz.f4 [] false w args ∧ laidMetH Tryz.prog laid1 w) ∧ sizedMet enc Tryz.prog Tryz.f4 (OpenSpec.ofChange Rows.gridKeepsSpec) false w args) (Rows.gridKeepsSpec.post enc Tryz.prog Tryz.f4 false true false false) := by
  refine returnsInHanded_of_change_and (C := Tryz.checked) (X := fun w _ => laidMetH Tryz.prog laid1 w) (fun _ _ _ hh h => h.of_heap hh) Tryz.own started (by kernel_rfl) Tryz.func4
    (ChangeSpec.witness_shaped (enc := enc) (C := Tryz.checked) (os := os) (X := fun w _ => laidMetH Tryz.prog laid1 w) false (World.doorLaid Tryz.prog 400 os) #[.int .i64 0, .slice none 0 0] 8 rfl (World.shaped_of_RefB (by kernel_rfl) (by kernel_rfl)) (by kernel_rfl) (by kernel_rfl) (by kernel_rfl) (door_met os _)) ?_
  intro W base args ds gs before hval0 hW _ _ hL _
  have hT : Tab W := of_laid hL
  have hval : ∀ (j : Nat) t v, Tryz.f4.params[j]? = some t → args[j]? = some v → Value.okWide Tryz.prog W .any base t v := hval0
  have hW' := hW
  obtain ⟨p, q, hA0, hV, rfl, hfz, hnd⟩ := hW
  have hA : DataW.TrodAll enc Tryz.prog W 0 (fun _ => true) true Tryz.f4.params.toList args.toList ds p := hA0
  rw [Tryz.params4] at hA hval
  obtain ⟨v0, v1, d0, d1, p0, p1, rfl, rfl, rfl, h0, h1⟩ := trodAll_two hA
  obtain ⟨rfl, rfl⟩ := trodVars_none hV
  have h0k := h0
  have h1k := h1
  obtain ⟨n, hx0⟩ := Sh.open_ (P := Tryz.prog) (.int .i64) (by kernel_rfl) h0
  obtain ⟨rfl, hlo, hhi⟩ := arg_int Tryz.underlying3 (hval 0 3 v0 rfl rfl) hx0
  obtain ⟨l, hx1⟩ := Sh.open_ (P := Tryz.prog) (.slice stepSh) (by kernel_rfl) h1
  obtain ⟨A, c, rows1, rfl, hlc, hcm, hbo, hr⟩ := arg_slice Tryz.underlying64 (hval 1 64 v1 rfl rfl) hx1
  clear hA0 hval0
  simp only [List.append_nil] at hW'
  have hlt : ∀ x ∈ p0 ++ p1, x.block < W.heap.size := fun x hx => by simpa using hW'.lt x hx
  refine (gridKeeps_args n A c l _ W hbo hr hlc hcm hT).mono fun e W' ⟨he, hw⟩ => ?_
  subst he
  refine ⟨_, rfl, _, _, _, [], p0 ++ p1, [], hW', ?_, ?_, rfl, hw.frame _, fun h => by cases h⟩
  · exact trodAll_mk1 (shut_bool Tryz.underlying4 true)
  · exact trodAll_mk2 (Below.trod Tryz.laidOut (by kernel_rfl) (of_decide_eq_true (by kernel_rfl)) h0k hw (fun x hx => hlt x (by simp [hx]))) (Below.trod Tryz.laidOut (by kernel_rfl) (of_decide_eq_true (by kernel_rfl)) h1k hw (fun x hx => hlt x (by simp [hx])))
theorem gridKeeps_holds : Rows.GridKeepsSaid :=
  OpenClaim.holds_of_wide 4 Tryz.f4 rfl rfl rfl rfl rfl rfl rfl ⟨rfl, rfl, rfl, rfl, rfl⟩ rfl rfl rfl rfl rfl (by kernel_rfl) Tryz.func4 (by kernel_rfl)
    (of_decide_eq_true (by kernel_rfl)) (by unfold Func.isWrapper; rw [if_neg (by decide +kernel)]; exact ⟨rfl, rfl⟩)
    (fun os started H enc _ => gridKeeps_lifted os started H enc)
theorem gridKeeps_card : Rows.GridKeepsCardSaid :=
  Claim7.holds_tied_plain_at .later [] [.data] true Rows.gridKeepsCard.stood.harness false
    gridKeeps_holds (fun _ h => by cases h) (by kernel_rfl) (fun _ h => by cases h) gridKeeps_row_tie rfl ⟨rfl, rfl⟩ (by kernel_rfl) rfl
    (fun f fn hf hfn => by
      obtain rfl : f = 4 := Option.some.inj ((show Tryz.prog.funcNamed Rows.gridKeepsRow.func = some 4 by kernel_rfl).symm.trans hf) |>.symm
      obtain rfl : fn = Tryz.f4 := (Option.some.inj (Tryz.func4.symm.trans hfn)).symm
      exact ⟨by kernel_rfl, fun j t ht => by
        rw [Tryz.params4] at ht
        have hm : t ∈ [3, 64] := by simpa using Array.mem_of_getElem? ht
        have hall : ([3, 64].all fun u => !Tryz.prog.wantsStandIn u) = true := by kernel_rfl
        exact (show Tryz.prog.wantsStandIn t = false by simpa using List.all_eq_true.1 hall t hm)⟩)
    (by kernel_rfl)
end Go.Proofs.YtfoegmjpfkmggaaGreatDoor
