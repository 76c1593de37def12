/- The plain seal, reckoned with natural numbers, so that the kernel can reckon it of long bytes. Plain facts. No condition. -/
import Derived.Test.YtekdcjaljjlemaaMHeaderTurned8
namespace Go
namespace ShaN
/-- A number reckoned ahead of what uses it. -/
def force {α : Type} (n : Nat) (f : Nat → α) : α := match n with
  | 0 => f 0
  | k + 1 => f (k + 1)
theorem force_eq {α : Type} (n : Nat) (f : Nat → α) : force n f = f n := by cases n <;> rfl
def rot (x n : Nat) : Nat := Nat.lor (Nat.shiftRight x n) (Nat.mod (Nat.shiftLeft x (32 - n)) 4294967296)
def sg0 (x : Nat) : Nat := Nat.xor (Nat.xor (rot x 7) (rot x 18)) (Nat.shiftRight x 3)
def sg1 (x : Nat) : Nat := Nat.xor (Nat.xor (rot x 17) (rot x 19)) (Nat.shiftRight x 10)
def tt1 (k w e f g h : Nat) : Nat := Nat.mod (h + Nat.xor (Nat.xor (rot e 6) (rot e 11)) (rot e 25) + Nat.xor (Nat.land e f) (Nat.land (4294967295 - e) g) + k + w) 4294967296
def tt2 (a b c : Nat) : Nat := Nat.xor (Nat.xor (rot a 2) (rot a 13)) (rot a 22) + Nat.xor (Nat.xor (Nat.land a b) (Nat.land a c)) (Nat.land b c)
def nextN (w0 w1 w9 w14 : Nat) : Nat := Nat.mod (sg1 w14 + w9 + sg0 w1 + w0) 4294967296
/-- Some rounds; 16 words ahead are known. -/
def go : List Nat → List Nat → Nat → Nat → Nat → Nat → Nat → Nat → Nat → Nat → List Nat
  | [], _, a, b, c, d, e, f, g, h => [a, b, c, d, e, f, g, h]
  | k :: ks, ws, a, b, c, d, e, f, g, h =>
    force (ws.getD 0 0) fun w0 =>
    force (tt1 k w0 e f g h) fun t1 =>
    force (Nat.mod (t1 + tt2 a b c) 4294967296) fun a' =>
    force (Nat.mod (d + t1) 4294967296) fun e' =>
    force (nextN w0 (ws.getD 1 0) (ws.getD 9 0) (ws.getD 14 0)) fun wn =>
    go ks (ws.drop 1 ++ [wn]) a' a b c e' e f g
def toL (s : Sha.St) : List Nat := [s.a.toNat, s.b.toNat, s.c.toNat, s.d.toNat, s.e.toNat, s.f.toNat, s.g.toNat, s.h.toNat]
theorem rot_eq (x : UInt32) (n : Nat) (h0 : 0 < n) (h : n < 32) : rot x.toNat n = (Sha.rotr x n).toNat := by
  unfold rot Sha.rotr
  rw [UInt32.toNat_or, u32_shr_nat x n h, u32_shl_nat x (32 - n) (by omega)]
  show Nat.lor (x.toNat >>> n) ((x.toNat <<< (32 - n)) % 4294967296) = _
  rw [Nat.shiftRight_eq_div_pow, Nat.shiftLeft_eq]; rfl
theorem sg0_eq (x : UInt32) : sg0 x.toNat = (Sha.s0 x).toNat := by
  unfold sg0 Sha.s0
  rw [UInt32.toNat_xor, UInt32.toNat_xor, rot_eq x 7 (by omega) (by omega), rot_eq x 18 (by omega) (by omega)]
  have := u32_shr_nat x 3 (by omega)
  rw [show (x >>> (3 : UInt32)) = x >>> UInt32.ofNat 3 from rfl, this]
  show Nat.xor _ (x.toNat >>> 3) = _
  rw [Nat.shiftRight_eq_div_pow]; rfl
theorem sg1_eq (x : UInt32) : sg1 x.toNat = (Sha.s1 x).toNat := by
  unfold sg1 Sha.s1
  rw [UInt32.toNat_xor, UInt32.toNat_xor, rot_eq x 17 (by omega) (by omega), rot_eq x 19 (by omega) (by omega)]
  have := u32_shr_nat x 10 (by omega)
  rw [show (x >>> (10 : UInt32)) = x >>> UInt32.ofNat 10 from rfl, this]
  show Nat.xor _ (x.toNat >>> 10) = _
  rw [Nat.shiftRight_eq_div_pow]; rfl
theorem not_eq (x : UInt32) : 4294967295 - x.toNat = (~~~x).toNat := by
  rw [UInt32.toNat_not]; simp [UInt32.size]
theorem tt1_eq (k w : UInt32) (s : Sha.St) : tt1 k.toNat w.toNat s.e.toNat s.f.toNat s.g.toNat s.h.toNat = (Sha.t1 k w s).toNat := by
  unfold tt1 Sha.t1
  rw [not_eq, rot_eq s.e 6 (by omega) (by omega), rot_eq s.e 11 (by omega) (by omega), rot_eq s.e 25 (by omega) (by omega)]
  simp only [UInt32.toNat_add, UInt32.toNat_xor, UInt32.toNat_and]
  show (_ + (_ ^^^ _ ^^^ _) + ((_ &&& _) ^^^ (_ &&& _)) + _ + _) % 4294967296 = _
  omega
theorem tt2_eq (s : Sha.St) : tt2 s.a.toNat s.b.toNat s.c.toNat % 4294967296 = (Sha.t2 s).toNat := by
  unfold tt2 Sha.t2
  rw [rot_eq s.a 2 (by omega) (by omega), rot_eq s.a 13 (by omega) (by omega), rot_eq s.a 22 (by omega) (by omega)]
  simp only [UInt32.toNat_add, UInt32.toNat_xor, UInt32.toNat_and]
  rfl
theorem next_eq (w0 w1 w9 w14 : UInt32) : nextN w0.toNat w1.toNat w9.toNat w14.toNat = (Sha.s1 w14 + w9 + Sha.s0 w1 + w0).toNat := by
  unfold nextN
  rw [sg1_eq, sg0_eq]
  simp only [UInt32.toNat_add]
  show (_ + _ + _ + _) % 4294967296 = _
  omega
/-- Rounds from t on. -/
theorem go_eq (m : Nat → UInt32) (s : Sha.St) : ∀ (n t : Nat), t + n = 64 →
    go ((Sha.kl.drop t).map (·.toNat)) ((List.range 16).map fun i => (Sha.wd m (t + i)).toNat) (Sha.rounds m s t).a.toNat (Sha.rounds m s t).b.toNat (Sha.rounds m s t).c.toNat (Sha.rounds m s t).d.toNat (Sha.rounds m s t).e.toNat (Sha.rounds m s t).f.toNat (Sha.rounds m s t).g.toNat (Sha.rounds m s t).h.toNat
      = toL (Sha.rounds m s 64)
  | 0, t, h => by
    obtain rfl : t = 64 := by omega
    have : Sha.kl.drop 64 = [] := rfl
    rw [this]; rfl
  | n + 1, t, h => by
    have hk : Sha.kl.drop t = Sha.kt t :: Sha.kl.drop (t + 1) := by
      have hl : t < Sha.kl.length := by show t < 64; omega
      rw [List.drop_eq_getElem_cons hl]
      congr 1
      unfold Sha.kt
      simp [List.getD, hl]
    rw [hk, List.map_cons]
    unfold go
    simp only [force_eq]
    have e0 : ((List.range 16).map fun i => (Sha.wd m (t + i)).toNat).getD 0 0 = (Sha.wd m t).toNat := rfl
    have e1 : ((List.range 16).map fun i => (Sha.wd m (t + i)).toNat).getD 1 0 = (Sha.wd m (t + 1)).toNat := rfl
    have e9 : ((List.range 16).map fun i => (Sha.wd m (t + i)).toNat).getD 9 0 = (Sha.wd m (t + 9)).toNat := rfl
    have e14 : ((List.range 16).map fun i => (Sha.wd m (t + i)).toNat).getD 14 0 = (Sha.wd m (t + 14)).toNat := rfl
    rw [e0, e1, e9, e14, tt1_eq, next_eq]
    have hw : (Sha.s1 (Sha.wd m (t + 14)) + Sha.wd m (t + 9) + Sha.s0 (Sha.wd m (t + 1)) + Sha.wd m t) = Sha.wd m (t + 16) := by
      rw [Sha.wd_hi m (show 16 ≤ t + 16 by omega)]
      rw [show t + 16 - 2 = t + 14 by omega, show t + 16 - 7 = t + 9 by omega, show t + 16 - 15 = t + 1 by omega, show t + 16 - 16 = t by omega]
    rw [hw]
    have hwin : ((List.range 16).map fun i => (Sha.wd m (t + i)).toNat).drop 1 ++ [(Sha.wd m (t + 16)).toNat] = (List.range 16).map fun i => (Sha.wd m (t + 1 + i)).toNat := by
      have : ∀ i, Sha.wd m (t + 1 + i) = Sha.wd m (t + (1 + i)) := fun i => by rw [Nat.add_assoc]
      simp only [this]
      rfl
    rw [hwin]
    have hr : Sha.rounds m s (t + 1) = Sha.round (Sha.kt t) (Sha.wd m t) (Sha.rounds m s t) := rfl
    have ha : ((Sha.t1 (Sha.kt t) (Sha.wd m t) (Sha.rounds m s t)).toNat + tt2 (Sha.rounds m s t).a.toNat (Sha.rounds m s t).b.toNat (Sha.rounds m s t).c.toNat).mod 4294967296 = (Sha.rounds m s (t + 1)).a.toNat := by
      rw [hr]
      show (_ + _) % 4294967296 = (Sha.t1 _ _ _ + Sha.t2 _).toNat
      rw [UInt32.toNat_add, ← tt2_eq]
      omega
    have he : ((Sha.rounds m s t).d.toNat + (Sha.t1 (Sha.kt t) (Sha.wd m t) (Sha.rounds m s t)).toNat).mod 4294967296 = (Sha.rounds m s (t + 1)).e.toNat := by
      rw [hr]
      show (_ + _) % 4294967296 = ((Sha.rounds m s t).d + Sha.t1 _ _ _).toNat
      rw [UInt32.toNat_add]
    rw [ha, he]
    have := go_eq m s n (t + 1) (by omega)
    rw [← this]
    rfl
def beN (a b c d : Nat) : Nat := Nat.lor (Nat.lor (Nat.lor (Nat.mod (Nat.shiftLeft a 24) 4294967296) (Nat.mod (Nat.shiftLeft b 16) 4294967296)) (Nat.mod (Nat.shiftLeft c 8) 4294967296)) d
theorem beN_eq (a b c d : UInt8) : beN a.toNat b.toNat c.toNat d.toNat = (Sha.be a b c d).toNat := by
  unfold beN Sha.be
  have e : ∀ (x : UInt8) (n : Nat), n < 32 → (Nat.shiftLeft x.toNat n).mod 4294967296 = (x.toUInt32 <<< UInt32.ofNat n).toNat := fun x n h => by
    rw [u32_shl_nat _ n h, UInt8.toNat_toUInt32]
    show (x.toNat <<< n) % _ = _
    rw [Nat.shiftLeft_eq]
  rw [UInt32.toNat_or, UInt32.toNat_or, UInt32.toNat_or, UInt8.toNat_toUInt32, e a 24 (by omega), e b 16 (by omega), e c 8 (by omega)]
  rfl
def w4 : List Nat → List Nat
  | a :: b :: c :: d :: r => force (beN a b c d) fun w => w :: w4 r
  | _ => []
theorem w4_eq (l : List UInt8) : ∀ (n at_ : Nat), at_ + 4 * n ≤ l.length → w4 (((l.drop at_).take (4 * n)).map (·.toNat)) = (List.range n).map fun t => (Sha.word l at_ t).toNat
  | 0, at_, _ => by simp [w4]
  | n + 1, at_, h => by
    have e4 : (l.drop at_).take (4 * (n + 1)) = l.getD at_ 0 :: l.getD (at_ + 1) 0 :: l.getD (at_ + 2) 0 :: l.getD (at_ + 3) 0 :: (l.drop (at_ + 4)).take (4 * n) := by
      have hg : ∀ i, i < l.length → l.drop i = l.getD i 0 :: l.drop (i + 1) := fun i hi => by
        rw [List.drop_eq_getElem_cons hi]; congr 1; simp [List.getD, hi]
      rw [hg at_ (by omega), hg (at_ + 1) (by omega), hg (at_ + 1 + 1) (by omega), hg (at_ + 1 + 1 + 1) (by omega)]
      rw [show 4 * (n + 1) = 4 * n + 1 + 1 + 1 + 1 by omega]
      simp only [List.take_succ_cons]
    rw [e4]
    simp only [List.map_cons, w4, force_eq]
    rw [w4_eq l n (at_ + 4) (by omega), beN_eq, List.range_succ_eq_map, List.map_cons, List.map_map]
    have hw0 : Sha.word l at_ 0 = Sha.be (l.getD at_ 0) (l.getD (at_ + 1) 0) (l.getD (at_ + 2) 0) (l.getD (at_ + 3) 0) := rfl
    rw [hw0]
    refine congrArg (List.cons _) ?_
    apply List.map_congr_left
    intro t _
    simp only [Function.comp, Sha.word]
    rw [show at_ + 4 + 4 * t = at_ + 4 * (t + 1) by omega]
def kN : List Nat := [
  0x428a2f98, 0x71374491, 0xb5c0fbcf, 0xe9b5dba5, 0x3956c25b, 0x59f111f1, 0x923f82a4, 0xab1c5ed5,
  0xd807aa98, 0x12835b01, 0x243185be, 0x550c7dc3, 0x72be5d74, 0x80deb1fe, 0x9bdc06a7, 0xc19bf174,
  0xe49b69c1, 0xefbe4786, 0x0fc19dc6, 0x240ca1cc, 0x2de92c6f, 0x4a7484aa, 0x5cb0a9dc, 0x76f988da,
  0x983e5152, 0xa831c66d, 0xb00327c8, 0xbf597fc7, 0xc6e00bf3, 0xd5a79147, 0x06ca6351, 0x14292967,
  0x27b70a85, 0x2e1b2138, 0x4d2c6dfc, 0x53380d13, 0x650a7354, 0x766a0abb, 0x81c2c92e, 0x92722c85,
  0xa2bfe8a1, 0xa81a664b, 0xc24b8b70, 0xc76c51a3, 0xd192e819, 0xd6990624, 0xf40e3585, 0x106aa070,
  0x19a4c116, 0x1e376c08, 0x2748774c, 0x34b0bcb5, 0x391c0cb3, 0x4ed8aa4a, 0x5b9cca4f, 0x682e6ff3,
  0x748f82ee, 0x78a5636f, 0x84c87814, 0x8cc70208, 0x90befffa, 0xa4506ceb, 0xbef9a3f7, 0xc67178f2]
theorem kN_eq : Sha.kl.map (·.toNat) = kN := by decide +kernel
/-- Numbers reckoned ahead of what uses them. -/
def forceL {α : Type} : List Nat → (List Nat → α) → α
  | [], f => f []
  | n :: l, f => force n fun m => forceL l fun r => f (m :: r)
theorem forceL_eq {α : Type} : ∀ (l : List Nat) (f : List Nat → α), forceL l f = f l
  | [], _ => rfl
  | n :: l, f => by simp only [forceL, force_eq, forceL_eq l]
def addL : List Nat → List Nat → List Nat
  | a :: l, b :: m => Nat.mod (a + b) 4294967296 :: addL l m
  | _, _ => []
def blkN (s : List Nat) (bytes : List Nat) : List Nat := match s with
  | [a, b, c, d, e, f, g, h] => addL s (go kN (w4 bytes) a b c d e f g h)
  | _ => []
theorem blkN_eq (s : Sha.St) (l : List UInt8) (at_ : Nat) (h : at_ + 64 ≤ l.length) : blkN (toL s) (((l.drop at_).take 64).map (·.toNat)) = toL (Sha.blk s l at_) := by
  have hw := w4_eq l 16 at_ h
  unfold blkN toL
  simp only []
  rw [show (64 : Nat) = 4 * 16 from rfl, hw]
  have hwd : ((List.range 16).map fun t => (Sha.word l at_ t).toNat) = (List.range 16).map fun i => (Sha.wd (Sha.word l at_) (0 + i)).toNat := by
    apply List.map_congr_left
    intro t ht
    rw [Nat.zero_add, Sha.wd_lo _ (List.mem_range.1 ht)]
  have := go_eq (Sha.word l at_) s 64 0 rfl
  rw [← hwd, List.drop_zero, kN_eq] at this
  have e0 : Sha.rounds (Sha.word l at_) s 0 = s := rfl
  rw [e0] at this
  rw [this]
  unfold Sha.blk Sha.add toL
  simp only [addL, UInt32.toNat_add]
  rfl
def blksN : Nat → List Nat → List Nat → List Nat
  | 0, _, s => s
  | n + 1, l, s => forceL (blkN s (l.take 64)) fun s' => blksN n (l.drop 64) s'
theorem blksN_eq (l : List UInt8) (s : Sha.St) : ∀ (n k : Nat), 64 * (k + n) ≤ l.length → blksN n ((l.drop (64 * k)).map (·.toNat)) (toL (Sha.blks l s k)) = toL (Sha.blks l s (k + n))
  | 0, k, _ => rfl
  | n + 1, k, h => by
    simp only [blksN, forceL_eq]
    rw [← List.map_take, blkN_eq _ _ _ (by omega), ← List.map_drop, List.drop_drop]
    have : toL (Sha.blk (Sha.blks l s k) l (64 * k)) = toL (Sha.blks l s (k + 1)) := rfl
    rw [this, show 64 * k + 64 = 64 * (k + 1) by omega, blksN_eq l s n (k + 1) (by omega)]
    congr 2; omega
def outN (s : List Nat) : List Nat := (List.range 16).map fun k => Nat.mod (Nat.div (s.getD (k / 4) 0) (2 ^ (24 - 8 * (k % 4)))) 256
def initN : List Nat := [0x6a09e667, 0xbb67ae85, 0x3c6ef372, 0xa54ff53a, 0x510e527f, 0x9b05688c, 0x1f83d9ab, 0x5be0cd19]
/-- The seal of bytes. -/
def sumN (l : List Nat) (tl : List Nat) (n : Nat) : List Nat := outN (blksN n (l ++ tl) initN)
theorem sumN_eq (l : List UInt8) (n : Nat) (hn : n = (l.length + Sha.zeros l.length + 9) / 64) : (Sha.sum l).map (·.toNat) = sumN (l.map (·.toNat)) ((Sha.tail l.length).map (·.toNat)) n := by
  unfold sumN Sha.sum
  have hlen : (Sha.pad l).length / 64 = n := by rw [Sha.pad_length, hn]
  rw [hlen]
  have h1 := blksN_eq (Sha.pad l) Sha.init n 0 (by rw [Sha.pad_length]; have := Sha.pad_mod l; rw [Sha.pad_length] at this; omega)
  rw [Nat.mul_zero, List.drop_zero, Nat.zero_add] at h1
  have h0 : toL (Sha.blks (Sha.pad l) Sha.init 0) = initN := by
    show toL Sha.init = initN
    decide +kernel
  rw [h0] at h1
  have hp : (Sha.pad l).map (·.toNat) = l.map (·.toNat) ++ (Sha.tail l.length).map (·.toNat) := by unfold Sha.pad; rw [List.map_append]
  rw [← hp, h1]
  unfold Sha.out outN
  rw [List.map_map]
  apply List.map_congr_left
  intro k hk
  have hk16 := List.mem_range.1 hk
  simp only [Function.comp, Sha.outAt, Sha.byte]
  have hg : (toL (Sha.blks (Sha.pad l) Sha.init n)).getD (k / 4) 0 = (Sha.get (Sha.blks (Sha.pad l) Sha.init n) (k / 4)).toNat := by
    have : k / 4 = 0 ∨ k / 4 = 1 ∨ k / 4 = 2 ∨ k / 4 = 3 := by omega
    rcases this with h | h | h | h <;> rw [h] <;> rfl
  rw [hg]
  exact UInt8.toNat_ofNat_of_lt' (by have := Nat.mod_lt ((Sha.get (Sha.blks (Sha.pad l) Sha.init n) (k / 4)).toNat / 2 ^ (24 - 8 * (k % 4))) (show 0 < 256 by omega); simpa [UInt8.size] using this)
theorem toNat_inj : ∀ {l m : List UInt8}, l.map (·.toNat) = m.map (·.toNat) → l = m
  | [], [], _ => rfl
  | [], _ :: _, h => by cases h
  | _ :: _, [], h => by cases h
  | a :: l, b :: m, h => by
    simp only [List.map_cons, List.cons.injEq] at h
    rw [UInt8.toNat_inj.1 h.1, toNat_inj h.2]
end ShaN
end Go

/- The chapter's message: its bytes, told by reckoning; what is written is read. No condition. -/
namespace Go.Proofs.Ytekdcjaljjlemaa
theorem Msg.read_bytes (f : HdF) (body : List UInt8) (hok : Hd.ok f = true) (hin : Hd.in_ f) (h2 : f 2 = (body.length : Int)) :
    Hd.same (Hd.parse ((Hd.bytes f body).take 256)) f ∧ Msg.read (Hd.bytes f body) = (0, Hd.parse ((Hd.bytes f body).take 256), body) := by
  have hs : (Sha.sum body).length = 16 := Sha.sum_len body
  have hl := Hd.head_length f _ hs
  have e1 : (Hd.bytes f body).take 256 = Hd.head f (Sha.sum body) := by unfold Hd.bytes; rw [← hl, List.take_left]
  have e2 : (Hd.bytes f body).drop 256 = body := by unfold Hd.bytes; rw [← hl, List.drop_left]
  obtain ⟨h0, hsame⟩ := Hd.read_head f _ hs hok hin
  have hp : (Hd.read (Hd.head f (Sha.sum body))).2 = Hd.parse (Hd.head f (Sha.sum body)) := by
    rcases Hd.read_cases (Hd.head f (Sha.sum body)) with (h | h) | ⟨h, -⟩
    · rw [h] at h0; simp at h0
    · rw [h] at h0; simp at h0
    · rw [h]
  rw [hp] at hsame
  have e3 : ((Hd.bytes f body).drop 16).take 16 = Sha.sum body := by
    unfold Hd.bytes Hd.head Hd.rest
    simp only [List.append_assoc]
    rw [← Sha.sum_len (Hd.rest f (Sha.sum body)), show Sha.sum (Hd.rest f (Sha.sum body)) = Sha.sum (Sha.sum body ++ (Hd.mid f ++ List.replicate 148 0)) from rfl, List.drop_left, Sha.sum_len, ← hs, List.take_left]
  have hlen : (Hd.bytes f body).length = 256 + body.length := by unfold Hd.bytes; rw [List.length_append, hl]
  rw [e1]
  refine ⟨hsame, ?_⟩
  unfold Msg.read
  rw [if_neg (by omega), e1, if_neg (by rw [h0]; simp), if_neg (by rw [hsame 2 (by omega), h2, hlen, Nat.add_sub_cancel_left]; simp), e2, e3, if_neg (by simp)]
/-- What is opened is a message that is sealed as the same bytes. -/
theorem Msg.read_ok (r : List UInt8) (h : (Msg.read r).1 = 0) : 256 ≤ r.length ∧ Msg.read r = (0, Hd.parse (r.take 256), r.drop 256) ∧ Hd.ok (Hd.parse (r.take 256)) = true ∧ Hd.parse (r.take 256) 2 = ((r.drop 256).length : Int) ∧
    Hd.bytes (Hd.parse (r.take 256)) (r.drop 256) = r ∧ Sha.sum (r.drop 256) = (r.drop 16).take 16 ∧ Sha.sum ((r.take 256).drop 16) = r.take 16 := by
  unfold Msg.read at h ⊢
  by_cases h1 : r.length < 256
  · rw [if_pos h1] at h; simp at h
  rw [if_neg h1] at h ⊢
  by_cases h2 : (Hd.read (r.take 256)).1 ≠ 0
  · rw [if_pos h2] at h; exact absurd h h2
  rw [if_neg h2] at h ⊢
  by_cases h3 : ((r.length - 256 : Nat) : Int) ≠ Hd.parse (r.take 256) 2
  · rw [if_pos h3] at h; simp at h
  rw [if_neg h3] at h ⊢
  by_cases h4 : Sha.sum (r.drop 256) ≠ (r.drop 16).take 16
  · rw [if_pos h4] at h; simp at h
  rw [if_neg h4]
  have h4' : Sha.sum (r.drop 256) = (r.drop 16).take 16 := by simpa using h4
  have h3' : ((r.length - 256 : Nat) : Int) = Hd.parse (r.take 256) 2 := by simpa using h3
  rcases Hd.read_cases (r.take 256) with (hx | hx) | ⟨hx, hl, hok, hh⟩
  · rw [hx] at h2; simp at h2
  · rw [hx] at h2; simp at h2
  have e : ((r.take 256).drop 16).take 16 = (r.drop 16).take 16 := by rw [List.drop_take, List.take_take]; simp
  rw [e, ← h4'] at hh
  refine ⟨by omega, rfl, hok, by rw [← h3', List.length_drop], ?_, h4', ?_⟩
  · unfold Hd.bytes; rw [hh, List.take_append_drop]
  · have hx2 : Sha.sum ((r.take 256).drop 16) = (r.take 256).take 16 := by
      by_cases hc : Sha.sum ((r.take 256).drop 16) = (r.take 256).take 16
      · exact hc
      · exfalso
        unfold Hd.read at hx
        rw [if_neg (by rw [hl]; simp), if_pos hc] at hx
        simp at hx
    rw [hx2, List.take_take]; simp
theorem Hd.bytes_length (f : HdF) (body : List UInt8) : (Hd.bytes f body).length = 256 + body.length := by
  unfold Hd.bytes; rw [List.length_append, Hd.head_length f _ (Sha.sum_len body)]
/-! ### The chapter's message -/
def f12 : HdF := fun i => if i = 0 then 1 else if i = 2 then 2 else 0
theorem f12_ok : Hd.ok f12 = true := by decide +kernel
theorem f12_in : Hd.in_ f12 := by unfold Hd.in_ f12; simp
def abBody : List UInt8 := [251, 142, 32, 252, 46, 76, 63, 36, 140, 96, 195, 155, 214, 82, 243, 193]
def abBad : List UInt8 := [244, 93, 229, 28, 222, 243, 9, 145, 85, 30, 65, 232, 130, 221, 123, 84]
def abSum : List UInt8 := [239, 72, 228, 67, 220, 117, 142, 217, 251, 195, 137, 43, 36, 39, 208, 157]
def abSumBad : List UInt8 := [159, 131, 193, 119, 245, 195, 59, 57, 198, 254, 1, 123, 239, 203, 54, 175]
def abRest : List UInt8 := Hd.rest f12 abBody
theorem abBody_eq : Sha.sum [97, 98] = abBody := by
  refine ShaN.toNat_inj ?_
  rw [ShaN.sumN_eq [97, 98] 1 (by decide +kernel)]
  decide +kernel
theorem abBad_eq : Sha.sum [97, 99] = abBad := by
  refine ShaN.toNat_inj ?_
  rw [ShaN.sumN_eq [97, 99] 1 (by decide +kernel)]
  decide +kernel
theorem abRest_length : abRest.length = 240 := by decide +kernel
theorem abSum_eq : Sha.sum abRest = abSum := by
  refine ShaN.toNat_inj ?_
  rw [ShaN.sumN_eq abRest 4 (by decide +kernel), abRest_length]
  decide +kernel
theorem abSumBad_eq : Sha.sum (abRest.set 34 1) = abSumBad := by
  refine ShaN.toNat_inj ?_
  have hl : (abRest.set 34 1).length = 240 := by rw [List.length_set, abRest_length]
  rw [ShaN.sumN_eq (abRest.set 34 1) 4 (by rw [hl]; decide +kernel), hl]
  decide +kernel
def abBytes : List UInt8 := Hd.bytes f12 [97, 98]
theorem abBytes_eq : abBytes = (abSum ++ abRest) ++ [97, 98] := by
  unfold abBytes Hd.bytes Hd.head
  rw [abBody_eq, show Hd.rest f12 abBody = abRest from rfl, abSum_eq]
theorem abBytes_length : abBytes.length = 258 := Hd.bytes_length _ _
theorem ab_at : abBytes[32]? = some 1 ∧ abBytes[40]? = some 2 ∧ abBytes[50]? = some 0 ∧ abBytes[257]? = some 98 := by rw [abBytes_eq]; decide +kernel
theorem ab_read : Hd.same (Hd.parse (abBytes.take 256)) f12 ∧ Msg.read abBytes = (0, Hd.parse (abBytes.take 256), [97, 98]) := Msg.read_bytes f12 [97, 98] f12_ok f12_in rfl
theorem ab_head : Hd.read (abBytes.take 256) = (0, Hd.parse (abBytes.take 256)) := by
  have h := ab_read.2
  unfold Msg.read at h
  rw [if_neg (by rw [abBytes_length]; omega)] at h
  rcases Hd.read_cases (abBytes.take 256) with (hx | hx) | ⟨hx, -⟩
  · rw [if_pos (by rw [hx]; simp), hx] at h; simp at h
  · rw [if_pos (by rw [hx]; simp), hx] at h; simp at h
  · exact hx
theorem ab_255 : Hd.read (abBytes.take 255) = (4, Hd.none_) := by
  unfold Hd.read; rw [if_pos (by rw [List.length_take, abBytes_length]; decide)]
theorem ab_257 : Msg.read (abBytes.take 257) = (4, Hd.none_, []) := by
  have hl : (abBytes.take 257).length = 257 := by rw [List.length_take, abBytes_length]; rfl
  have ht : (abBytes.take 257).take 256 = abBytes.take 256 := by rw [List.take_take]; simp
  unfold Msg.read
  rw [if_neg (by omega), ht, if_neg (by rw [ab_head]; simp), if_pos (by rw [hl, ab_read.1 2 (by omega)]; decide)]
theorem ab_turned257 : Msg.read (abBytes.set 257 99) = (12, Hd.none_, []) := by
  have hl : (abBytes.set 257 99).length = 258 := by rw [List.length_set, abBytes_length]
  have ht : (abBytes.set 257 99).take 256 = abBytes.take 256 := by rw [List.take_set_of_le (by omega)]
  have hd : (abBytes.set 257 99).drop 256 = [97, 99] := by rw [abBytes_eq]; decide +kernel
  have h16 : ((abBytes.set 257 99).drop 16).take 16 = abBody := by rw [abBytes_eq]; decide +kernel
  unfold Msg.read
  rw [if_neg (by omega), ht, if_neg (by rw [ab_head]; simp), if_neg (by rw [hl, ab_read.1 2 (by omega)]; decide), hd, h16, abBad_eq, if_pos (by decide)]
theorem ab_turned50 : Msg.read (abBytes.set 50 1) = (12, Hd.none_, []) := by
  have hl : (abBytes.set 50 1).length = 258 := by rw [List.length_set, abBytes_length]
  have ht : (abBytes.set 50 1).take 256 = abSum ++ abRest.set 34 1 := by rw [abBytes_eq]; decide +kernel
  have hh : Hd.read (abSum ++ abRest.set 34 1) = (12, Hd.none_) := by
    have h1 : (abSum ++ abRest.set 34 1).drop 16 = abRest.set 34 1 := rfl
    have h2 : (abSum ++ abRest.set 34 1).take 16 = abSum := rfl
    unfold Hd.read
    rw [if_neg (by rw [List.length_append, List.length_set, abRest_length]; decide), h1, h2, abSumBad_eq, if_pos (by decide)]
  unfold Msg.read
  rw [if_neg (by omega), ht, hh, if_pos (by decide)]
end Go.Proofs.Ytekdcjaljjlemaa

/- Bytes copied. Condition: the list can be read. -/
namespace Go
open Go.RowKit
namespace Proofs.Ytekdcjaljjlemaa
theorem copyBytes_any (A : Option Addr) (n c : Nat) (l : List UInt8) (hn : n = l.length) (hl : l.length ≤ 140737488351300) (w : World) (h : Bytes w A l) :
    Calls Try.prog 21 #[.slice A n c] w fun e w' => ∃ v sp, e = .returned v ∧ OwnB 5 w' w.heap.size v l sp ∧ Below w.heap.size w w' := by
  subst hn
  have hb1 : Bytes (w.alloc (.cells #[] 5)) A l := h.below ((Below.refl _ _).alloc (Nat.le_refl _) _)
  have ho0 : OwnB 5 (w.alloc (.cells #[] 5)) w.heap.size (.slice (some ⟨w.heap.size, 0, none⟩) 0 0) [] [] := by
    have := OwnsC.lit (e := 5) (size := 1) (base := w.heap.size) w #[] 0 (by simp) (by simp) (by simp)
    unfold OwnB; simpa using this
  go_enter Try.func21, Try.ntmps21
  go_wp2_with (show wpList _ _ _ ((⟨some 5, _, _, _, _, _⟩ : Oper) :: _) _ _; refine wpList_append_bytes (o := ⟨some 5, _, _, _, _, _⟩) (by rfl) _ _ _ (by rfl) w.heap.size _ Try.underlying27 u8info (.slice (some ⟨w.heap.size, 0, none⟩) 0 0) [] [] (by rfl) ho0 A c l (by rfl) hb1 (by simp; omega) (by simp) ?_; intro v1 w1 sp1 ho1 hg1 _ _; have hbz := ((Below.refl w.heap.size w).alloc (Nat.le_refl _) (.cells #[] 5)).grown hg1 (by simp) (fun k hk => by have := (OwnsC.lt ho0 k hk).1; omega); clear hb1 ho0 hg1)
  go_ret
  exact ⟨_, sp1, rfl, by simpa using ho1, hbz⟩
end Proofs.Ytekdcjaljjlemaa
end Go

/- The chapter's message, and bytes with one of them turned, as the law's helpers tell them. No condition. -/
namespace Go
theorem results_row_tmps {P : Program} {fn : Func} {p q r : Tmp} {ty : TypeId} (h : fn.results = #[.cell p ty, .tmp q, .tmp r]) (tmps : Array Value) (w : World) (g : Nat) (t : TypeId) (cs : Array Value) (d : TypeDesc)
    (hp : tmps.getD p undef = .pointer (some ⟨g, 0, none⟩)) (hg : Blk w g t cs)
    (hu : P.underlying ty = some d) (hd : (match d with | .struct _ | .array _ _ => true | _ => false) = true) (hi : (P.info? ty).map (·.size) = some cs.size) :
    (results fn tmps).run P w = .ok (.tuple #[.agg cs, tmps.getD q undef, tmps.getD r undef]) w := by
  have hp' : tmps[p]?.getD undef = .pointer (some ⟨g, 0, none⟩) := by simpa using hp
  simp [results, h, hp', asAddr, run_loadVar_row w g t ty cs (0, 0) d hg hu hd hi]
end Go
namespace Go
open Go.RowKit
/-- The run-time's mark behind a constant's bytes, at a block whose number is spelt otherwise. -/
theorem const_bytes {P : Program} (w : World) (t e : TypeId) (C : Array Value) (n c g : Nat) (hg : g = w.heap.size) (ht : P.underlying t = some (.slice e)) (he : P.underlying e = some (.int .u8)) :
    (Sem.run P (convert t t (.slice (some ⟨g, 0, none⟩) n c)) (w.alloc (.cells C e))) = .ok (.slice (some ⟨g, 0, none⟩) n c) (w.alloc (.cells C e (C.size, C.size + 1))) := by
  rw [hg]; exact Lib.run_convert_bytes_const w t e C n c ht he
theorem const_reads (w : World) (e : TypeId) (l : List UInt8) (m : Nat × Nat) : Bytes (w.alloc (.cells (l.map u8v).toArray e m)) (some ⟨w.heap.size, 0, none⟩) l := fun _ => ⟨w.heap.size, 0, rfl, fun j v hv => by
  have hh : (w.alloc (.cells (l.map u8v).toArray e m)).heap[w.heap.size]? = some (.cells (l.map u8v).toArray e m) := heap_alloc_last w _
  rw [Nat.zero_add, cell_of_row _ _ _ _ _ _ hh]
  simpa using hv⟩
end Go
namespace Go.Proofs.Ytekdcjaljjlemaa
open Go.RowKit
def f1 : HdF := fun i => if i = 0 then 1 else 0
theorem f1_f12 : setF f1 2 2 = f12 := by
  funext i
  unfold setF f1 f12
  by_cases h : i = 2
  · rw [if_pos h, if_neg (by omega), if_pos h]
  · rw [if_neg h]; by_cases h0 : i = 0
    · rw [if_pos h0, if_pos h0]
    · rw [if_neg h0, if_neg h0, if_neg h]
theorem f1_bytes : Hd.bytes (setF f1 2 ([97, 98] : List UInt8).length) [97, 98] = abBytes := by unfold abBytes; rw [show (([97, 98] : List UInt8).length : Int) = 2 from rfl, f1_f12]
theorem msgc_at2 (f : HdF) (v : Value) : (msgc f v)[2]? = some (.int .i64 (f 2)) := by rw [msgc_hd f v 2 (by omega)]; exact hdc_at f 2 (by omega) (by omega) (by omega) (by omega)
theorem f1_in : Hd.in_ f1 := by unfold Hd.in_ f1; simp
theorem msgc_set (f : HdF) (v : Value) (x : Int) : (msgc f v).setIfInBounds 2 (.int .i64 x) = msgc (setF f 2 x) v := by
  unfold msgc
  rw [arr_set]
  refine arr_congr fun j _ => ?_
  by_cases e : j = 2
  · subst e; rfl
  · rw [if_neg e]
    unfold hdv setF
    rw [if_neg e]
def AbPost (w : World) (e : Ending) (w' : World) : Prop :=
  ∃ g gB, e = .returned (.tuple #[.agg (msgc f12 (.slice (some ⟨gB, 0, none⟩) 2 2)), .slice (some ⟨g, 0, none⟩) 258 258, .bool true]) ∧ w.heap.size ≤ g ∧ Blk w' g 5 (abBytes.map u8v).toArray ∧ w.heap.size ≤ gB ∧ Bytes w' (some ⟨gB, 0, none⟩) [97, 98] ∧ Below w.heap.size w w'
set_option maxRecDepth 100000 in
set_option maxHeartbeats 4000000 in
theorem ab_any (w : World) : Calls Try.prog 16 #[] w (AbPost w) := by
  obtain ⟨w2, hw2⟩ : ∃ w2, w2 = (w.alloc (.cells #[.int .i64 0, .int .i64 0, .int .i64 0, .int .i64 0, .int .i64 0, .int .i64 0, .int .i64 0, .int .i64 0, .int .i64 0, .int .u64 0, .int .u64 0, .int .i64 0, .int .i64 0, .int .u64 0, .int .i64 0, .int .i64 0, .slice none 0 0] 29)).alloc (.cells #[.int .u8 97, .int .u8 98] 5 (2, 3)) := ⟨_, rfl⟩
  have hsz : (w.alloc (.cells #[.int .i64 0, .int .i64 0, .int .i64 0, .int .i64 0, .int .i64 0, .int .i64 0, .int .i64 0, .int .i64 0, .int .i64 0, .int .u64 0, .int .u64 0, .int .i64 0, .int .i64 0, .int .u64 0, .int .i64 0, .int .i64 0, .slice none 0 0] 29)).heap.size = w.heap.size + 1 := by simp
  have hg0 : Blk w2 w.heap.size 29 (msgc zeroHd (.slice none 0 0)) := by rw [hw2]; exact ((Blk.new w 29 #[.int .i64 0, .int .i64 0, .int .i64 0, .int .i64 0, .int .i64 0, .int .i64 0, .int .i64 0, .int .i64 0, .int .i64 0, .int .u64 0, .int .u64 0, .int .i64 0, .int .i64 0, .int .u64 0, .int .i64 0, .int .i64 0, .slice none 0 0]).sub zeroMsg_cells.symm).alloc _
  have hbB : Bytes w2 (some ⟨w.heap.size + 1, 0, none⟩) [97, 98] := by
    have h := const_reads (w.alloc (.cells #[.int .i64 0, .int .i64 0, .int .i64 0, .int .i64 0, .int .i64 0, .int .i64 0, .int .i64 0, .int .i64 0, .int .i64 0, .int .u64 0, .int .u64 0, .int .i64 0, .int .i64 0, .int .u64 0, .int .i64 0, .int .i64 0, .slice none 0 0] 29)) 5 [97, 98] (2, 3)
    rw [hsz] at h
    rw [hw2]; exact h
  have hB := Lib.hid (show Below w.heap.size w w2 by rw [hw2]; exact ((Below.refl w.heap.size w).alloc (Nat.le_refl _) _).alloc (by simp) _)
  have kc := const_bytes (P := Try.prog) (w.alloc (.cells #[.int .i64 0, .int .i64 0, .int .i64 0, .int .i64 0, .int .i64 0, .int .i64 0, .int .i64 0, .int .i64 0, .int .i64 0, .int .u64 0, .int .u64 0, .int .i64 0, .int .i64 0, .int .u64 0, .int .i64 0, .int .i64 0, .slice none 0 0] 29)) 27 5 #[.int .u8 97, .int .u8 98] 2 2 (w.heap.size + 1) (by simp) Try.underlying27 Try.underlying5
  have HW := Lib.hid hw2
  have hok : Hd.ok (setF f1 2 ([97, 98] : List UInt8).length) = true := by rw [show (([97, 98] : List UInt8).length : Int) = 2 from rfl, f1_f12]; exact f12_ok
  have hltB : w.heap.size + 1 < w2.heap.size := by rw [hw2]; simp
  clear hw2 hsz
  go_enter Try.func16, Try.ntmps16
  go_wp2_with (first
    | rw [← HW.out]
    | (show wpList _ _ _ ((⟨none, _, _, _, _, _⟩ : Oper) :: _) _ _; refine wpList_store_blk (o := ⟨none, _, _, _, _, _⟩) ((Blk.new w2 29 #[.int .i64 0, .int .i64 0, .int .i64 0, .int .i64 0, .int .i64 0, .int .i64 0, .int .i64 0, .int .i64 0, .int .i64 0, .int .u64 0, .int .u64 0, .int .i64 0, .int .i64 0, .int .u64 0, .int .i64 0, .int .i64 0, .slice none 0 0])) (by rfl) _ _ _ (by rfl) (by rfl) (msgc f1 (.slice (some ⟨w.heap.size + 1, 0, none⟩) 2 2)) (by rfl) (sizeMsg) (by rfl) (msgc_size _ _) (msgc_one _ _ rfl) ?_; intro w3 h3 hu3; have hbx := ((Below.refl w2.heap.size w2).alloc (Nat.le_refl _) (.cells #[.int .i64 0, .int .i64 0, .int .i64 0, .int .i64 0, .int .i64 0, .int .i64 0, .int .i64 0, .int .i64 0, .int .i64 0, .int .u64 0, .int .u64 0, .int .i64 0, .int .i64 0, .int .u64 0, .int .i64 0, .int .i64 0, .slice none 0 0] 29)).upd hu3 (Nat.le_refl _); have hlt0 := hg0.lt; replace hg0 := keep hbx hg0; replace hbB := keep hbx hbB; replace hB := Lib.hid (hB.out.trans (hbx.mono hB.out.size)); have hlm := h3.lt; clear hbx hu3 kc HW)
    | (show wpList _ _ _ ((⟨some 11, _, _, _, _, _⟩ : Oper) :: _) _ _; refine wpList_load_blk (o := ⟨some 11, _, _, _, _, _⟩) (h3) (by rfl) _ _ (by rfl) (by rfl) _ Try.underlying29 (by rfl) (sizeMsg) (msgc_size _ _) ?_)
    | fail)
  have hs := hseal_ok f1 (some ⟨w.heap.size + 1, 0, none⟩) 2 [97, 98] w3 hbB ⟨by decide, by omega⟩ (by decide) hok f1_in
  rw [f1_bytes] at hs
  simp only [List.length_cons, List.length_nil, Nat.zero_add, Nat.reduceAdd] at hs
  refine hs.mono ?_
  clear hs
  rintro e w4 ⟨g, rfl, hge, hg, hbx⟩
  (replace h3 := keep hbx h3; replace hg0 := keep hbx hg0; replace hbB := keep hbx hbB)
  have hB4 := Lib.hid (hB.out.trans (hbx.mono hB.out.size))
  have hlm : w2.heap.size < w3.heap.size := by assumption
  have hgg : w2.heap.size < g := by omega
  have hge2 : w.heap.size ≤ g := by have := hB.out.size; omega
  clear hbx hB hok
  obtain ⟨gB, hgB⟩ : ∃ gB, gB = w.heap.size + 1 := ⟨_, rfl⟩
  have hgeB : w.heap.size ≤ gB ∧ gB ≠ w.heap.size := by omega
  rw [← hgB] at hbB h3 hltB ⊢
  have f2 := h3.frozen 2
  have d2 : w4.cell? ⟨w2.heap.size, 2, none⟩ = some (.int .i64 (f1 2)) := h3.at_ 2 (msgc_at2 _ _)
  have hne : w2.heap.size ≠ w.heap.size := by omega
  have hne2 : g ≠ w2.heap.size := by omega
  have hge3 : w.heap.size ≤ w2.heap.size := by omega
  have h5 := (h3.set_ 2 (.int .i64 2)).sub (show _ = msgc f12 (.slice (some ⟨gB, 0, none⟩) 2 2) by rw [msgc_set, f1_f12])
  have hg5 := hg.off (c := w2.heap.size) (i := 2) hne2 (.int .i64 2)
  have hg05 := hg0.off (c := w2.heap.size) (i := 2) (Ne.symm hne) (.int .i64 2)
  have hbB5 : Bytes (w4.setCell ⟨w2.heap.size, 2, none⟩ (.int .i64 2)) (some ⟨gB, 0, none⟩) [97, 98] := Bytes.upd hbB ((Upd.refl _ _).set _ _) (fun ad e => by injection e with e; rw [← e]; show gB ≠ w2.heap.size; omega)
  have hB5 := Lib.hid (hB4.out.set_ (c := w2.heap.size) (i := 2) hge3 (.int .i64 2))
  clear h3 hg hg0 hbB hB4 hge hgB
  go_wp2_with (first
    | (show wpList _ _ _ ((⟨some 17, _, _, _, _, _⟩ : Oper) :: _) _ _; generalize World.setCell w4 _ _ = w5 at h5 hg5 hg05 hbB5 hB5 ⊢; (show wpList _ _ _ ((⟨some 17, _, _, _, _, _⟩ : Oper) :: _) _ _; refine wpList_load_blk (o := ⟨some 17, _, _, _, _, _⟩) (h5) (by rfl) _ _ (by rfl) (by rfl) _ Try.underlying29 (by rfl) (sizeMsg) (msgc_size _ _) ?_))
    | (show wpList _ _ _ ((⟨none, _, _, _, _, _⟩ : Oper) :: _) _ _; refine wpList_store_blk (o := ⟨none, _, _, _, _, _⟩) (hg05) (by rfl) _ _ _ (by rfl) (by rfl) (msgc f12 (.slice (some ⟨gB, 0, none⟩) 2 2)) (by rfl) (sizeMsg) (msgc_size _ _) (msgc_size _ _) (msgc_one _ _ rfl) ?_; intro w6 h6 hu6)
    | fail)
  refine bodyPost_ret (results_row_tmps (by rfl) _ _ w.heap.size _ _ _ (by rfl) h6 Try.underlying29 (by rfl) (by rw [msgc_size]; exact sizeMsg)) rfl ⟨g, gB, rfl, hge2, hg5.upd hu6 (by omega), hgeB.1, Bytes.upd hbB5 hu6 (fun ad e => by injection e with e; rw [← e]; show gB ≠ w.heap.size; omega), hB5.out.upd hu6 (Nat.le_refl _)⟩
end Go.Proofs.Ytekdcjaljjlemaa

/- Two headers compared, two messages compared. Conditions: the bodies can be read. -/
namespace Go.Proofs.Ytekdcjaljjlemaa
open Go.RowKit
theorem hdc_lit (f : HdF) : hdc f = #[.int .i64 (f 0), .int .i64 (f 1), .int .i64 (f 2), .int .i64 (f 3), .int .i64 (f 4), .int .i64 (f 5), .int .i64 (f 6), .int .i64 (f 7), .int .i64 (f 8), .int .u64 (f 9), .int .u64 (f 10), .int .i64 (f 11), .int .i64 (f 12), .int .u64 (f 13), .int .i64 (f 14), .int .i64 (f 15)] := by rfl
def Hd.beq (f g : HdF) : Bool := (f 0 == g 0) && (f 1 == g 1) && (f 2 == g 2) && (f 3 == g 3) && (f 4 == g 4) && (f 5 == g 5) && (f 6 == g 6) && (f 7 == g 7) && (f 8 == g 8) && (f 9 == g 9) && (f 10 == g 10) && (f 11 == g 11) && (f 12 == g 12) && (f 13 == g 13) && (f 14 == g 14) && (f 15 == g 15)
theorem Hd.beq_same (f g : HdF) : Hd.beq f g = true ↔ Hd.same f g := by
  unfold Hd.beq Hd.same
  simp only [Bool.and_eq_true, beq_iff_eq]
  constructor
  · intro h i hi
    have : i = 0 ∨ i = 1 ∨ i = 2 ∨ i = 3 ∨ i = 4 ∨ i = 5 ∨ i = 6 ∨ i = 7 ∨ i = 8 ∨ i = 9 ∨ i = 10 ∨ i = 11 ∨ i = 12 ∨ i = 13 ∨ i = 14 ∨ i = 15 := by omega
    rcases this with rfl | rfl | rfl | rfl | rfl | rfl | rfl | rfl | rfl | rfl | rfl | rfl | rfl | rfl | rfl | rfl <;> simp only [h]
  · intro h
    simp only [h 0 (by omega), h 1 (by omega), h 2 (by omega), h 3 (by omega), h 4 (by omega), h 5 (by omega), h 6 (by omega), h 7 (by omega), h 8 (by omega), h 9 (by omega), h 10 (by omega), h 11 (by omega), h 12 (by omega), h 13 (by omega), h 14 (by omega), h 15 (by omega), and_self]
theorem noselHd : Try.prog.eqGuardType Try.prog.depth 26 = false := by kernel_rfl
theorem heldHd : Try.prog.stoodInHeld 26 = false := by kernel_rfl
theorem heldU : Try.prog.stoodInHeld 24 = false := by kernel_rfl
theorem eqU (w : World) (k : Nat) (a b c d : Int) : (Op.equalIn (k + 2) 24 (.agg #[.int .u64 a, .int .u64 b]) (.agg #[.int .u64 c, .int .u64 d])).run Try.prog w = .ok ((a == c) && (b == d)) w := by
  have hu : Try.prog.underlying 24 = some (.struct (Try.prog.fieldsOf 24)) := by kernel_rfl
  rw [run_equalIn_struct w (k + 1) 24 _ _ hu heldU]
  have e : Try.prog.fieldsOf 24 = (match Try.prog.underlying 24 with | some (.struct fs) => fs | _ => #[]) := rfl
  rw [e, Try.underlying24]
  have ei := Try.underlying22
  simp [Op.eqFields, part, go_sem, ei]
  by_cases h1 : a = c <;> by_cases h2 : b = d <;> simp [h1, h2]
set_option maxHeartbeats 4000000 in
theorem eqHd (w : World) (f g : HdF) : (Op.equalIn 10000 26 (.agg (hdc f)) (.agg (hdc g))).run Try.prog w = .ok (Hd.beq f g) w := by
  have hu : Try.prog.underlying 26 = some (.struct (Try.prog.fieldsOf 26)) := by kernel_rfl
  rw [show (10000 : Nat) = 9999 + 1 from rfl, run_equalIn_struct w 9999 26 _ _ hu heldHd]
  have e : Try.prog.fieldsOf 26 = (match Try.prog.underlying 26 with | some (.struct fs) => fs | _ => #[]) := rfl
  rw [e, Try.underlying26, hdc_lit, hdc_lit]
  have ei := Try.underlying3
  have ej := Try.underlying22
  simp [Op.eqFields, part, go_sem, ei, ej]
  by_cases h0 : f 0 = g 0
  case neg => rw [if_neg h0]; simp [Hd.beq, h0]
  rw [if_pos h0]
  by_cases h1 : f 1 = g 1
  case neg => rw [if_neg h1]; simp [Hd.beq, h1]
  rw [if_pos h1]
  by_cases h2 : f 2 = g 2
  case neg => rw [if_neg h2]; simp [Hd.beq, h2]
  rw [if_pos h2]
  by_cases h3 : f 3 = g 3
  case neg => rw [if_neg h3]; simp [Hd.beq, h3]
  rw [if_pos h3]
  by_cases h4 : f 4 = g 4
  case neg => rw [if_neg h4]; simp [Hd.beq, h4]
  rw [if_pos h4]
  by_cases h5 : f 5 = g 5
  case neg => rw [if_neg h5]; simp [Hd.beq, h5]
  rw [if_pos h5]
  by_cases h6 : f 6 = g 6
  case neg => rw [if_neg h6]; simp [Hd.beq, h6]
  rw [if_pos h6]
  by_cases h7 : f 7 = g 7
  case neg => rw [if_neg h7]; simp [Hd.beq, h7]
  rw [if_pos h7]
  by_cases h8 : f 8 = g 8
  case neg => rw [if_neg h8]; simp [Hd.beq, h8]
  rw [if_pos h8]
  by_cases h9 : f 9 = g 9
  case neg => rw [if_neg h9]; simp [Hd.beq, h9]
  rw [if_pos h9]
  by_cases h10 : f 10 = g 10
  case neg => rw [if_neg h10]; simp [Hd.beq, h10]
  rw [if_pos h10]
  by_cases h11 : f 11 = g 11
  case neg => rw [if_neg h11]; simp [Hd.beq, h11]
  rw [if_pos h11]
  by_cases h12 : f 12 = g 12
  case neg => rw [if_neg h12]; simp [Hd.beq, h12]
  rw [if_pos h12]
  by_cases h13 : f 13 = g 13
  case neg => rw [if_neg h13]; simp [Hd.beq, h13]
  rw [if_pos h13]
  by_cases h14 : f 14 = g 14
  case neg => rw [if_neg h14]; simp [Hd.beq, h14]
  rw [if_pos h14]
  by_cases h15 : f 15 = g 15
  case neg => rw [if_neg h15]; simp [Hd.beq, h15]
  rw [if_pos h15]
  simp [Hd.beq, h0, h1, h2, h3, h4, h5, h6, h7, h8, h9, h10, h11, h12, h13, h14, h15]
theorem exec_neq_hd {o : Oper} {ac : Act} (w : World) (x y : Operand) (r : TypeId) (ho : o.op = .binOp .neq 26 x y r) (f g : HdF) (hx : ac.eval x = .agg (hdc f)) (hy : ac.eval y = .agg (hdc g)) :
    (execOp ac.eval o).run Try.prog w = .ok (.value (.bool (!Hd.beq f g))) w := by
  unfold execOp
  simp only [ho, hx, hy, Sem.run_bind, run_eqGuard_agg w .neq 26 x y _ _ noselHd, Result.andThen_ok, run_neq_struct, eqHd, Sem.run_pure]
theorem exec_eql_hd {o : Oper} {ac : Act} (w : World) (x y : Operand) (r : TypeId) (ho : o.op = .binOp .eql 26 x y r) (f g : HdF) (hx : ac.eval x = .agg (hdc f)) (hy : ac.eval y = .agg (hdc g)) :
    (execOp ac.eval o).run Try.prog w = .ok (.value (.bool (Hd.beq f g))) w := by
  unfold execOp
  simp only [ho, hx, hy, Sem.run_bind, run_eqGuard_agg w .eql 26 x y _ _ noselHd, Result.andThen_ok, run_eql_struct, eqHd, Sem.run_pure]
set_option maxHeartbeats 1000000 in
theorem sameMessage_any (f g : HdF) (A B : Option Addr) (n m c d : Nat) (l l' : List UInt8) (hn : n = l.length) (hm : m = l'.length) (w : World) (h : Bytes w A l) (h' : Bytes w B l') :
    Calls Try.prog 20 #[.agg (msgc f (.slice A n c)), .agg (msgc g (.slice B m d))] w fun e w' => e = .returned (.bool (Hd.beq f g && decide (l = l'))) ∧ Below w.heap.size w w' := by
  have hg1 := (Blk.new w 29 (msgc f (.slice A n c))).alloc (.cells (msgc g (.slice B m d)) 29)
  have hg2 := Blk.new' (w.alloc (.cells (msgc f (.slice A n c)) 29)) 29 (msgc g (.slice B m d)) (n := w.heap.size + 1) (by simp)
  have hB := Lib.hid (((Below.refl w.heap.size w).alloc (Nat.le_refl _) (.cells (msgc f (.slice A n c)) 29)).alloc (by simp) (.cells (msgc g (.slice B m d)) 29))
  have HR1 := Lib.hid (hd_range hg1)
  have HR2 := Lib.hid (hd_range hg2)
  have d1 := hg1.at_ 16 (msgc_16 f _)
  have d2 := hg2.at_ 16 (msgc_16 g _)
  have HN := Lib.hid (And.intro hn hm)
  clear hg1 hg2 hn hm
  cases hb : Hd.beq f g
  · rw [Bool.false_and]
    have HB := Lib.hid hb
    clear hb
    go_enter Try.func20, Try.ntmps20
    go_wp2_with (first
      | (show wpList _ _ _ ((⟨some 6, _, _, _, _, _⟩ : Oper) :: _) _ _; refine wpList_load_mid (o := ⟨some 6, _, _, _, _, _⟩) HR1.out (by rfl) _ _ (by rfl) (by rfl) _ Try.underlying26 (by rfl) sizeHd (by rw [Array.length_toList, hdc_size]) ?_; rw [Array.toArray_toList])
      | (show wpList _ _ _ ((⟨some 8, _, _, _, _, _⟩ : Oper) :: _) _ _; refine wpList_load_mid (o := ⟨some 8, _, _, _, _, _⟩) HR2.out (by rfl) _ _ (by rfl) (by rfl) _ Try.underlying26 (by rfl) sizeHd (by rw [Array.length_toList, hdc_size]) ?_; rw [Array.toArray_toList])
      | (show wpList _ _ _ ((⟨some 9, _, _, _, _, _⟩ : Oper) :: _) _ _; refine wpList_run (o := ⟨some 9, _, _, _, _, _⟩) _ (by rfl) (exec_eql_hd _ _ _ _ (by rfl) f g (by rfl) (by rfl)) ?_; rw [HB.out])
      | fail)
    go_ret
    exact ⟨rfl, hB.out⟩
  · rw [Bool.true_and]
    have HB := Lib.hid hb
    clear hb
    go_enter Try.func20, Try.ntmps20
    go_wp2_with (first
      | (show wpList _ _ _ ((⟨some 6, _, _, _, _, _⟩ : Oper) :: _) _ _; refine wpList_load_mid (o := ⟨some 6, _, _, _, _, _⟩) HR1.out (by rfl) _ _ (by rfl) (by rfl) _ Try.underlying26 (by rfl) sizeHd (by rw [Array.length_toList, hdc_size]) ?_; rw [Array.toArray_toList])
      | (show wpList _ _ _ ((⟨some 8, _, _, _, _, _⟩ : Oper) :: _) _ _; refine wpList_load_mid (o := ⟨some 8, _, _, _, _, _⟩) HR2.out (by rfl) _ _ (by rfl) (by rfl) _ Try.underlying26 (by rfl) sizeHd (by rw [Array.length_toList, hdc_size]) ?_; rw [Array.toArray_toList])
      | (show wpList _ _ _ ((⟨some 9, _, _, _, _, _⟩ : Oper) :: _) _ _; refine wpList_run (o := ⟨some 9, _, _, _, _, _⟩) _ (by rfl) (exec_eql_hd _ _ _ _ (by rfl) f g (by rfl) (by rfl)) ?_; rw [HB.out])
      | fail)
    refine (sameBytes_any A B n m c d l l' HN.out.1 HN.out.2 _ (Bytes.below h hB.out) (Bytes.below h' hB.out)).mono ?_
    rintro e w2 ⟨rfl, hbx⟩
    have hB2 := Lib.hid (show Below w.heap.size w w2 by rw [hbx]; exact hB.out)
    clear hbx HR1 HR2 d1 d2 hB
    go_wp2
    go_ret
    exact ⟨rfl, hB2.out⟩
end Go.Proofs.Ytekdcjaljjlemaa

/- What the kit writes over: every byte of a list, with what stands behind it. No condition but that the list is an own one, or none. -/
namespace Go.Proofs.Ytekdcjaljjlemaa
open Go.RowKit
def over (l : List UInt8) : List UInt8 := l.map (· ^^^ 90)
theorem over_length (l : List UInt8) : (over l).length = l.length := by simp [over]
theorem over_over (l : List UInt8) : over (over l) = l := by
  unfold over; rw [List.map_map]
  have : ((fun x : UInt8 => x ^^^ 90) ∘ fun x => x ^^^ 90) = id := by funext x; simp [Function.comp, UInt8.xor_assoc]
  rw [this, List.map_id]
def overTo (l : List UInt8) (i : Nat) : List UInt8 := over (l.take i) ++ l.drop i
theorem overTo_length (l : List UInt8) (i : Nat) : (overTo l i).length = l.length := by unfold overTo; rw [List.length_append, over_length, ← List.length_append, List.take_append_drop]
theorem overTo_at (l : List UInt8) (i : Nat) (h : i < l.length) : (overTo l i)[i]? = some l[i] := by
  unfold overTo
  have h1 : (over (l.take i)).length = i := by rw [over_length, List.length_take]; omega
  rw [List.getElem?_append_right (by omega), h1, Nat.sub_self, List.getElem?_drop, Nat.add_zero, List.getElem?_eq_getElem h]
theorem overTo_set (l : List UInt8) (i : Nat) (h : i < l.length) : (overTo l i).set i (l[i] ^^^ 90) = overTo l (i + 1) := by
  unfold overTo
  have h1 : (over (l.take i)).length = i := by rw [over_length, List.length_take]; omega
  rw [List.set_append_right _ _ (by omega), h1, Nat.sub_self, List.drop_eq_getElem_cons h, List.set_cons_zero, List.take_succ_eq_append_getElem h]
  unfold over; rw [List.map_append]; simp
/-- Ahead of each byte. -/
def OverRel (w : World) (g : Nat) (t : TypeId) (l : List UInt8) (v : Value) (wr : World) : Prop :=
  ∃ i : Nat, i ≤ l.length ∧ v = .int .i64 (i : Int) ∧ Blk wr g t ((overTo l i).map u8v).toArray ∧ Upd g w wr
set_option maxHeartbeats 400000 in
theorem over_any (g n c : Nat) (l : List UInt8) (hn : n ≤ c) (hl : c = l.length) (hc : c ≤ 140737488351300) (w : World) (t : TypeId) (hg : Blk w g t (l.map u8v).toArray) :
    Calls Try.prog 31 #[.slice (some ⟨g, 0, none⟩) n c] w fun e w' => e = .returned (.tuple #[]) ∧ Blk w' g t ((over l).map u8v).toArray ∧ Upd g w w' := by
  subst hl
  go_enter Try.func31, Try.ntmps31
  go_wp2
  go_loopw [3] (fun v wr => OverRel w g t l v wr) (fun v _ => l.length - (intOf v).toNat)
  case atStart => exact ⟨0, by omega, rfl, by simpa [overTo, over] using hg, Upd.refl _ _⟩
  case round =>
    clear hg
    obtain ⟨i, hi, rfl, hw, hu⟩ := hrel
    by_cases h3 : i < l.length
    · have d0 : wr.cell? ⟨g, i, none⟩ = some (.int .u8 (iu8 l[i])) := by rw [hw.cell, List.getElem?_toArray, List.getElem?_map, overTo_at l i h3]; rfl
      have f0 := hw.frozen i
      have hx : bits BinOp.xor .u8 (iu8 l[i]) 90 = iu8 (l[i] ^^^ 90) := u8_xor_w _ 90
      have ho := hw.set_ i (.int .u8 (iu8 (l[i] ^^^ 90)))
      replace ho := ho.sub (show _ = ((overTo l (i + 1)).map u8v).toArray by
        rw [← overTo_set l i h3]
        apply Array.ext'
        simp only [List.setIfInBounds_toArray]
        rw [List.map_set]; rfl)
      have HO := Lib.hid ho
      have HU := Lib.hid (hu.set i (.int .u8 (iu8 (l[i] ^^^ 90))))
      clear ho hu hw
      go_wp2
      go_roundw
      case rel => exact ⟨i + 1, by omega, by go_num, HO.out, HU.out⟩
      case measure => simp [intOf]; omega
    · obtain rfl : i = l.length := by omega
      go_wp2
      refine bodyPost_end (v := .tuple #[]) (by simp [results]) rfl ⟨rfl, hw.sub (by simp [overTo]), hu⟩
theorem over_nil (w : World) : Calls Try.prog 31 #[.slice none 0 0] w fun e w' => e = .returned (.tuple #[]) ∧ w' = w := by
  go_enter Try.func31, Try.ntmps31
  go_wp2
  go_loopw [3] (fun v wr => v = .int .i64 0 ∧ wr = w) (fun _ _ => 0)
  case atStart => exact ⟨rfl, rfl⟩
  case round =>
    obtain ⟨rfl, rfl⟩ := hrel
    go_wp2
    refine bodyPost_end (v := .tuple #[]) (by simp [results]) rfl ⟨rfl, rfl⟩
end Go.Proofs.Ytekdcjaljjlemaa

/- Bytes with one of them turned; the chapter's examples, as the law's helper asks. Conditions: the bytes can be read. -/
namespace Go.Proofs.Ytekdcjaljjlemaa
open Go.RowKit
theorem _root_.Go.OwnB.store_ {e : TypeId} {w : World} {base g cap n i : Nat} {l sp : List UInt8} (h : OwnB e w base (.slice (some ⟨g, 0, none⟩) n cap) l sp) (hi : i < l.length) (y : UInt8) :
    OwnB e (w.setCell ⟨g, i, none⟩ (u8v y)) base (.slice (some ⟨g, 0, none⟩) n cap) (l.set i y) sp := by
  rcases h with ⟨h0, _⟩ | ⟨g', cap', hv, hb, hg, hc, hm, hl, hs⟩
  · cases h0
  · injection hv with h1 h2 h3
    injection h1 with h1
    injection h1 with h1
    subst h1 h3 h2
    refine .inr ⟨g, cap, by rw [List.length_set], hb, ?_, by rw [List.length_set]; exact hc, hm, by simp, by rw [List.length_set]; exact hs⟩
    refine (hg.set_ i (u8v y)).sub ?_
    rw [List.setIfInBounds_toArray, List.set_append_left _ _ (by simpa using hi), List.map_set]
set_option maxHeartbeats 1000000 in
theorem hturned_any (A : Option Addr) (n c p : Nat) (l : List UInt8) (x y : UInt8) (hn : n = l.length) (hl : l.length ≤ 100000) (hx : l[p]? = some x) (hy : x ^^^ 1 = y) (w : World) (h : Bytes w A l) :
    Calls Try.prog 18 #[.slice A n c, .int .i64 (p : Int)] w fun e w' => ∃ v sp, e = .returned v ∧ OwnB 5 w' w.heap.size v (l.set p y) sp ∧ Below w.heap.size w w' := by
  have hp : p < l.length := by
    rcases Nat.lt_or_ge p l.length with h1 | h1
    · exact h1
    · rw [List.getElem?_eq_none h1] at hx; cases hx
  subst hn
  go_enter Try.func18, Try.ntmps18
  go_wp2_with fail
  refine (copyBytes_any A l.length c l rfl (by omega) w h).mono ?_
  rintro e w1 ⟨v, sp, rfl, ho, hB⟩
  obtain ⟨g, cap, rfl, hge, hg, hc1, hc2, hsp⟩ := OwnB.at_ ho (by omega)
  have hxor : bits BinOp.xor .u8 (iu8 x) 1 = iu8 y := by rw [← hy]; exact u8_xor_w x 1
  have d0 : w1.cell? ⟨g, p, none⟩ = some (.int .u8 (iu8 x)) := hg.at_ p (by rw [List.getElem?_toArray, List.map_append, List.getElem?_append_left (by simpa using hp), List.getElem?_map, hx]; rfl)
  have f0 := hg.frozen p
  have HX := Lib.hid (And.intro (OwnB.store_ ho hp y) (hB.set_ (c := g) (i := p) hge (u8v y)))
  clear ho hB hg hx hy h hc1 hc2 hsp hl
  go_wp2
  go_ret
  exact ⟨_, sp, rfl, HX.out.1, HX.out.2⟩
theorem ab_cell (i : Nat) (b : UInt8) (h : abBytes[i]? = some b) : ((abBytes.map u8v).toArray)[i]? = some (u8v b) := by simp [h]
set_option maxRecDepth 100000 in
set_option maxHeartbeats 4000000 in
theorem awake04_any (w : World) : Calls Try.prog 15 #[] w fun e w' => e = .returned (.bool true) ∧ Below w.heap.size w w' := by
  have hB := Below.refl w.heap.size w
  go_enter Try.func15, Try.ntmps15
  go_wp2_with fail
  refine (ab_any _).mono ?_
  rintro e w1 ⟨g, gB, rfl, hgg, hg, hgB, hb, hbx⟩
  (replace hB := hB.trans (hbx.mono hB.size); clear hbx)
  clear hgg hgB
  go_wp2_with (first
    | (show wpList _ _ _ ((⟨none, _, _, _, _, _⟩ : Oper) :: _) _ _; refine wpList_store_blk (o := ⟨none, _, _, _, _, _⟩) ((Blk.new w1 29 #[.int .i64 0, .int .i64 0, .int .i64 0, .int .i64 0, .int .i64 0, .int .i64 0, .int .i64 0, .int .i64 0, .int .i64 0, .int .u64 0, .int .u64 0, .int .i64 0, .int .i64 0, .int .u64 0, .int .i64 0, .int .i64 0, .slice none 0 0])) (by rfl) _ _ _ (by rfl) (by rfl) (msgc f12 (.slice (some ⟨gB, 0, none⟩) 2 2)) (by rfl) (sizeMsg) (by rfl) (msgc_size _ _) (msgc_one _ _ rfl) ?_; intro w2 hm hu; have hbx := ((Below.refl w1.heap.size w1).alloc (Nat.le_refl _) (.cells #[.int .i64 0, .int .i64 0, .int .i64 0, .int .i64 0, .int .i64 0, .int .i64 0, .int .i64 0, .int .i64 0, .int .i64 0, .int .u64 0, .int .u64 0, .int .i64 0, .int .i64 0, .int .u64 0, .int .i64 0, .int .i64 0, .slice none 0 0] 29)).upd hu (Nat.le_refl _); (replace hg := keep hbx hg; replace hb := keep hbx hb; replace hB := hB.trans (hbx.mono hB.size)); clear hbx hu)
    | fail)
  refine (hopen_any (some ⟨g, 0, none⟩) 258 258 abBytes abBytes_length.symm (by omega) ⟨by omega, by omega⟩ w2 hg.bytes).mono ?_
  rw [ab_read.2]
  rintro e w3 ⟨v3, rfl, ⟨sp3, ho3⟩, hbx⟩
  (replace hg := keep hbx hg; replace hb := keep hbx hb; replace hm := keep hbx hm; replace hB := hB.trans (hbx.mono hB.size))
  clear hbx
  obtain ⟨A3, c3, rfl, hc3⟩ := OwnB.open_ ho3
  have hb3 := hc3.2.2
  clear ho3 hc3
  dsimp only
  obtain ⟨F, hF⟩ : ∃ F, F = Hd.parse (abBytes.take 256) := ⟨_, rfl⟩
  have HF := Lib.hid (show Hd.same F f12 by rw [hF]; exact ab_read.1)
  rw [← hF]
  clear hF
  go_wp2_with (first
    | (show wpList _ _ _ ((⟨none, _, _, _, _, _⟩ : Oper) :: _) _ _; refine wpList_store_blk (o := ⟨none, _, _, _, _, _⟩) ((Blk.new w3 29 #[.int .i64 0, .int .i64 0, .int .i64 0, .int .i64 0, .int .i64 0, .int .i64 0, .int .i64 0, .int .i64 0, .int .i64 0, .int .u64 0, .int .u64 0, .int .i64 0, .int .i64 0, .int .u64 0, .int .i64 0, .int .i64 0, .slice none 0 0])) (by rfl) _ _ _ (by rfl) (by rfl) (msgc F (.slice A3 2 c3)) (by rfl) (sizeMsg) (by rfl) (msgc_size _ _) (msgc_one _ _ rfl) ?_; intro w4 hx hu; have hbx := ((Below.refl w3.heap.size w3).alloc (Nat.le_refl _) (.cells #[.int .i64 0, .int .i64 0, .int .i64 0, .int .i64 0, .int .i64 0, .int .i64 0, .int .i64 0, .int .i64 0, .int .i64 0, .int .u64 0, .int .u64 0, .int .i64 0, .int .i64 0, .int .u64 0, .int .i64 0, .int .i64 0, .slice none 0 0] 29)).upd hu (Nat.le_refl _); (replace hg := keep hbx hg; replace hb := keep hbx hb; replace hm := keep hbx hm; replace hb3 := keep hbx hb3; replace hB := hB.trans (hbx.mono hB.size)); clear hbx hu)
    | fail)
  refine (hturned_any (some ⟨g, 0, none⟩) 258 258 257 abBytes 98 99 abBytes_length.symm (by rw [abBytes_length]; omega) ab_at.2.2.2 (by rfl) w4 hg.bytes).mono ?_
  rintro e w5 ⟨v5, sp5, rfl, ho5, hbx⟩
  (replace hg := keep hbx hg; replace hb := keep hbx hb; replace hm := keep hbx hm; replace hx := keep hbx hx; replace hb3 := keep hbx hb3; replace hB := hB.trans (hbx.mono hB.size))
  clear hbx
  obtain ⟨A5, c5, rfl, hc5, hd5, hb5⟩ := OwnB.open_ ho5
  have hl5 : (abBytes.set 257 99).length = 258 := by rw [List.length_set, abBytes_length]
  rw [hl5] at hc5 ⊢
  clear ho5
  go_wp2_with fail
  refine (hopen_any A5 258 c5 (abBytes.set 257 99) hl5.symm hc5 ⟨by omega, hd5⟩ w5 hb5).mono ?_
  rw [ab_turned257]
  rintro e w6 ⟨v6, rfl, ⟨sp6, ho6⟩, hbx⟩
  (replace hg := keep hbx hg; replace hb := keep hbx hb; replace hm := keep hbx hm; replace hx := keep hbx hx; replace hb3 := keep hbx hb3; replace hB := hB.trans (hbx.mono hB.size))
  clear hbx hb5 hc5 hd5 hl5
  obtain ⟨A6, c6, rfl, -⟩ := OwnB.open_ ho6
  clear ho6
  dsimp only [List.length_nil]
  have hdx := HF
  go_wp2_with (first
    | (show wpList _ _ _ ((⟨none, _, _, _, _, _⟩ : Oper) :: _) _ _; refine wpList_store_blk (o := ⟨none, _, _, _, _, _⟩) ((Blk.new w6 29 #[.int .i64 0, .int .i64 0, .int .i64 0, .int .i64 0, .int .i64 0, .int .i64 0, .int .i64 0, .int .i64 0, .int .i64 0, .int .u64 0, .int .u64 0, .int .i64 0, .int .i64 0, .int .u64 0, .int .i64 0, .int .i64 0, .slice none 0 0])) (by rfl) _ _ _ (by rfl) (by rfl) (msgc Hd.none_ (.slice A6 0 c6)) (by rfl) (sizeMsg) (by rfl) (msgc_size _ _) (msgc_one _ _ rfl) ?_; intro w7 hz hu; have hbx := ((Below.refl w6.heap.size w6).alloc (Nat.le_refl _) (.cells #[.int .i64 0, .int .i64 0, .int .i64 0, .int .i64 0, .int .i64 0, .int .i64 0, .int .i64 0, .int .i64 0, .int .i64 0, .int .u64 0, .int .u64 0, .int .i64 0, .int .i64 0, .int .u64 0, .int .i64 0, .int .i64 0, .slice none 0 0] 29)).upd hu (Nat.le_refl _); (replace hg := keep hbx hg; replace hb := keep hbx hb; replace hm := keep hbx hm; replace hx := keep hbx hx; replace hb3 := keep hbx hb3; replace hB := hB.trans (hbx.mono hB.size)); clear hbx hu; have d32 : w7.cell? ⟨g, 32, none⟩ = some (.int .u8 1) := hg.at_ 32 (ab_cell 32 1 ab_at.1); have d40 : w7.cell? ⟨g, 40, none⟩ = some (.int .u8 2) := hg.at_ 40 (ab_cell 40 2 ab_at.2.1))
    | (show wpList _ _ _ ((⟨some 37, _, _, _, _, _⟩ : Oper) :: _) _ _; refine wpList_want (by rfl) ?_; refine wpList_load_blk (o := ⟨some 37, _, _, _, _, _⟩) (hx) (by rfl) _ _ (by rfl) (by rfl) _ Try.underlying29 (by rfl) (sizeMsg) (msgc_size _ _) ?_)
    | (show wpList _ _ _ ((⟨some 38, _, _, _, _, _⟩ : Oper) :: _) _ _; refine wpList_want (by rfl) ?_; refine wpList_load_blk (o := ⟨some 38, _, _, _, _, _⟩) (hm) (by rfl) _ _ (by rfl) (by rfl) _ Try.underlying29 (by rfl) (sizeMsg) (msgc_size _ _) ?_)
    | fail)
  refine (sameMessage_any F f12 A3 (some ⟨gB, 0, none⟩) 2 2 c3 2 [97, 98] [97, 98] rfl rfl w7 hb3 hb).mono ?_
  rintro e w8 ⟨rfl, hbx⟩
  rw [(Hd.beq_same F f12).2 HF.out]
  (replace hB := hB.trans (hbx.mono hB.size))
  clear hbx hg hb hm hx hb3 hz d32 d40
  go_wp2
  go_ret
  exact ⟨by simp, hB⟩
end Go.Proofs.Ytekdcjaljjlemaa

/- The chapter's examples of headers, as the closed statement asks: it answers true, and writes nothing that was there. No condition. -/
namespace Go.Proofs.Ytekdcjaljjlemaa
open Go.RowKit
def f17 : HdF := fun i => if i = 0 then 1 else if i = 1 then 7 else 0
theorem f17_cells : hdc f17 = #[.int .i64 1, .int .i64 7, .int .i64 0, .int .i64 0, .int .i64 0, .int .i64 0, .int .i64 0, .int .i64 0, .int .i64 0, .int .u64 0, .int .u64 0, .int .i64 0, .int .i64 0, .int .u64 0, .int .i64 0, .int .i64 0] := by rfl
theorem zero_no : Hd.ok (setF zeroHd 2 ([] : List UInt8).length) = false := by decide +kernel
set_option maxRecDepth 100000 in
set_option maxHeartbeats 4000000 in
theorem known04_any (w : World) : Calls Try.prog 4 #[] w fun e w' => e = .returned (.bool true) ∧ Below w.heap.size w w' := by
  have hB := Below.refl w.heap.size w
  go_enter Try.func4, Try.ntmps4
  go_wp2_with fail
  refine (ab_any _).mono ?_
  rintro e w1 ⟨g, gB, rfl, hgg, hg, hgB, hb, hbx⟩
  (replace hB := hB.trans (hbx.mono hB.size); clear hbx)
  clear hgg hgB
  go_wp2_with (first
    | (show wpList _ _ _ ((⟨none, _, _, _, _, _⟩ : Oper) :: _) _ _; refine wpList_store_blk (o := ⟨none, _, _, _, _, _⟩) ((Blk.new w1 29 #[.int .i64 0, .int .i64 0, .int .i64 0, .int .i64 0, .int .i64 0, .int .i64 0, .int .i64 0, .int .i64 0, .int .i64 0, .int .u64 0, .int .u64 0, .int .i64 0, .int .i64 0, .int .u64 0, .int .i64 0, .int .i64 0, .slice none 0 0])) (by rfl) _ _ _ (by rfl) (by rfl) (msgc f12 (.slice (some ⟨gB, 0, none⟩) 2 2)) (by rfl) (sizeMsg) (by rfl) (msgc_size _ _) (msgc_one _ _ rfl) ?_; intro w2 hm hu; have hbx := ((Below.refl w1.heap.size w1).alloc (Nat.le_refl _) (.cells #[.int .i64 0, .int .i64 0, .int .i64 0, .int .i64 0, .int .i64 0, .int .i64 0, .int .i64 0, .int .i64 0, .int .i64 0, .int .u64 0, .int .u64 0, .int .i64 0, .int .i64 0, .int .u64 0, .int .i64 0, .int .i64 0, .slice none 0 0] 29)).upd hu (Nat.le_refl _); (replace hg := keep hbx hg; replace hb := keep hbx hb; replace hB := hB.trans (hbx.mono hB.size)); clear hbx hu)
    | fail)
  refine (awake04_any w2).mono ?_
  rintro e w3 ⟨rfl, hbx⟩
  (replace hg := keep hbx hg; replace hm := keep hbx hm; replace hB := hB.trans (hbx.mono hB.size))
  clear hbx hb
  go_wp2_with fail
  refine (hopen_any (some ⟨g, 0, none⟩) 257 258 (abBytes.take 257) (by rw [List.length_take, abBytes_length]; rfl) (by omega) ⟨by omega, by omega⟩ w3 (hg.bytes.take 257)).mono ?_
  rw [ab_257]
  rintro e w4 ⟨v4, rfl, ⟨sp4, ho4⟩, hbx⟩
  (replace hg := keep hbx hg; replace hm := keep hbx hm; replace hB := hB.trans (hbx.mono hB.size))
  clear hbx
  obtain ⟨A4, c4, rfl, -⟩ := OwnB.open_ ho4
  clear ho4
  dsimp only [List.length_nil]
  go_wp2_with (first
    | (show wpList _ _ _ ((⟨none, _, _, _, _, _⟩ : Oper) :: _) _ _; refine wpList_store_blk (o := ⟨none, _, _, _, _, _⟩) ((Blk.new w4 29 #[.int .i64 0, .int .i64 0, .int .i64 0, .int .i64 0, .int .i64 0, .int .i64 0, .int .i64 0, .int .i64 0, .int .i64 0, .int .u64 0, .int .u64 0, .int .i64 0, .int .i64 0, .int .u64 0, .int .i64 0, .int .i64 0, .slice none 0 0])) (by rfl) _ _ _ (by rfl) (by rfl) (msgc Hd.none_ (.slice A4 0 c4)) (by rfl) (sizeMsg) (by rfl) (msgc_size _ _) (msgc_one _ _ rfl) ?_; intro w5 hy hu; have hbx := ((Below.refl w4.heap.size w4).alloc (Nat.le_refl _) (.cells #[.int .i64 0, .int .i64 0, .int .i64 0, .int .i64 0, .int .i64 0, .int .i64 0, .int .i64 0, .int .i64 0, .int .i64 0, .int .u64 0, .int .u64 0, .int .i64 0, .int .i64 0, .int .u64 0, .int .i64 0, .int .i64 0, .slice none 0 0] 29)).upd hu (Nat.le_refl _); (replace hg := keep hbx hg; replace hm := keep hbx hm; replace hB := hB.trans (hbx.mono hB.size)); clear hbx hu)
    | fail)
  refine (hturned_any (some ⟨g, 0, none⟩) 258 258 50 abBytes 0 1 abBytes_length.symm (by rw [abBytes_length]; omega) ab_at.2.2.1 (by rfl) w5 hg.bytes).mono ?_
  rintro e w6 ⟨v6, sp6, rfl, ho6, hbx⟩
  (replace hg := keep hbx hg; replace hm := keep hbx hm; replace hB := hB.trans (hbx.mono hB.size))
  clear hbx
  obtain ⟨A6, c6, rfl, hc6, hd6, hb6⟩ := OwnB.open_ ho6
  have hl6 : (abBytes.set 50 1).length = 258 := by rw [List.length_set, abBytes_length]
  rw [hl6] at hc6 ⊢
  clear ho6
  go_wp2_with fail
  refine (hopen_any A6 258 c6 (abBytes.set 50 1) hl6.symm hc6 ⟨by omega, hd6⟩ w6 hb6).mono ?_
  rw [ab_turned50]
  rintro e w7 ⟨v7, rfl, ⟨sp7, ho7⟩, hbx⟩
  (replace hg := keep hbx hg; replace hm := keep hbx hm; replace hB := hB.trans (hbx.mono hB.size))
  clear hbx hb6 hc6 hd6 hl6
  obtain ⟨A7, c7, rfl, -⟩ := OwnB.open_ ho7
  clear ho7
  dsimp only [List.length_nil]
  go_wp2_with (first
    | (show wpList _ _ _ ((⟨none, _, _, _, _, _⟩ : Oper) :: _) _ _; refine wpList_store_blk (o := ⟨none, _, _, _, _, _⟩) ((Blk.new w7 29 #[.int .i64 0, .int .i64 0, .int .i64 0, .int .i64 0, .int .i64 0, .int .i64 0, .int .i64 0, .int .i64 0, .int .i64 0, .int .u64 0, .int .u64 0, .int .i64 0, .int .i64 0, .int .u64 0, .int .i64 0, .int .i64 0, .slice none 0 0])) (by rfl) _ _ _ (by rfl) (by rfl) (msgc Hd.none_ (.slice A7 0 c7)) (by rfl) (sizeMsg) (by rfl) (msgc_size _ _) (msgc_one _ _ rfl) ?_; intro w8 hz hu; have hbx := ((Below.refl w7.heap.size w7).alloc (Nat.le_refl _) (.cells #[.int .i64 0, .int .i64 0, .int .i64 0, .int .i64 0, .int .i64 0, .int .i64 0, .int .i64 0, .int .i64 0, .int .i64 0, .int .u64 0, .int .u64 0, .int .i64 0, .int .i64 0, .int .u64 0, .int .i64 0, .int .i64 0, .slice none 0 0] 29)).upd hu (Nat.le_refl _); (replace hg := keep hbx hg; replace hm := keep hbx hm; replace hB := hB.trans (hbx.mono hB.size)); clear hbx hu)
    | fail)
  refine (hhead_any (some ⟨g, 0, none⟩) 256 258 (abBytes.take 256) (by rw [List.length_take, abBytes_length]; rfl) (by omega) (by omega) w8 (hg.bytes.take 256)).mono ?_
  rw [ab_head]
  rintro e w9 ⟨rfl, hbx⟩
  (replace hg := keep hbx hg; replace hm := keep hbx hm; replace hB := hB.trans (hbx.mono hB.size))
  clear hbx
  dsimp only
  obtain ⟨F, hF⟩ : ∃ F, F = Hd.parse (abBytes.take 256) := ⟨_, rfl⟩
  have HF := Lib.hid (show Hd.same F f12 by rw [hF]; exact ab_read.1)
  rw [← hF]
  clear hF
  go_wp2_with (first
    | (show wpList _ _ _ ((⟨none, _, _, _, _, _⟩ : Oper) :: _) _ _; refine wpList_store_blk (o := ⟨none, _, _, _, _, _⟩) ((Blk.new w9 26 #[.int .i64 0, .int .i64 0, .int .i64 0, .int .i64 0, .int .i64 0, .int .i64 0, .int .i64 0, .int .i64 0, .int .i64 0, .int .u64 0, .int .u64 0, .int .i64 0, .int .i64 0, .int .u64 0, .int .i64 0, .int .i64 0])) (by rfl) _ _ _ (by rfl) (by rfl) (hdc F) (by rfl) (sizeHd) (by rfl) (hdc_size _) (hdc_one _) ?_; intro w10 hh hu; have hbx := ((Below.refl w9.heap.size w9).alloc (Nat.le_refl _) (.cells #[.int .i64 0, .int .i64 0, .int .i64 0, .int .i64 0, .int .i64 0, .int .i64 0, .int .i64 0, .int .i64 0, .int .i64 0, .int .u64 0, .int .u64 0, .int .i64 0, .int .i64 0, .int .u64 0, .int .i64 0, .int .i64 0] 26)).upd hu (Nat.le_refl _); (replace hg := keep hbx hg; replace hm := keep hbx hm; replace hB := hB.trans (hbx.mono hB.size)); clear hbx hu)
    | fail)
  refine (hhead_any (some ⟨g, 0, none⟩) 255 258 (abBytes.take 255) (by rw [List.length_take, abBytes_length]; rfl) (by omega) (by omega) w10 (hg.bytes.take 255)).mono ?_
  rw [ab_255]
  rintro e w11 ⟨rfl, hbx⟩
  (replace hm := keep hbx hm; replace hh := keep hbx hh; replace hB := hB.trans (hbx.mono hB.size))
  clear hbx hg
  dsimp only
  go_wp2_with (first
    | (show wpList _ _ _ ((⟨none, _, _, _, _, _⟩ : Oper) :: _) _ _; refine wpList_store_blk (o := ⟨none, _, _, _, _, _⟩) ((Blk.new w11 26 #[.int .i64 0, .int .i64 0, .int .i64 0, .int .i64 0, .int .i64 0, .int .i64 0, .int .i64 0, .int .i64 0, .int .i64 0, .int .u64 0, .int .u64 0, .int .i64 0, .int .i64 0, .int .u64 0, .int .i64 0, .int .i64 0])) (by rfl) _ _ _ (by rfl) (by rfl) (hdc Hd.none_) (by rfl) (sizeHd) (by rfl) (hdc_size _) (hdc_one _) ?_; intro w12 hk hu; have hbx := ((Below.refl w11.heap.size w11).alloc (Nat.le_refl _) (.cells #[.int .i64 0, .int .i64 0, .int .i64 0, .int .i64 0, .int .i64 0, .int .i64 0, .int .i64 0, .int .i64 0, .int .i64 0, .int .u64 0, .int .u64 0, .int .i64 0, .int .i64 0, .int .u64 0, .int .i64 0, .int .i64 0] 26)).upd hu (Nat.le_refl _); (replace hm := keep hbx hm; replace hh := keep hbx hh; replace hB := hB.trans (hbx.mono hB.size)); clear hbx hu)
    | fail)
  rw [← zeroMsg_cells]
  have hs := hseal_no zeroHd none 0 [] w12 (by decide) zero_no
  simp only [List.length_nil] at hs
  refine hs.mono ?_
  clear hs
  rintro e w13 ⟨rfl, hbx⟩
  (replace hm := keep hbx hm; replace hh := keep hbx hh; replace hB := hB.trans (hbx.mono hB.size))
  clear hbx
  go_wp2_with fail
  refine wp_region_tree (Below w13.heap.size w13) [] (PlanT.takes [0] (PlanT.takes [1] (.opt 2 (PlanT.takes [3] (.opt 4 (PlanT.takes [5, 6, 7, 8, 9] .done) .no)) .no))) (by kernel_rfl) (by kernel_rfl) ((Below.refl _ _).drew) ?_
  refine wpTree_pure _ _ _ (by rfl) (by rfl) ?_
  dsimp only [List.filterMap, List.getElem?_cons_zero, List.getElem?_cons_succ]
  repeat (go_big_quiet_step (fail))
  refine wpQuiet_nil ?_
  refine wpTree_takeL _ _ _ (by rfl) (by rfl) ((Below.refl _ _).drew) ?_
  dsimp only [List.filterMap, List.getElem?_cons_zero, List.getElem?_cons_succ]
  (refine wpQuiet_want' (by rfl) ?_; refine wpQuiet_load_mid (fun w' hw' => hd_range (hm.below hw' hm.lt)) (by rfl) _ _ (by rfl) (by rfl) _ Try.underlying26 (by rfl) (sizeHd) (by rw [Array.length_toList, hdc_size]) ?_; simp only [Act.put, List.setIfInBounds_toArray, List.set_cons_zero, List.set_cons_succ])
  refine wpQuiet_nil ?_
  rw [Array.toArray_toList]
  refine wpTree_one _ rfl ?_
  go_wp2_with (first
    | (show wpList _ _ _ ((⟨some 59, _, _, _, _, _⟩ : Oper) :: _) _ _; refine wpList_make_bytes (o := ⟨some 59, _, _, _, _, _⟩) _ (by rfl) _ _ _ (by rfl) _ Try.underlying27 u8info .i64 .i64 _ _ (1025) (1025) (by rfl) (by rfl) (by first | rfl | omega) (by first | rfl | omega) (by omega) (by omega) ?_; intro w14 h14 hb14 hs14)
    | fail)
  have hc14 : Below w13.heap.size w13 w14 := (Below.refl _ _).drew.trans (hb14.mono (Nat.le_refl _))
  clear hb14 hs14
  refine TreeQ.in_ hc14 ?_
  refine wpTree_pure _ _ _ (by rfl) (by rfl) ?_
  dsimp only [List.filterMap, List.getElem?_cons_zero, List.getElem?_cons_succ]
  refine wpQuiet_build_msg (by rfl) _ _ (by rfl) f12 _ _ _ (by rfl) (by rfl) ?_
  simp only [Act.put, List.setIfInBounds_toArray, List.set_cons_zero, List.set_cons_succ]
  refine wpQuiet_nil ?_
  refine wpTree_one _ rfl ?_
  go_wp2_with fail
  have hs := hseal_long f12 (some ⟨w13.heap.size, 0, none⟩) 1025 (List.replicate 1025 0) w14 (by rw [List.length_replicate]; omega)
  rw [List.length_replicate] at hs
  refine hs.mono ?_
  rintro e w15 ⟨rfl, hbx⟩
  have hc15 := hc14.trans (hbx.mono hc14.size)
  clear hs hbx hc14 h14
  go_wp2_with fail
  refine TreeQ.in_ hc15 ?_
  refine wpTree_pure _ _ _ (by rfl) (by rfl) ?_
  dsimp only [List.filterMap, List.getElem?_cons_zero, List.getElem?_cons_succ]
  repeat (go_big_quiet_step (fail))
  refine wpQuiet_nil ?_
  refine wpTree_done ?_
  (replace hm := keep hc15 hm; replace hh := keep hc15 hh; replace hB := hB.trans (hc15.mono hB.size))
  clear hc15
  have HR := Lib.hid (hd_range hm)
  go_wp2_with (first
    | (show wpList _ _ _ ((⟨some 71, _, _, _, _, _⟩ : Oper) :: _) _ _; refine wpList_want (by rfl) ?_; refine wpList_load_blk (o := ⟨some 71, _, _, _, _, _⟩) (hh) (by rfl) _ _ (by rfl) (by rfl) _ Try.underlying26 (by rfl) (sizeHd) (hdc_size _) ?_)
    | (show wpList _ _ _ ((⟨some 73, _, _, _, _, _⟩ : Oper) :: _) _ _; refine wpList_want (by rfl) ?_; refine wpList_load_mid (o := ⟨some 73, _, _, _, _, _⟩) HR.out (by rfl) _ _ (by rfl) (by rfl) _ Try.underlying26 (by rfl) sizeHd (by rw [Array.length_toList, hdc_size]) ?_; rw [Array.toArray_toList])
    | (show wpList _ _ _ ((⟨some 74, _, _, _, _, _⟩ : Oper) :: _) _ _; refine wpList_want (by rfl) ?_; refine wpList_run (o := ⟨some 74, _, _, _, _, _⟩) _ (by rfl) (exec_eql_hd _ _ _ _ (by rfl) F f12 (by rfl) (by rfl)) ?_; rw [(Hd.beq_same F f12).2 HF.out])
    | fail)
  rw [← f17_cells]
  refine (hcheck_any f17 w15).mono ?_
  rintro e w16 ⟨rfl, hbx⟩
  rw [show Hd.code f17 = 2 by decide +kernel]
  (replace hB := hB.trans (hbx.mono hB.size))
  clear hbx hm hh HR
  go_wp2
  go_ret
  exact ⟨by simp, hB⟩
end Go.Proofs.Ytekdcjaljjlemaa
