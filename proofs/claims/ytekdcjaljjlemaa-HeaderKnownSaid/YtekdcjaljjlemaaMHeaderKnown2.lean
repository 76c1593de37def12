/- The first 16 bytes of SHA-256, as plain Lean functions over UInt32 and lists of bytes, with no program in sight. No condition. -/
import Derived.Test.YtekdcjaljjlemaaMHeaderKnown1
import Derived.Deep.MidRow
namespace Sha

structure St where
  a : UInt32
  b : UInt32
  c : UInt32
  d : UInt32
  e : UInt32
  f : UInt32
  g : UInt32
  h : UInt32
  deriving DecidableEq

def rotr (x : UInt32) (n : Nat) : UInt32 := (x >>> UInt32.ofNat n) ||| (x <<< UInt32.ofNat (32 - n))
def s0 (x : UInt32) : UInt32 := rotr x 7 ^^^ rotr x 18 ^^^ (x >>> 3)
def s1 (x : UInt32) : UInt32 := rotr x 17 ^^^ rotr x 19 ^^^ (x >>> 10)
/-- the next word, the words so far standing in a list, the newest first -/
def next (l : List UInt32) : UInt32 := s1 (l.getD 1 0) + l.getD 6 0 + s0 (l.getD 14 0) + l.getD 15 0
def step (m : Nat → UInt32) (t : Nat) (l : List UInt32) : List UInt32 := (if t < 16 then m t else next l) :: l
def ws (m : Nat → UInt32) : Nat → List UInt32
  | 0 => []
  | t + 1 => step m t (ws m t)
/-- word number t -/
def wd (m : Nat → UInt32) (t : Nat) : UInt32 := (ws m (t + 1)).getD 0 0

theorem ws_length (m : Nat → UInt32) : ∀ t, (ws m t).length = t
  | 0 => rfl
  | t + 1 => by simp [ws, step, ws_length m t]
theorem ws_get (m : Nat → UInt32) : ∀ (t i : Nat), i < t → (ws m t).getD (t - 1 - i) 0 = wd m i
  | 0, i, h => by omega
  | t + 1, i, h => by
    by_cases e : i = t
    · subst e
      simp [wd]
    · have := ws_get m t i (by omega)
      have e2 : t + 1 - 1 - i = (t - 1 - i) + 1 := by omega
      rw [e2]
      simp only [ws, step, List.getD_cons_succ]
      exact this
theorem wd_lo (m : Nat → UInt32) {t : Nat} (h : t < 16) : wd m t = m t := by simp [wd, ws, step, h]
theorem wd_hi (m : Nat → UInt32) {t : Nat} (h : 16 ≤ t) : wd m t = s1 (wd m (t - 2)) + wd m (t - 7) + s0 (wd m (t - 15)) + wd m (t - 16) := by
  have h1 := ws_get m t (t - 2) (by omega)
  have h2 := ws_get m t (t - 7) (by omega)
  have h3 := ws_get m t (t - 15) (by omega)
  have h4 := ws_get m t (t - 16) (by omega)
  rw [show t - 1 - (t - 2) = 1 by omega] at h1
  rw [show t - 1 - (t - 7) = 6 by omega] at h2
  rw [show t - 1 - (t - 15) = 14 by omega] at h3
  rw [show t - 1 - (t - 16) = 15 by omega] at h4
  rw [← h1, ← h2, ← h3, ← h4]
  simp [wd, ws, step, next, show ¬ t < 16 by omega]

def t1 (k w : UInt32) (s : St) : UInt32 := s.h + (rotr s.e 6 ^^^ rotr s.e 11 ^^^ rotr s.e 25) + ((s.e &&& s.f) ^^^ (~~~s.e &&& s.g)) + k + w
def t2 (s : St) : UInt32 := (rotr s.a 2 ^^^ rotr s.a 13 ^^^ rotr s.a 22) + ((s.a &&& s.b) ^^^ (s.a &&& s.c) ^^^ (s.b &&& s.c))
def round (k w : UInt32) (s : St) : St := ⟨t1 k w s + t2 s, s.a, s.b, s.c, s.d + t1 k w s, s.e, s.f, s.g⟩

def kl : List UInt32 := [
  0x428a2f98, 0x71374491, 0xb5c0fbcf, 0xe9b5dba5, 0x3956c25b, 0x59f111f1, 0x923f82a4, 0xab1c5ed5,
  0xd807aa98, 0x12835b01, 0x243185be, 0x550c7dc3, 0x72be5d74, 0x80deb1fe, 0x9bdc06a7, 0xc19bf174,
  0xe49b69c1, 0xefbe4786, 0x0fc19dc6, 0x240ca1cc, 0x2de92c6f, 0x4a7484aa, 0x5cb0a9dc, 0x76f988da,
  0x983e5152, 0xa831c66d, 0xb00327c8, 0xbf597fc7, 0xc6e00bf3, 0xd5a79147, 0x06ca6351, 0x14292967,
  0x27b70a85, 0x2e1b2138, 0x4d2c6dfc, 0x53380d13, 0x650a7354, 0x766a0abb, 0x81c2c92e, 0x92722c85,
  0xa2bfe8a1, 0xa81a664b, 0xc24b8b70, 0xc76c51a3, 0xd192e819, 0xd6990624, 0xf40e3585, 0x106aa070,
  0x19a4c116, 0x1e376c08, 0x2748774c, 0x34b0bcb5, 0x391c0cb3, 0x4ed8aa4a, 0x5b9cca4f, 0x682e6ff3,
  0x748f82ee, 0x78a5636f, 0x84c87814, 0x8cc70208, 0x90befffa, 0xa4506ceb, 0xbef9a3f7, 0xc67178f2]
def kt (t : Nat) : UInt32 := kl.getD t 0
def init : St := ⟨0x6a09e667, 0xbb67ae85, 0x3c6ef372, 0xa54ff53a, 0x510e527f, 0x9b05688c, 0x1f83d9ab, 0x5be0cd19⟩

/-- behind t rounds -/
def rounds (m : Nat → UInt32) (s : St) : Nat → St
  | 0 => s
  | t + 1 => round (kt t) (wd m t) (rounds m s t)
def add (s x : St) : St := ⟨s.a + x.a, s.b + x.b, s.c + x.c, s.d + x.d, s.e + x.e, s.f + x.f, s.g + x.g, s.h + x.h⟩
def be (a b c d : UInt8) : UInt32 := (a.toUInt32 <<< 24) ||| (b.toUInt32 <<< 16) ||| (c.toUInt32 <<< 8) ||| d.toUInt32
/-- word number t of bytes, from a place on -/
def word (l : List UInt8) (at_ t : Nat) : UInt32 := be (l.getD (at_ + 4 * t) 0) (l.getD (at_ + 4 * t + 1) 0) (l.getD (at_ + 4 * t + 2) 0) (l.getD (at_ + 4 * t + 3) 0)
/-- a block mixed in: the 64 bytes from a place on -/
def blk (s : St) (l : List UInt8) (at_ : Nat) : St := add s (rounds (word l at_) s 64)
/-- n blocks from a place on -/
def blks (l : List UInt8) (s : St) : Nat → St
  | 0 => s
  | n + 1 => blk (blks l s n) l (64 * n)

theorem fold4 (a b c d : UInt32) : ((((((0 : UInt32) <<< 8) ||| a) <<< 8 ||| b) <<< 8 ||| c) <<< 8) ||| d = (a <<< 24) ||| (b <<< 16) ||| (c <<< 8) ||| d := by
  have e0 : ((0 : UInt32) <<< 8) = 0 := rfl
  have e1 : ∀ x : UInt32, x <<< 8 <<< 8 = x <<< 16 := fun x => by rw [← UInt32.shiftLeft_add (by decide) (by decide) (by decide)]; rfl
  have e2 : ∀ x : UInt32, x <<< 16 <<< 8 = x <<< 24 := fun x => by rw [← UInt32.shiftLeft_add (by decide) (by decide) (by decide)]; rfl
  simp only [e0, UInt32.zero_or, UInt32.shiftLeft_or, e1, e2]
/-- the first k bytes of a word -/
def part (l : List UInt8) (at_ t : Nat) : Nat → UInt32
  | 0 => 0
  | k + 1 => (part l at_ t k <<< 8) ||| (l.getD (at_ + 4 * t + k) 0).toUInt32
theorem part_four (l : List UInt8) (at_ t : Nat) : part l at_ t 4 = word l at_ t := by
  simp only [part, word, be, Nat.add_zero]
  generalize l.getD (at_ + 4 * t) 0 = a
  generalize l.getD (at_ + 4 * t + 1) 0 = b
  generalize l.getD (at_ + 4 * t + 2) 0 = c
  generalize l.getD (at_ + 4 * t + 3) 0 = d
  exact fold4 _ _ _ _

theorem word_drop (l : List UInt8) (k at_ t : Nat) : word (l.drop k) at_ t = word l (k + at_) t := by
  simp [word, List.getD_eq_getElem?_getD, List.getElem?_drop, Nat.add_assoc]
theorem blk_drop (s : St) (l : List UInt8) (k at_ : Nat) : blk s (l.drop k) at_ = blk s l (k + at_) := by
  have : word (l.drop k) at_ = word l (k + at_) := funext (word_drop l k at_)
  rw [blk, blk, this]

def get (s : St) : Nat → UInt32
  | 0 => s.a
  | 1 => s.b
  | 2 => s.c
  | 3 => s.d
  | 4 => s.e
  | 5 => s.f
  | 6 => s.g
  | _ => s.h
def byte (x : UInt32) (i : Nat) : UInt8 := UInt8.ofNat (x.toNat / 2 ^ (24 - 8 * i) % 256)
def zeros (n : Nat) : Nat := (119 - n % 64) % 64
/-- a number's eight bytes, the highest first -/
def eight (n : Nat) : List UInt8 := (List.range 8).map fun k => UInt8.ofNat (n / 2 ^ (56 - 8 * k) % 256)
theorem eight_length (n : Nat) : (eight n).length = 8 := by simp [eight]
theorem eight_take (n k : Nat) (h : k < 8) : (eight n).take (k + 1) = (eight n).take k ++ [UInt8.ofNat (n / 2 ^ (56 - 8 * k) % 256)] := by
  rw [List.take_succ_eq_append_getElem (by rw [eight_length]; exact h)]
  simp [eight]
def tail (n : Nat) : List UInt8 := 128 :: (List.replicate (zeros n) 0 ++ eight (n * 8))
def pad (l : List UInt8) : List UInt8 := l ++ tail l.length
/-- byte number k of what comes out -/
def outAt (s : St) (k : Nat) : UInt8 := byte (get s (k / 4)) (k % 4)
def out (s : St) : List UInt8 := (List.range 16).map (outAt s)
def sum (l : List UInt8) : List UInt8 := out (blks (pad l) init ((pad l).length / 64))

theorem sum_length (l : List UInt8) : (sum l).length = 16 := by simp [sum, out]
theorem zeros_add (n t : Nat) : zeros (n + 64 * t) = zeros n := by unfold zeros; rw [Nat.add_mul_mod_self_left]
theorem zeros_not {n i : Nat} (hn : n < 64) (h : i < zeros n) : (n + 1 + i) % 64 ≠ 56 := by
  unfold zeros at h
  have : n % 64 = n := Nat.mod_eq_of_lt hn
  rw [this] at h
  omega
theorem zeros_is {n : Nat} (hn : n < 64) : (n + 1 + zeros n) % 64 = 56 := by
  unfold zeros
  have : n % 64 = n := Nat.mod_eq_of_lt hn
  rw [this]
  omega
theorem zeros_mod (n : Nat) : zeros (n % 64) = zeros n := by unfold zeros; rw [Nat.mod_mod]
theorem zeros_not' {n i : Nat} (h : i < zeros n) : (n + 1 + i) % 64 ≠ 56 := by
  have h1 := zeros_not (n := n % 64) (Nat.mod_lt _ (by omega)) (by rw [zeros_mod]; exact h)
  omega
theorem zeros_is' (n : Nat) : (n + 1 + zeros n) % 64 = 56 := by
  have h1 := zeros_is (n := n % 64) (Nat.mod_lt _ (by omega))
  rw [zeros_mod] at h1
  omega
theorem zeros_lt (n : Nat) : zeros n < 64 := Nat.mod_lt _ (by omega)
theorem tail_length (n : Nat) : (tail n).length = zeros n + 9 := by simp [tail, eight_length]
theorem pad_length (l : List UInt8) : (pad l).length = l.length + zeros l.length + 9 := by simp [pad, tail_length]; omega
theorem pad_mod (l : List UInt8) : (pad l).length % 64 = 0 := by rw [pad_length]; unfold zeros; omega


theorem ws_congr {m m' : Nat → UInt32} (h : ∀ t, t < 16 → m t = m' t) : ∀ t, ws m t = ws m' t
  | 0 => rfl
  | t + 1 => by
    simp only [ws, step, ws_congr h t]
    by_cases e : t < 16
    · rw [if_pos e, if_pos e, h t e]
    · rw [if_neg e, if_neg e]
theorem rounds_congr {m m' : Nat → UInt32} (h : ∀ t, t < 16 → m t = m' t) (s : St) : ∀ t, rounds m s t = rounds m' s t
  | 0 => rfl
  | t + 1 => by
    have e : wd m t = wd m' t := by unfold wd; rw [ws_congr h]
    simp only [rounds, e, rounds_congr h s t]
theorem word_append (l x : List UInt8) (at_ t : Nat) (h : at_ + 4 * t + 4 ≤ l.length) : word (l ++ x) at_ t = word l at_ t := by
  have e : ∀ i, i < l.length → (l ++ x).getD i 0 = l.getD i 0 := fun i hi => by
    rw [List.getD_eq_getElem?_getD, List.getD_eq_getElem?_getD, List.getElem?_append_left hi]
  unfold word
  rw [e _ (by omega), e _ (by omega), e _ (by omega), e _ (by omega)]
theorem blk_append (s : St) (l x : List UInt8) (at_ : Nat) (h : at_ + 64 ≤ l.length) : blk s (l ++ x) at_ = blk s l at_ := by
  unfold blk
  rw [rounds_congr (fun t ht => word_append l x at_ t (by omega)) s 64]
theorem blks_append (l x : List UInt8) (s : St) : ∀ n, 64 * n ≤ l.length → blks (l ++ x) s n = blks l s n
  | 0, _ => rfl
  | n + 1, h => by
    simp only [blks, blks_append l x s n (by omega)]
    exact blk_append _ _ _ _ (by omega)
end Sha

/- The bytes of a block of the grid, as plain lists: what they are, how they are read back. Plain facts. No condition. -/
namespace Go.Proofs.Ytekdcjaljjlemaa
theorem Sha.sum_len (l : List UInt8) : (Sha.sum l).length = 16 := by simp [Sha.sum, Sha.out]
/-! ### Numbers of four bytes, the lowest first -/
def le4 (n : Nat) : List UInt8 := [UInt8.ofNat (n % 256), UInt8.ofNat (n / 256 % 256), UInt8.ofNat (n / 65536 % 256), UInt8.ofNat (n / 16777216 % 256)]
def un4 (a b c d : UInt8) : Nat := a.toNat + 256 * b.toNat + 65536 * c.toNat + 16777216 * d.toNat
def at4 (l : List UInt8) (p : Nat) : Nat := un4 (l.getD p 0) (l.getD (p + 1) 0) (l.getD (p + 2) 0) (l.getD (p + 3) 0)
theorem le4_length (n : Nat) : (le4 n).length = 4 := rfl
theorem toNat_ofNat' (n : Nat) (h : n < 256) : (UInt8.ofNat n).toNat = n := UInt8.toNat_ofNat_of_lt' (by simpa [UInt8.size] using h)
theorem un4_lt (a b c d : UInt8) : un4 a b c d < 4294967296 := by
  have := a.toNat_lt; have := b.toNat_lt; have := c.toNat_lt; have := d.toNat_lt
  unfold un4; omega
theorem at4_lt (l : List UInt8) (p : Nat) : at4 l p < 4294967296 := un4_lt _ _ _ _
theorem un4_le4 (n : Nat) (h : n < 4294967296) : un4 (UInt8.ofNat (n % 256)) (UInt8.ofNat (n / 256 % 256)) (UInt8.ofNat (n / 65536 % 256)) (UInt8.ofNat (n / 16777216 % 256)) = n := by
  unfold un4
  rw [toNat_ofNat' _ (Nat.mod_lt _ (by omega)), toNat_ofNat' _ (Nat.mod_lt _ (by omega)), toNat_ofNat' _ (Nat.mod_lt _ (by omega)), toNat_ofNat' _ (Nat.mod_lt _ (by omega))]
  omega
theorem getD_app (a b : List UInt8) (k : Nat) : (a ++ b).getD (a.length + k) 0 = b.getD k 0 := by
  simp only [List.getD_eq_getElem?_getD]; rw [List.getElem?_append_right (by omega), Nat.add_sub_cancel_left]
theorem at4_app (a b : List UInt8) (p : Nat) : at4 (a ++ b) (a.length + p) = at4 b p := by
  unfold at4
  rw [Nat.add_assoc, Nat.add_assoc, Nat.add_assoc, getD_app, getD_app, getD_app, getD_app]
theorem at4_app' (a b : List UInt8) (p q : Nat) (h : q = a.length + p) : at4 (a ++ b) q = at4 b p := h ▸ at4_app a b p
theorem at4_le4 (n : Nat) (h : n < 4294967296) (r : List UInt8) : at4 (le4 n ++ r) 0 = n := by
  unfold at4 le4
  simp only [List.cons_append, List.nil_append]
  exact un4_le4 n h
/-! ### A block -/
abbrev RefT := Int × Int × Unit
abbrev GBT := Int × RefT × List RefT × List UInt8 × Unit
def refOk (r : RefT) : Bool := decide (1 ≤ r.1) && decide (r.1 ≤ 512) && decide (0 ≤ r.2.1) && decide (r.2.1 ≤ 1073741824)
def GB.kind (b : GBT) : Int := b.1
def GB.ref (b : GBT) : RefT := b.2.1
def GB.refs (b : GBT) : List RefT := b.2.2.1
def GB.body (b : GBT) : List UInt8 := b.2.2.2.1
def GB.ok (b : GBT) : Bool := decide (1 ≤ b.1) && decide (b.1 ≤ 15) && refOk b.2.1 && decide (b.2.2.1.length ≤ 16) && decide (b.2.2.2.1.length ≤ 860) && b.2.2.1.all refOk
def refBytes (r : RefT) : List UInt8 := le4 r.1.toNat ++ le4 r.2.1.toNat
def refsBytes (l : List RefT) : List UInt8 := l.flatMap refBytes
/-- What stands behind a block's seal. -/
def GB.head (b : GBT) : List UInt8 := le4 b.1.toNat ++ (le4 b.2.1.1.toNat ++ (le4 b.2.1.2.1.toNat ++ (le4 b.2.2.1.length ++ le4 b.2.2.2.1.length)))
def GB.tail (b : GBT) : List UInt8 := b.2.2.2.1 ++ List.replicate (860 - b.2.2.2.1.length) 0
def GB.rest (b : GBT) : List UInt8 := GB.head b ++ (refsBytes b.2.2.1 ++ (List.replicate (128 - 8 * b.2.2.1.length) 0 ++ GB.tail b))
def GB.bytes (b : GBT) : List UInt8 := Sha.sum (GB.rest b) ++ GB.rest b
theorem refsBytes_length (l : List RefT) : (refsBytes l).length = 8 * l.length := by
  induction l with
  | nil => rfl
  | cons r l ih => unfold refsBytes at *; rw [List.flatMap_cons, List.length_append, ih, List.length_cons]; simp [refBytes, le4_length]; omega
theorem GB.ok_spec {b : GBT} (h : GB.ok b = true) : (1 ≤ b.1 ∧ b.1 ≤ 15) ∧ refOk b.2.1 = true ∧ b.2.2.1.length ≤ 16 ∧ b.2.2.2.1.length ≤ 860 ∧ ∀ r ∈ b.2.2.1, refOk r = true := by
  simp only [GB.ok, Bool.and_eq_true, decide_eq_true_eq, List.all_eq_true] at h
  obtain ⟨⟨⟨⟨⟨h1, h2⟩, h3⟩, h4⟩, h5⟩, h6⟩ := h
  exact ⟨⟨h1, h2⟩, h3, h4, h5, h6⟩
theorem refOk_spec {r : RefT} (h : refOk r = true) : 1 ≤ r.1 ∧ r.1 ≤ 512 ∧ 0 ≤ r.2.1 ∧ r.2.1 ≤ 1073741824 := by
  simp only [refOk, Bool.and_eq_true, decide_eq_true_eq] at h
  exact ⟨h.1.1.1, h.1.1.2, h.1.2, h.2⟩
theorem GB.head_length (b : GBT) : (GB.head b).length = 20 := rfl
theorem GB.tail_length (b : GBT) (h : b.2.2.2.1.length ≤ 860) : (GB.tail b).length = 860 := by
  unfold GB.tail; rw [List.length_append, List.length_replicate]; omega
theorem GB.rest_length (b : GBT) (h1 : b.2.2.1.length ≤ 16) (h2 : b.2.2.2.1.length ≤ 860) : (GB.rest b).length = 1008 := by
  unfold GB.rest
  rw [List.length_append, List.length_append, List.length_append, GB.head_length, refsBytes_length, List.length_replicate, GB.tail_length b h2]; omega
theorem GB.bytes_length (b : GBT) (h1 : b.2.2.1.length ≤ 16) (h2 : b.2.2.2.1.length ≤ 860) : (GB.bytes b).length = 1024 := by
  unfold GB.bytes; rw [List.length_append, Sha.sum_len, GB.rest_length b h1 h2]
/-- What the bytes of a block say. -/
def GB.parse (raw : List UInt8) : GBT :=
  ((at4 raw 16 : Int), ((at4 raw 20 : Int), (at4 raw 24 : Int), ()), (List.range (at4 raw 28)).map (fun i => ((at4 raw (36 + 8 * i) : Int), (at4 raw (36 + 8 * i + 4) : Int), ())), (raw.drop 164).take (at4 raw 32), ())
def GB.none_ : GBT := (0, (0, 0, ()), [], [], ())
/-- Which block bytes are: the error's number, and the block. -/
def GB.read (raw : List UInt8) : Int × GBT :=
  if raw.length ≠ 1024 then (4, GB.none_)
  else if Sha.sum (raw.drop 16) ≠ raw.take 16 then (12, GB.none_)
  else if 16 < at4 raw 28 ∨ 860 < at4 raw 32 then (4, GB.none_)
  else if GB.ok (GB.parse raw) = true ∧ GB.rest (GB.parse raw) = raw.drop 16 then (0, GB.parse raw) else (4, GB.none_)
theorem at4_refs (l : List RefT) (r : List UInt8) (hok : ∀ x ∈ l, refOk x = true) : ∀ i, (h : i < l.length) → (at4 (refsBytes l ++ r) (8 * i) : Int) = l[i].1 ∧ (at4 (refsBytes l ++ r) (8 * i + 4) : Int) = l[i].2.1 := by
  induction l with
  | nil => intro i h; simp at h
  | cons x l ih =>
    intro i h
    have e : refsBytes (x :: l) ++ r = le4 x.1.toNat ++ (le4 x.2.1.toNat ++ (refsBytes l ++ r)) := by simp [refsBytes, refBytes]
    rw [e]
    obtain ⟨h1, h2, h3, h4⟩ := refOk_spec (hok x (by simp))
    cases i with
    | zero =>
      refine ⟨?_, ?_⟩
      · rw [Nat.mul_zero, at4_le4 _ (by omega)]; simp; omega
      · rw [at4_app' _ _ 0 _ (by simp [le4_length]), at4_le4 _ (by omega)]; simp; omega
    | succ i =>
      obtain ⟨e1, e2⟩ := ih (fun x hx => hok x (by simp [hx])) i (by simpa using h)
      refine ⟨?_, ?_⟩
      · rw [at4_app' _ _ (8 * i + 4) _ (by simp [le4_length]; omega), at4_app' _ _ (8 * i) _ (by simp [le4_length]; omega), e1]; simp
      · rw [at4_app' _ _ (8 * i + 8) _ (by simp [le4_length]; omega), at4_app' _ _ (8 * i + 4) _ (by simp [le4_length]; omega), e2]; simp
theorem GB.parse_bytes (b : GBT) (h : GB.ok b = true) : GB.parse (GB.bytes b) = b := by
  obtain ⟨⟨k1, k2⟩, hr, hn, hb, hall⟩ := GB.ok_spec h
  obtain ⟨r1, r2, r3, r4⟩ := refOk_spec hr
  obtain ⟨kind, ⟨addr, stamp, ⟨⟩⟩, refs, body, ⟨⟩⟩ := b
  simp only at k1 k2 r1 r2 r3 r4 hn hb hall
  have e0 : GB.bytes (kind, (addr, stamp, ()), refs, body, ()) = Sha.sum (GB.rest (kind, (addr, stamp, ()), refs, body, ())) ++ (le4 kind.toNat ++ (le4 addr.toNat ++ (le4 stamp.toNat ++ (le4 refs.length ++ (le4 body.length ++ (refsBytes refs ++ (List.replicate (128 - 8 * refs.length) 0 ++ (body ++ List.replicate (860 - body.length) 0)))))))) := by
    simp [GB.bytes, GB.rest, GB.head, GB.tail]
  generalize Sha.sum (GB.rest (kind, (addr, stamp, ()), refs, body, ())) = S at e0
  have hS : ∃ S : List UInt8, S.length = 16 ∧ GB.bytes (kind, (addr, stamp, ()), refs, body, ()) = S ++ (le4 kind.toNat ++ (le4 addr.toNat ++ (le4 stamp.toNat ++ (le4 refs.length ++ (le4 body.length ++ (refsBytes refs ++ (List.replicate (128 - 8 * refs.length) 0 ++ (body ++ List.replicate (860 - body.length) 0)))))))) :=
    ⟨Sha.sum (GB.rest (kind, (addr, stamp, ()), refs, body, ())), Sha.sum_len _, by simp [GB.bytes, GB.rest, GB.head, GB.tail]⟩
  clear e0 S
  obtain ⟨S, hS, e⟩ := hS
  rw [e]
  have a16 : at4 (S ++ (le4 kind.toNat ++ (le4 addr.toNat ++ (le4 stamp.toNat ++ (le4 refs.length ++ (le4 body.length ++ (refsBytes refs ++ (List.replicate (128 - 8 * refs.length) 0 ++ (body ++ List.replicate (860 - body.length) 0))))))))) 16 = kind.toNat := by
    rw [at4_app' _ _ 0 _ (by omega), at4_le4 _ (by omega)]
  have a20 : at4 (S ++ (le4 kind.toNat ++ (le4 addr.toNat ++ (le4 stamp.toNat ++ (le4 refs.length ++ (le4 body.length ++ (refsBytes refs ++ (List.replicate (128 - 8 * refs.length) 0 ++ (body ++ List.replicate (860 - body.length) 0))))))))) 20 = addr.toNat := by
    rw [at4_app' _ _ 4 _ (by omega), at4_app' _ _ 0 _ (by simp [le4_length]), at4_le4 _ (by omega)]
  have a24 : at4 (S ++ (le4 kind.toNat ++ (le4 addr.toNat ++ (le4 stamp.toNat ++ (le4 refs.length ++ (le4 body.length ++ (refsBytes refs ++ (List.replicate (128 - 8 * refs.length) 0 ++ (body ++ List.replicate (860 - body.length) 0))))))))) 24 = stamp.toNat := by
    rw [at4_app' _ _ 8 _ (by omega), at4_app' _ _ 4 _ (by simp [le4_length]), at4_app' _ _ 0 _ (by simp [le4_length]), at4_le4 _ (by omega)]
  have a28 : at4 (S ++ (le4 kind.toNat ++ (le4 addr.toNat ++ (le4 stamp.toNat ++ (le4 refs.length ++ (le4 body.length ++ (refsBytes refs ++ (List.replicate (128 - 8 * refs.length) 0 ++ (body ++ List.replicate (860 - body.length) 0))))))))) 28 = refs.length := by
    rw [at4_app' _ _ 12 _ (by omega), at4_app' _ _ 8 _ (by simp [le4_length]), at4_app' _ _ 4 _ (by simp [le4_length]), at4_app' _ _ 0 _ (by simp [le4_length]), at4_le4 _ (by omega)]
  have a32 : at4 (S ++ (le4 kind.toNat ++ (le4 addr.toNat ++ (le4 stamp.toNat ++ (le4 refs.length ++ (le4 body.length ++ (refsBytes refs ++ (List.replicate (128 - 8 * refs.length) 0 ++ (body ++ List.replicate (860 - body.length) 0))))))))) 32 = body.length := by
    rw [at4_app' _ _ 16 _ (by omega), at4_app' _ _ 12 _ (by simp [le4_length]), at4_app' _ _ 8 _ (by simp [le4_length]), at4_app' _ _ 4 _ (by simp [le4_length]), at4_app' _ _ 0 _ (by simp [le4_length]), at4_le4 _ (by omega)]
  have hsplit : S ++ (le4 kind.toNat ++ (le4 addr.toNat ++ (le4 stamp.toNat ++ (le4 refs.length ++ (le4 body.length ++ (refsBytes refs ++ (List.replicate (128 - 8 * refs.length) 0 ++ (body ++ List.replicate (860 - body.length) 0)))))))) = (S ++ GB.head (kind, (addr, stamp, ()), refs, body, ())) ++ (refsBytes refs ++ (List.replicate (128 - 8 * refs.length) 0 ++ (body ++ List.replicate (860 - body.length) 0))) := by
    simp [GB.head]
  have hpre : (S ++ GB.head (kind, (addr, stamp, ()), refs, body, ())).length = 36 := by rw [List.length_append, hS]; rfl
  have aref : ∀ i, (h : i < refs.length) → ∀ j, j < 8 → at4 (S ++ (le4 kind.toNat ++ (le4 addr.toNat ++ (le4 stamp.toNat ++ (le4 refs.length ++ (le4 body.length ++ (refsBytes refs ++ (List.replicate (128 - 8 * refs.length) 0 ++ (body ++ List.replicate (860 - body.length) 0))))))))) (36 + 8 * i + j) = at4 (refsBytes refs ++ (List.replicate (128 - 8 * refs.length) 0 ++ (body ++ List.replicate (860 - body.length) 0))) (8 * i + j) := by
    intro i h j hj
    rw [hsplit, at4_app' _ _ (8 * i + j) _ (by rw [hpre]; omega)]
  unfold GB.parse
  rw [a16, a20, a24, a28, a32]
  have hrefs : (List.range refs.length).map (fun i => ((at4 (S ++ (le4 kind.toNat ++ (le4 addr.toNat ++ (le4 stamp.toNat ++ (le4 refs.length ++ (le4 body.length ++ (refsBytes refs ++ (List.replicate (128 - 8 * refs.length) 0 ++ (body ++ List.replicate (860 - body.length) 0))))))))) (36 + 8 * i) : Int), (at4 (S ++ (le4 kind.toNat ++ (le4 addr.toNat ++ (le4 stamp.toNat ++ (le4 refs.length ++ (le4 body.length ++ (refsBytes refs ++ (List.replicate (128 - 8 * refs.length) 0 ++ (body ++ List.replicate (860 - body.length) 0))))))))) (36 + 8 * i + 4) : Int), ())) = refs := by
    apply List.ext_getElem
    · simp
    · intro i h1 h2
      simp only [List.getElem_map, List.getElem_range]
      obtain ⟨e1, e2⟩ := at4_refs refs (List.replicate (128 - 8 * refs.length) 0 ++ (body ++ List.replicate (860 - body.length) 0)) hall i h2
      have f1 := aref i h2 0 (by omega)
      have f2 := aref i h2 4 (by omega)
      rw [Nat.add_zero] at f1
      rw [Nat.add_zero] at f1
      rw [f1, f2, e1, e2]
  rw [hrefs]
  have hbody : ((S ++ (le4 kind.toNat ++ (le4 addr.toNat ++ (le4 stamp.toNat ++ (le4 refs.length ++ (le4 body.length ++ (refsBytes refs ++ (List.replicate (128 - 8 * refs.length) 0 ++ (body ++ List.replicate (860 - body.length) 0))))))))).drop 164).take body.length = body := by
    have e1 : S ++ (le4 kind.toNat ++ (le4 addr.toNat ++ (le4 stamp.toNat ++ (le4 refs.length ++ (le4 body.length ++ (refsBytes refs ++ (List.replicate (128 - 8 * refs.length) 0 ++ (body ++ List.replicate (860 - body.length) 0)))))))) = ((S ++ GB.head (kind, (addr, stamp, ()), refs, body, ())) ++ (refsBytes refs ++ List.replicate (128 - 8 * refs.length) 0)) ++ (body ++ List.replicate (860 - body.length) 0) := by
      rw [hsplit]; simp
    have hl : ((S ++ GB.head (kind, (addr, stamp, ()), refs, body, ())) ++ (refsBytes refs ++ List.replicate (128 - 8 * refs.length) 0)).length = 164 := by
      rw [List.length_append, hpre, List.length_append, refsBytes_length, List.length_replicate]; omega
    rw [e1, ← hl, List.drop_left, List.take_left]
  rw [hbody]
  simp only [Prod.mk.injEq, and_true]
  omega
theorem GB.read_bytes (b : GBT) (h : GB.ok b = true) : GB.read (GB.bytes b) = (0, b) := by
  obtain ⟨_, _, hn, hb, _⟩ := GB.ok_spec h
  have hp := GB.parse_bytes b h
  have e1 : (GB.bytes b).drop 16 = GB.rest b := by unfold GB.bytes; rw [← Sha.sum_len (GB.rest b), List.drop_left]
  have e2 : (GB.bytes b).take 16 = Sha.sum (GB.rest b) := by unfold GB.bytes; rw [← Sha.sum_len (GB.rest b), List.take_left]
  have e3 : at4 (GB.bytes b) 28 = b.2.2.1.length := by
    have := congrArg (fun x : GBT => x.2.2.1.length) hp
    simpa [GB.parse] using this
  have e4 : at4 (GB.bytes b) 32 = b.2.2.2.1.length ∨ at4 (GB.bytes b) 32 > 860 := by
    have := congrArg (fun x : GBT => x.2.2.2.1.length) hp
    simp only [GB.parse, List.length_take, List.length_drop, GB.bytes_length b hn hb] at this
    omega
  have e5 : at4 (GB.bytes b) 32 = b.2.2.2.1.length := by
    have hh : GB.bytes b = (Sha.sum (GB.rest b) ++ (le4 b.1.toNat ++ (le4 b.2.1.1.toNat ++ (le4 b.2.1.2.1.toNat ++ le4 b.2.2.1.length)))) ++ (le4 b.2.2.2.1.length ++ (refsBytes b.2.2.1 ++ (List.replicate (128 - 8 * b.2.2.1.length) 0 ++ GB.tail b))) := by
      conv => lhs; unfold GB.bytes
      conv => lhs; rhs; unfold GB.rest GB.head
      simp
    rw [hh, at4_app' _ _ 0 _ (by simp [le4_length, Sha.sum_len]), at4_le4 _ (by omega)]
  clear e4
  unfold GB.read
  rw [if_neg (by rw [GB.bytes_length b hn hb]; simp), e1, e2, if_neg (by simp), e3, e5, if_neg (by omega), hp, if_pos ⟨h, rfl⟩]
theorem GB.read_cases (raw : List UInt8) : (GB.read raw).1 = 4 ∧ (GB.read raw).2 = GB.none_ ∨ (GB.read raw).1 = 12 ∧ (GB.read raw).2 = GB.none_ ∨
    GB.read raw = (0, GB.parse raw) ∧ GB.ok (GB.parse raw) = true ∧ GB.bytes (GB.parse raw) = raw := by
  unfold GB.read
  by_cases h1 : raw.length ≠ 1024
  · rw [if_pos h1]; exact .inl ⟨rfl, rfl⟩
  · rw [if_neg h1]
    by_cases h2 : Sha.sum (raw.drop 16) ≠ raw.take 16
    · rw [if_pos h2]; exact .inr (.inl ⟨rfl, rfl⟩)
    · rw [if_neg h2]
      by_cases h3 : 16 < at4 raw 28 ∨ 860 < at4 raw 32
      · rw [if_pos h3]; exact .inl ⟨rfl, rfl⟩
      · rw [if_neg h3]
        by_cases h4 : GB.ok (GB.parse raw) = true ∧ GB.rest (GB.parse raw) = raw.drop 16
        · rw [if_pos h4]
          refine .inr (.inr ⟨rfl, h4.1, ?_⟩)
          have h2' : Sha.sum (raw.drop 16) = raw.take 16 := by simpa using h2
          unfold GB.bytes
          rw [h4.2, h2', List.take_append_drop]
        · rw [if_neg h4]; exact .inl ⟨rfl, rfl⟩
end Go.Proofs.Ytekdcjaljjlemaa

/- A message's header, its bytes, how they are read back. Plain facts. No condition. -/
namespace Go.Proofs.Ytekdcjaljjlemaa
/-! ### Numbers of eight bytes, the lowest first -/
def le8 (n : Nat) : List UInt8 := le4 (n % 4294967296) ++ le4 (n / 4294967296)
def at8 (l : List UInt8) (p : Nat) : Nat := at4 l p + 4294967296 * at4 l (p + 4)
theorem le8_length (n : Nat) : (le8 n).length = 8 := rfl
theorem at8_lt (l : List UInt8) (p : Nat) : at8 l p < 18446744073709551616 := by
  have := at4_lt l p; have := at4_lt l (p + 4); unfold at8; omega
theorem at8_app' (a b : List UInt8) (p q : Nat) (h : q = a.length + p) : at8 (a ++ b) q = at8 b p := by
  unfold at8; rw [at4_app' a b p q h, at4_app' a b (p + 4) (q + 4) (by omega)]
theorem at8_le8 (n : Nat) (h : n < 18446744073709551616) (r : List UInt8) : at8 (le8 n ++ r) 0 = n := by
  unfold at8 le8
  rw [List.append_assoc, at4_le4 _ (Nat.mod_lt _ (by omega)), at4_app' _ _ 0 _ (by simp [le4_length]), at4_le4 _ (by omega)]
  omega
/-! ### A header: sixteen numbers: Command, Replica, Size, View, LogView, Op, Parent, Commit, Mark; Client (high, low); Request, Operation; Time; Address, Stamp -/
abbrev HdF := Nat → Int
def tenI : List Nat := [3, 4, 5, 6, 7, 8, 11, 12, 14, 15]
def numOk (x : Int) : Bool := decide (0 ≤ x) && decide (x ≤ 1073741824)
def Hd.ok (f : HdF) : Bool := decide (1 ≤ f 0) && decide (f 0 ≤ 31) && decide (0 ≤ f 1) && decide (f 1 ≤ 6) && decide (0 ≤ f 2) && decide (f 2 ≤ 1024) && tenI.all fun i => numOk (f i)
/-- The numbers are what Go's types hold. -/
def Hd.in_ (f : HdF) : Prop := 0 ≤ f 9 ∧ f 9 < 18446744073709551616 ∧ 0 ≤ f 10 ∧ f 10 < 18446744073709551616 ∧ 0 ≤ f 13 ∧ f 13 < 18446744073709551616
def four_ (f : HdF) (l : List Nat) : List UInt8 := l.flatMap fun i => le4 (f i).toNat
/-- The fields' bytes. -/
def Hd.mid (f : HdF) : List UInt8 := four_ f [0, 1, 2, 3, 4, 5, 6, 7, 8] ++ (le8 (f 10).toNat ++ (le8 (f 9).toNat ++ (four_ f [11, 12] ++ (le8 (f 13).toNat ++ four_ f [14, 15]))))
/-- What stands behind a header's seal, s being the body's. -/
def Hd.rest (f : HdF) (s : List UInt8) : List UInt8 := s ++ (Hd.mid f ++ List.replicate 148 0)
def Hd.head (f : HdF) (s : List UInt8) : List UInt8 := Sha.sum (Hd.rest f s) ++ Hd.rest f s
def Hd.bytes (f : HdF) (body : List UInt8) : List UInt8 := Hd.head f (Sha.sum body) ++ body
theorem Hd.mid_length (f : HdF) : (Hd.mid f).length = 76 := rfl
theorem Hd.rest_length (f : HdF) (s : List UInt8) (hs : s.length = 16) : (Hd.rest f s).length = 240 := by
  unfold Hd.rest; rw [List.length_append, List.length_append, Hd.mid_length, List.length_replicate, hs]
theorem Hd.head_length (f : HdF) (s : List UInt8) (hs : s.length = 16) : (Hd.head f s).length = 256 := by
  unfold Hd.head; rw [List.length_append, Sha.sum_len, Hd.rest_length f s hs]
/-- What the bytes of a header say. -/
def Hd.parse (r : List UInt8) : HdF := fun i =>
  if i < 9 then at4 r (32 + 4 * i) else if i = 9 then at8 r 76 else if i = 10 then at8 r 68 else if i = 11 then at4 r 84 else if i = 12 then at4 r 88 else if i = 13 then at8 r 92 else if i = 14 then at4 r 100 else at4 r 104
theorem Hd.parse_in (r : List UInt8) : Hd.in_ (Hd.parse r) := by
  have h1 := at8_lt r 76; have h2 := at8_lt r 68; have h3 := at8_lt r 92
  unfold Hd.in_ Hd.parse
  simp
  omega
/-- Two headers are the same. -/
def Hd.same (f g : HdF) : Prop := ∀ i, i < 16 → f i = g i
theorem Hd.ok_spec {f : HdF} (h : Hd.ok f = true) : (1 ≤ f 0 ∧ f 0 ≤ 31 ∧ 0 ≤ f 1 ∧ f 1 ≤ 6 ∧ 0 ≤ f 2 ∧ f 2 ≤ 1024) ∧ ∀ i ∈ tenI, 0 ≤ f i ∧ f i ≤ 1073741824 := by
  simp only [Hd.ok, Bool.and_eq_true, decide_eq_true_eq, List.all_eq_true, numOk] at h
  exact ⟨⟨h.1.1.1.1.1.1, h.1.1.1.1.1.2, h.1.1.1.1.2, h.1.1.1.2, h.1.1.2, h.1.2⟩, h.2⟩
theorem Hd.ok_nat {f : HdF} (h : Hd.ok f = true) : ∀ i ∈ [0, 1, 2, 3, 4, 5, 6, 7, 8, 11, 12, 14, 15], 0 ≤ f i ∧ f i < 4294967296 := by
  obtain ⟨h1, h2⟩ := Hd.ok_spec h
  intro i hi
  by_cases h3 : i < 3
  · have : i = 0 ∨ i = 1 ∨ i = 2 := by omega
    rcases this with rfl | rfl | rfl <;> omega
  · have := h2 i (by simp [tenI] at hi ⊢; omega)
    omega
theorem Hd.same_ok {f g : HdF} (h : Hd.same f g) : Hd.ok f = Hd.ok g := by
  unfold Hd.ok
  rw [h 0 (by omega), h 1 (by omega), h 2 (by omega)]
  congr 1
  simp only [tenI, List.all_cons, List.all_nil]
  rw [h 3 (by omega), h 4 (by omega), h 5 (by omega), h 6 (by omega), h 7 (by omega), h 8 (by omega), h 11 (by omega), h 12 (by omega), h 14 (by omega), h 15 (by omega)]
theorem Hd.same_mid {f g : HdF} (h : Hd.same f g) : Hd.mid f = Hd.mid g := by
  unfold Hd.mid four_
  simp only [List.flatMap_cons, List.flatMap_nil]
  rw [h 0 (by omega), h 1 (by omega), h 2 (by omega), h 3 (by omega), h 4 (by omega), h 5 (by omega), h 6 (by omega), h 7 (by omega), h 8 (by omega), h 9 (by omega), h 10 (by omega), h 11 (by omega), h 12 (by omega), h 13 (by omega), h 14 (by omega), h 15 (by omega)]
theorem at4_four (f : HdF) (l : List Nat) (r : List UInt8) (j i : Nat) (hj : l[j]? = some i) (hf : 0 ≤ f i ∧ f i < 4294967296) : (at4 (four_ f l ++ r) (4 * j) : Int) = f i := by
  induction l generalizing j with
  | nil => simp at hj
  | cons x l ih =>
    have e : four_ f (x :: l) ++ r = le4 (f x).toNat ++ (four_ f l ++ r) := by simp [four_]
    rw [e]
    cases j with
    | zero =>
      simp only [List.getElem?_cons_zero, Option.some.injEq] at hj
      subst hj
      rw [Nat.mul_zero, at4_le4 _ (by omega)]; omega
    | succ j =>
      simp only [List.getElem?_cons_succ] at hj
      rw [at4_app' _ _ (4 * j) _ (by rw [le4_length]; omega)]
      exact ih j hj
theorem four_length (f : HdF) (l : List Nat) : (four_ f l).length = 4 * l.length := by
  induction l with
  | nil => rfl
  | cons x l ih => unfold four_ at *; rw [List.flatMap_cons, List.length_append, ih, le4_length, List.length_cons]; omega
/-- What was written is read. -/
theorem Hd.parse_head (f : HdF) (S s t : List UInt8) (hS : S.length = 16) (hs : s.length = 16) (hok : Hd.ok f = true) (hin : Hd.in_ f) : Hd.same (Hd.parse (S ++ (s ++ (Hd.mid f ++ t)))) f := by
  have hn := Hd.ok_nat hok
  have h32 : (S ++ s).length = 32 := by rw [List.length_append, hS, hs]
  rw [← List.append_assoc]
  generalize S ++ s = Q at h32
  have e : Q ++ (Hd.mid f ++ t) = Q ++ (four_ f [0, 1, 2, 3, 4, 5, 6, 7, 8] ++ (le8 (f 10).toNat ++ (le8 (f 9).toNat ++ (four_ f [11, 12] ++ (le8 (f 13).toNat ++ (four_ f [14, 15] ++ t)))))) := by simp [Hd.mid]
  rw [e]
  obtain ⟨i1, i2, i3, i4, i5, i6⟩ := hin
  have l9 : (four_ f [0, 1, 2, 3, 4, 5, 6, 7, 8]).length = 36 := rfl
  have l2 : (four_ f [11, 12]).length = 8 := rfl
  have l2' : (four_ f [14, 15]).length = 8 := rfl
  intro i hi
  unfold Hd.parse
  by_cases h9 : i < 9
  · rw [if_pos h9, at4_app' _ _ (4 * i) _ (by omega)]
    exact at4_four f _ _ i i (by
      have : i = 0 ∨ i = 1 ∨ i = 2 ∨ i = 3 ∨ i = 4 ∨ i = 5 ∨ i = 6 ∨ i = 7 ∨ i = 8 := by omega
      rcases this with rfl | rfl | rfl | rfl | rfl | rfl | rfl | rfl | rfl <;> rfl) (hn i (by
      have : i = 0 ∨ i = 1 ∨ i = 2 ∨ i = 3 ∨ i = 4 ∨ i = 5 ∨ i = 6 ∨ i = 7 ∨ i = 8 := by omega
      simp; omega))
  · rw [if_neg h9]
    have : i = 9 ∨ i = 10 ∨ i = 11 ∨ i = 12 ∨ i = 13 ∨ i = 14 ∨ i = 15 := by omega
    rcases this with rfl | rfl | rfl | rfl | rfl | rfl | rfl
    · rw [if_pos rfl, at8_app' _ _ 44 _ (by omega), at8_app' _ _ 8 _ (by omega), at8_app' _ _ 0 _ (by rw [le8_length]), at8_le8 _ (by omega)]; omega
    · rw [if_neg (by omega), if_pos rfl, at8_app' _ _ 36 _ (by omega), at8_app' _ _ 0 _ (by omega), at8_le8 _ (by omega)]; omega
    · simp only [show ¬ (11 = 9) by omega, show ¬ (11 = 10) by omega, if_false, if_true]
      rw [at4_app' _ _ 52 _ (by omega), at4_app' _ _ 16 _ (by omega), at4_app' _ _ 8 _ (by rw [le8_length]), at4_app' _ _ 0 _ (by rw [le8_length])]
      exact at4_four f [11, 12] _ 0 11 rfl (hn 11 (by simp))
    · simp only [show ¬ (12 = 9) by omega, show ¬ (12 = 10) by omega, show ¬ (12 = 11) by omega, if_false, if_true]
      rw [at4_app' _ _ 56 _ (by omega), at4_app' _ _ 20 _ (by omega), at4_app' _ _ 12 _ (by rw [le8_length]), at4_app' _ _ 4 _ (by rw [le8_length])]
      exact at4_four f [11, 12] _ 1 12 rfl (hn 12 (by simp))
    · simp only [show ¬ (13 = 9) by omega, show ¬ (13 = 10) by omega, show ¬ (13 = 11) by omega, show ¬ (13 = 12) by omega, if_false, if_true]
      rw [at8_app' _ _ 60 _ (by omega), at8_app' _ _ 24 _ (by omega), at8_app' _ _ 16 _ (by rw [le8_length]), at8_app' _ _ 8 _ (by rw [le8_length]), at8_app' _ _ 0 _ (by rw [l2]), at8_le8 _ (by omega)]; omega
    · simp only [show ¬ (14 = 9) by omega, show ¬ (14 = 10) by omega, show ¬ (14 = 11) by omega, show ¬ (14 = 12) by omega, show ¬ (14 = 13) by omega, if_false, if_true]
      rw [at4_app' _ _ 68 _ (by omega), at4_app' _ _ 32 _ (by omega), at4_app' _ _ 24 _ (by rw [le8_length]), at4_app' _ _ 16 _ (by rw [le8_length]), at4_app' _ _ 8 _ (by rw [l2]), at4_app' _ _ 0 _ (by rw [le8_length])]
      exact at4_four f [14, 15] _ 0 14 rfl (hn 14 (by simp))
    · simp only [show ¬ (15 = 9) by omega, show ¬ (15 = 10) by omega, show ¬ (15 = 11) by omega, show ¬ (15 = 12) by omega, show ¬ (15 = 13) by omega, show ¬ (15 = 14) by omega, if_false]
      rw [at4_app' _ _ 72 _ (by omega), at4_app' _ _ 36 _ (by omega), at4_app' _ _ 28 _ (by rw [le8_length]), at4_app' _ _ 20 _ (by rw [le8_length]), at4_app' _ _ 12 _ (by rw [l2]), at4_app' _ _ 4 _ (by rw [le8_length])]
      exact at4_four f [14, 15] _ 1 15 rfl (hn 15 (by simp))
/-! ### Which header, which message bytes are -/
def Hd.none_ : HdF := fun _ => 0
def Hd.read (r : List UInt8) : Int × HdF :=
  if r.length ≠ 256 then (4, Hd.none_)
  else if Sha.sum (r.drop 16) ≠ r.take 16 then (12, Hd.none_)
  else if Hd.ok (Hd.parse r) = true ∧ Hd.rest (Hd.parse r) ((r.drop 16).take 16) = r.drop 16 then (0, Hd.parse r) else (4, Hd.none_)
def Msg.read (r : List UInt8) : Int × HdF × List UInt8 :=
  if r.length < 256 then (4, Hd.none_, [])
  else if (Hd.read (r.take 256)).1 ≠ 0 then ((Hd.read (r.take 256)).1, Hd.none_, [])
  else if ((r.length - 256 : Nat) : Int) ≠ Hd.parse (r.take 256) 2 then (4, Hd.none_, [])
  else if Sha.sum (r.drop 256) ≠ (r.drop 16).take 16 then (12, Hd.none_, []) else (0, Hd.parse (r.take 256), r.drop 256)
theorem Hd.read_cases (r : List UInt8) : (Hd.read r = (4, Hd.none_) ∨ Hd.read r = (12, Hd.none_)) ∨ (Hd.read r = (0, Hd.parse r) ∧ r.length = 256 ∧ Hd.ok (Hd.parse r) = true ∧ Hd.head (Hd.parse r) ((r.drop 16).take 16) = r) := by
  unfold Hd.read
  by_cases h1 : r.length ≠ 256
  · rw [if_pos h1]; exact .inl (.inl rfl)
  rw [if_neg h1]
  by_cases h2 : Sha.sum (r.drop 16) ≠ r.take 16
  · rw [if_pos h2]; exact .inl (.inr rfl)
  rw [if_neg h2]
  by_cases h3 : Hd.ok (Hd.parse r) = true ∧ Hd.rest (Hd.parse r) ((r.drop 16).take 16) = r.drop 16
  · rw [if_pos h3]
    refine .inr ⟨rfl, by simpa using h1, h3.1, ?_⟩
    unfold Hd.head
    rw [h3.2, show Sha.sum (r.drop 16) = r.take 16 by simpa using h2, List.take_append_drop]
  · rw [if_neg h3]; exact .inl (.inl rfl)
theorem Hd.read_head (f : HdF) (s : List UInt8) (hs : s.length = 16) (hok : Hd.ok f = true) (hin : Hd.in_ f) : (Hd.read (Hd.head f s)).1 = 0 ∧ Hd.same (Hd.read (Hd.head f s)).2 f := by
  have hsame : Hd.same (Hd.parse (Hd.head f s)) f := Hd.parse_head f _ s _ (Sha.sum_len _) hs hok hin
  have e1 : (Hd.head f s).drop 16 = Hd.rest f s := by unfold Hd.head; rw [← Sha.sum_len (Hd.rest f s), List.drop_left]
  have e2 : (Hd.head f s).take 16 = Sha.sum (Hd.rest f s) := by unfold Hd.head; rw [← Sha.sum_len (Hd.rest f s), List.take_left]
  have e3 : (Hd.rest f s).take 16 = s := by unfold Hd.rest; rw [← hs, List.take_left]
  have e4 : Hd.rest (Hd.parse (Hd.head f s)) s = Hd.rest f s := by unfold Hd.rest; rw [Hd.same_mid hsame]
  unfold Hd.read
  rw [if_neg (by rw [Hd.head_length f s hs]; simp), e1, e2, if_neg (by simp), e3, e4, if_pos ⟨by rw [Hd.same_ok hsame]; exact hok, rfl⟩]
  exact ⟨rfl, hsame⟩
end Go.Proofs.Ytekdcjaljjlemaa

/- Loads of whole arrays and structs out of the middle of a block. Plain facts. Condition: the cells are known. -/
namespace Go.Proofs.Ytekdcjaljjlemaa
open Go.RowKit
/-- A load of a whole array or struct out of the middle of a block. -/
theorem wpList_load_mid {P : Program} {w : World} {Q : Exit → Act → World → Prop} {ops : Array Oper} {rest : List Oper} {o : Oper} {a : Act} {b off : Nat} {cs : List Value} (hb : w.rangeAt b off cs) (hgd : o.guard = none) (ty : TypeId) (x : Operand) (ho : o.op = .load ty x)
    (hx : a.eval x = .pointer (some ⟨b, off, none⟩)) (d : TypeDesc) (hu : P.underlying ty = some d) (hd : d.isRow = true) {n : Nat} (hi : (P.info? ty).map (·.size) = some n) (hn : cs.length = n)
    (h : wpList P ops Q rest (a.put o.dst (.agg cs.toArray)) w) : wpList P ops Q (o :: rest) a w :=
  wpList_run (.agg cs.toArray) hgd (by
    unfold execOp
    simp only [ho, hx, Instr.loadAt, Instr.sureAddr, Sem.run_bind, Sem.run_pure, Result.andThen_ok, run_loadVar_mid w b off ty cs d hb hu hd (hn ▸ hi)]) h
theorem range2 {w : World} {b off : Nat} {u v : Value} (h1 : w.cell? ⟨b, off, none⟩ = some u) (h2 : w.cell? ⟨b, off + 1, none⟩ = some v) : w.rangeAt b off [u, v] := fun j x hx => by
  match j with
  | 0 => simp at hx; subst hx; exact h1
  | 1 => simp at hx; subst hx; exact h2
theorem Blk.range {w : World} {b : Nat} {t : TypeId} {cs : Array Value} (h : Blk w b t cs) (o : Nat) (l : List Value) (hl : ∀ j v, l[j]? = some v → cs[o + j]? = some v) : w.rangeAt b o l := fun j v hv => h.at_ (o + j) (hl j v hv)
end Go.Proofs.Ytekdcjaljjlemaa

/- A region that draws its order: a head whose operations, calls among them, yield one value in every world of a class and stay in the class, and behind it a few operations in one forced order. Plain facts over any program. No condition. -/
namespace Go
section
variable {P : Program} {ops : Array Oper} {md : Region.Mode} {C : World → Prop} {n : Nat}

/-! The head 'hs' and the tail 'ts' are told by lists of places; others have come up before. -/
def Region.linkB (md : Region.Mode) (ops : Array Oper) : List Nat → Bool
  | t :: t' :: r => Region.waitsFor md ops t' t && Region.linkB md ops (t' :: r)
  | _ => true
/-- Each place of the head is waited for by a later one of the head, or by the tail's first. -/
def Region.sinkL (md : Region.Mode) (ops : Array Oper) (hs : List Nat) (t : Nat) : Bool := hs.all fun i => (t :: hs).any fun j => decide (i < j) && Region.waitsFor md ops j i
/-- What has come up is closed under what it waits for; the tail has not come up. -/
structure ListInv (md : Region.Mode) (ops : Array Oper) (hs ts : List Nat) (s : Array Bool) : Prop where
  size : s.size = ops.size
  closed : ∀ j oj, ops[j]? = some oj → s.getD j false = true → ∀ e ∈ oj.after, Region.binds md e = true → s.getD e.on false = true
  tail : ∀ t ∈ ts, s.getD t true = false
  cover : ∀ j, j < ops.size → s.getD j true = false → j ∈ hs ∨ j ∈ ts
theorem ListInv.set {hs ts : List Nat} {s : Array Bool} {i : Nat} (inv : ListInv md ops hs ts s) (hi : i ∈ Region.ready md ops s) (hn : i ∉ ts) : ListInv md ops hs ts (s.setIfInBounds i true) := by
  obtain ⟨_, oi, hoi, hall⟩ := mem_ready.1 hi
  refine ⟨by simp [inv.size], fun j oj hj hl e he hb => ?_, fun t ht => ?_, fun j hj hu => ?_⟩
  · by_cases hij : i = j
    · have e2 : oj = oi := Option.some.inj (hj.symm.trans (hij ▸ hoi))
      rw [e2] at he
      exact getD_set_true (hall e he hb)
    · rw [getD_set_ne false hij] at hl
      exact getD_set_true (inv.closed j oj hj hl e he hb)
  · have hne : i ≠ t := fun e => hn (e ▸ ht)
    rw [getD_set_ne true hne]; exact inv.tail t ht
  · by_cases hij : i = j
    · rw [← hij] at hj hu
      have : i < s.size := by rw [inv.size]; exact hj
      simp [this] at hu
    · rw [getD_set_ne true hij] at hu; exact inv.cover j hj hu
/-- As long as one of the head has not come up none of the tail is ready. -/
theorem tail_late {hs : List Nat} {t0 : Nat} {ts : List Nat} {s : Array Bool} (hsk : Region.sinkL md ops hs t0 = true) (hlk : Region.linkB md ops (t0 :: ts) = true)
    (hlt : ∀ i ∈ hs, i < ops.size) (inv : ListInv md ops hs (t0 :: ts) s) :
    ∀ (d i : Nat), ops.size - i = d → i ∈ hs → s.getD i true = false → ∀ t ∈ t0 :: ts, t ∉ Region.ready md ops s := by
  intro d
  induction d using Nat.strongRecOn with
  | _ d ih =>
    intro i hd hi hun t ht hr
    by_cases e0 : t = t0
    · have h1 := List.all_eq_true.1 hsk i hi
      obtain ⟨j, hj, hj2⟩ := List.any_eq_true.1 h1
      simp only [Bool.and_eq_true, decide_eq_true_eq] at hj2
      obtain ⟨oj, hoj, e, he, hb, hon⟩ := Region.waitsFor_spec hj2.2
      have hjlt : j < ops.size := (Array.getElem?_eq_some_iff.1 hoj).1
      by_cases ejt : j = t0
      · obtain ⟨_, o2, ho2, hall⟩ := mem_ready.1 hr
        rw [e0, ← ejt] at ho2
        have : o2 = oj := Option.some.inj (ho2.symm.trans hoj)
        rw [this] at hall
        have h2 := hall e he hb
        rw [hon, getD_both hun] at h2
        cases h2
      · have hjh : j ∈ hs := by
          rcases List.mem_cons.1 hj with h | h
          · exact absurd h ejt
          · exact h
        cases hl : s.getD j false with
        | true =>
          have h2 := inv.closed j oj hoj hl e he hb
          rw [hon, getD_both hun] at h2
          cases h2
        | false =>
          have hjs : j < s.size := by rw [inv.size]; exact hjlt
          exact ih (ops.size - j) (by have := hlt i hi; omega) j rfl hjh (getD_in hjs hl) t ht hr
    · have hts : t ∈ ts := by
        rcases List.mem_cons.1 ht with h | h
        · exact absurd h e0
        · exact h
      have key : ∀ (l : List Nat) (p : Nat), Region.linkB md ops (p :: l) = true → t ∈ l → ∃ q, (q = p ∨ q ∈ l) ∧ Region.waitsFor md ops t q = true := by
        intro l
        induction l with
        | nil => intro p _ h; cases h
        | cons x l ih2 =>
          intro p hp h
          simp only [Region.linkB, Bool.and_eq_true] at hp
          rcases List.mem_cons.1 h with h | h
          · exact ⟨p, .inl rfl, by rw [h]; exact hp.1⟩
          · obtain ⟨q, hq, hw⟩ := ih2 x hp.2 h
            refine ⟨q, .inr ?_, hw⟩
            rcases hq with rfl | hq
            · simp
            · simp [hq]
      obtain ⟨q, hq, hw⟩ := key ts t0 hlk hts
      obtain ⟨ot, hot, e, he, hb, hon⟩ := Region.waitsFor_spec hw
      obtain ⟨_, o2, ho2, hall⟩ := mem_ready.1 hr
      have : o2 = ot := Option.some.inj (ho2.symm.trans hot)
      rw [this] at hall
      have h2 := hall e he hb
      have hqu : s.getD q true = false := inv.tail q (by rcases hq with rfl | hq <;> simp [*])
      rw [hon, getD_both hqu] at h2
      cases h2


/-- f operations of the head come up next, in whatever order; behind them L. -/
def HeadC (P : Program) (md : Region.Mode) (ops : Array Oper) (C : World → Prop) (L : Array Bool → Act → Prop) : Nat → Array Bool → Act → Prop
  | 0, s, a => L s a
  | f + 1, s, a => Region.ready md ops s ≠ [] ∧ ∀ i ∈ Region.ready md ops s, qOp P ops C i (HeadC P md ops C L f (s.setIfInBounds i true)) a

theorem any_of_headC {g : Nat} {L : Array Bool → Act → Prop} {Q : Exit → Act → World → Prop} (hL : ∀ s a w, C w → L s a → wpAny P md ops Q g s a w) (f : Nat) :
    ∀ (s : Array Bool) (a : Act) (w : World), C w → HeadC P md ops C L f s a → wpAny P md ops Q (f + g) s a w := by
  induction f with
  | zero => intro s a w hw h; rw [Nat.zero_add]; exact hL s a w hw h
  | succ f ih =>
    intro s a w hw h
    have e : f + 1 + g = (f + g) + 1 := by omega
    rw [e]
    exact ⟨fun h0 => absurd h0 h.1, fun i hi => wpOp_of_qOp hw (fun a' w' hw' h' => ih _ a' w' hw' h') (h.2 i hi)⟩

/-- An operation that is ready and yields its value in the whole class may be taken first. -/
theorem headC_first {hs ts : List Nat} {t0 i : Nat} {oi : Oper} {v : Value} {L : Array Bool → Act → Prop} (hi : ops[i]? = some oi) (hns : Region.noSelect ops = true)
    (hsk : Region.sinkL md ops hs t0 = true) (hlk : Region.linkB md ops (t0 :: ts) = true) (hlt : ∀ i ∈ hs, i < ops.size) (hdis : ∀ i ∈ hs, i ∉ t0 :: ts) (hin : i ∈ hs)
    (hL : ∀ s a, L s a → ∀ j ∈ Region.ready md ops s, j ∈ t0 :: ts) (f : Nat) :
    ∀ (s : Array Bool) (a : Act), ListInv md ops hs (t0 :: ts) s →
      (∀ j oj, ops[j]? = some oj → j ≠ i → s.getD j true = false → (∀ e ∈ oj.after, Region.binds md e = true → e.on ≠ i) → oi.apart ops oj = true) →
      i ∈ Region.ready md ops s → YieldsIn P ops C oi v a →
      HeadC P md ops C L f (s.setIfInBounds i true) (a.put oi.dst v) → HeadC P md ops C L (f + 1) s a := by
  have sel := fun (j : Nat) (o : Oper) cs b => Region.noSelect_spec hns j o cs b
  induction f with
  | zero =>
    intro s a inv _ hr hy H
    refine ⟨fun h => (by rw [h] at hr; cases hr), fun j hj => ?_⟩
    by_cases e : j = i
    · rw [e]; exact hy.qOp hi H
    · exact absurd hj (tail_late hsk hlk hlt inv _ i rfl hin (mem_ready.1 hr).1 j (hL _ _ H j (ready_mono hj e)))
  | succ f ih =>
    intro s a inv hfree hr hy H
    have hun := (mem_ready.1 hr).1
    refine ⟨fun h => (by rw [h] at hr; cases hr), fun j hj => ?_⟩
    by_cases e : j = i
    · rw [e]; exact hy.qOp hi H
    · obtain ⟨hju, oj, hoj, hall⟩ := mem_ready.1 hj
      have hjh : j ∈ hs := by
        rcases inv.cover j (Array.getElem?_eq_some_iff.1 hoj).1 hju with h | h
        · exact h
        · exact absurd hj (tail_late hsk hlk hlt inv _ i rfl hin hun j h)
      have hno : ∀ x ∈ oj.after, Region.binds md x = true → x.on ≠ i := by
        intro x hx hb hxi
        have h1 := hall x hx hb
        rw [hxi, getD_both hun] at h1
        cases h1
      have h2 := qOp_put hoj (hfree j oj hoj e hju hno) (fun cs b => sel i oi cs b hi) (fun cs b => sel j oj cs b hoj) hy (H.2 j (ready_mono hj e))
      have hfree2 : ∀ k ok, ops[k]? = some ok → k ≠ i → (s.setIfInBounds j true).getD k true = false →
          (∀ x ∈ ok.after, Region.binds md x = true → x.on ≠ i) → oi.apart ops ok = true := by
        intro k ok hk hki hkun hkno
        refine hfree k ok hk hki ?_ hkno
        by_cases ejk : j = k
        · rw [← ejk]; exact hju
        · rw [getD_set_ne true ejk] at hkun; exact hkun
      refine qOp_mono (fun a' h3 => ih _ a' (inv.set hj (hdis j hjh)) hfree2 (ready_mono hr (Ne.symm e)) h3.1 ?_) h2
      rw [Array.setIfInBounds_comm _ _ e]
      exact h3.2

/-- The places in this order may be taken one by one; 'last' holds of what has come up then. -/
def Region.orderB (md : Region.Mode) (ops : Array Oper) (last : Array Bool → Bool) : List Nat → Array Bool → Bool
  | [], s => last s
  | i :: r, s => (Region.ready md ops s).contains i && Region.free md ops s i && Region.orderB md ops last r (s.setIfInBounds i true)
/-- The head, one by one. -/
theorem headC_order {hs ts : List Nat} {t0 : Nat} {L : Act → Prop} {last : Array Bool → Bool} (hns : Region.noSelect ops = true)
    (hsk : Region.sinkL md ops hs t0 = true) (hlk : Region.linkB md ops (t0 :: ts) = true) (hlt : ∀ i ∈ hs, i < ops.size) (hdis : ∀ i ∈ hs, i ∉ t0 :: ts)
    (hlast : ∀ s, last s = true → ∀ j ∈ Region.ready md ops s, j ∈ t0 :: ts) (r : List Nat) :
    ∀ (l : List Oper) (s : Array Bool) (a : Act), r.map (fun i => ops[i]?) = l.map some → (∀ i ∈ r, i ∈ hs) → ListInv md ops hs (t0 :: ts) s →
    Region.orderB md ops last r s = true → wpQuiet P ops C L l a →
    HeadC P md ops C (fun s' a' => last s' = true ∧ L a') r.length s a := by
  induction r with
  | nil =>
    intro l s a hl _ _ hB h
    cases l with
    | nil => exact ⟨hB, h⟩
    | cons _ _ => simp at hl
  | cons i r ih =>
    intro l s a hl hin inv hB h
    cases l with
    | nil => simp at hl
    | cons o l =>
      simp only [List.map_cons, List.cons.injEq] at hl
      simp only [Region.orderB, Bool.and_eq_true] at hB
      have hr : i ∈ Region.ready md ops s := by simpa using hB.1.1
      have hq : qOp P ops C i (wpQuiet P ops C L l) a := by unfold qOp; simp only [hl.1]; exact h
      obtain ⟨v, hy, hK⟩ := yieldsIn_of_qOp hl.1 hq
      have hih := hin i (by simp)
      refine headC_first hl.1 hns hsk hlk hlt hdis hih (fun s' a' h' => hlast s' h'.1) r.length s a inv (Region.free_spec hl.1 hB.1.2) hr hy ?_
      exact ih l _ _ hl.2 (fun x hx => hin x (by simp [hx])) (inv.set hr (hdis i hih)) hB.2 hK

/-- Operations that yield their value in whatever world, taken first one by one; behind them Q. -/
def PureWalk (P : Program) (ops : Array Oper) (Q : Act → Prop) : List Oper → Act → Prop
  | [], a => Q a
  | o :: r, a => ∃ v, Yields P ops o v a ∧ PureWalk P ops Q r (a.put o.dst v)
theorem PureWalk.nil {Q : Act → Prop} {a : Act} (h : Q a) : PureWalk P ops Q [] a := h
theorem any_of_pure {Q : Exit → Act → World → Prop} {g : Nat} {last : Array Bool → Bool} (hns : Region.noSelect ops = true)
    (hQ : ∀ c a a' w, a'.defers = a.defers → Q (.panic c) a' w → Q (.panic c) a w) {R : Act → Prop} {w : World} (inv0 : List Nat → Array Bool → Prop) (hstep : ∀ s i r, inv0 (i :: r) s → i ∈ Region.ready md ops s → inv0 r (s.setIfInBounds i true))
    (hR : ∀ s a, inv0 [] s → last s = true → R a → wpAny P md ops Q g s a w) (r : List Nat) :
    ∀ (l : List Oper) (s : Array Bool) (a : Act), r.map (fun i => ops[i]?) = l.map some → inv0 r s → Region.orderB md ops last r s = true → PureWalk P ops R l a → wpAny P md ops Q (r.length + g) s a w := by
  induction r with
  | nil =>
    intro l s a hl hi hB h
    cases l with
    | nil => rw [List.length_nil, Nat.zero_add]; exact hR s a hi hB h
    | cons _ _ => simp at hl
  | cons i r ih =>
    intro l s a hl hinv hB h
    cases l with
    | nil => simp at hl
    | cons o l =>
      simp only [List.map_cons, List.cons.injEq] at hl
      simp only [Region.orderB, Bool.and_eq_true] at hB
      obtain ⟨v, hv, hn⟩ := h
      have hr : i ∈ Region.ready md ops s := by simpa using hB.1.1
      have e : (i :: r).length + g = (r.length + g) + 1 := by simp only [List.length_cons]; omega
      rw [e]
      refine wpAny_take hl.1 hns hB.1.2 hB.1.1 (fun c a w q => hQ c a _ w (by cases o.dst <;> rfl) q) hv ?_
      exact ih l _ _ hl.2 (hstep s i r hinv hr) hB.2 hn

/-- A tail that comes up one by one. -/
def Region.seqL (md : Region.Mode) (ops : Array Oper) : List Nat → Array Bool → Bool
  | [], s => (Region.ready md ops s).isEmpty
  | i :: r, s => decide (Region.ready md ops s = [i]) && Region.seqL md ops r (s.setIfInBounds i true)
theorem any_of_seqL {Q : Exit → Act → World → Prop} (r : List Nat) :
    ∀ (l : List Oper) (s : Array Bool) (a : Act) (w : World), r.map (fun i => ops[i]?) = l.map some → Region.seqL md ops r s = true → wpList P ops Q l a w → wpAny P md ops Q r.length s a w := by
  induction r with
  | nil =>
    intro l s a w hl hB h
    cases l with
    | nil => exact ⟨by simpa [Region.seqL] using hB, h⟩
    | cons _ _ => simp at hl
  | cons i r ih =>
    intro l s a w hl hB h
    cases l with
    | nil => simp at hl
    | cons o l =>
      simp only [List.map_cons, List.cons.injEq] at hl
      simp only [Region.seqL, Bool.and_eq_true, decide_eq_true_eq] at hB
      refine ⟨fun h1 => (by rw [hB.1] at h1; cases h1), fun j hj => ?_⟩
      rw [hB.1] at hj
      have hji : j = i := by simpa using hj
      rw [hji]
      have hw : wpOp P ops Q i (wpList P ops Q l) a w := by unfold wpOp; simp only [hl.1]; exact h
      exact wpOp_mono (fun a' w' h' => ih l _ a' w' hl.2 hB.2 h') hw
theorem seqL_ready {t0 : Nat} {ts : List Nat} {s : Array Bool} (h : Region.seqL md ops (t0 :: ts) s = true) : ∀ j ∈ Region.ready md ops s, j ∈ t0 :: ts := by
  intro j hj
  simp only [Region.seqL, Bool.and_eq_true, decide_eq_true_eq] at h
  rw [h.1] at hj
  simp at hj; simp [hj]

/-- Operations that can only yield a value. -/
def Op.valued : Op → Bool
  | .move _ | .assign _ | .binOp .. | .unOp .. | .convert .. | .fieldAddr .. | .field .. | .indexAddr .. | .index .. | .slice .. | .extract .. | .build .. | .sliceToArrayPointer .. => true
  | .call c => match c.callee with
    | .builtin .len | .builtin .cap => true
    | _ => false
  | _ => false
theorem valued_run {o : Oper} (h : o.op.valued = true) (ρ : Operand → Value) (w w' : World) (n : Next) (hr : (execOp ρ o).run P w = .ok n w') : ∃ v, n = .value v := by
  have key : ∀ (m : Sem Value), (do let x ← m; pure (Next.value x) : Sem Next).run P w = .ok n w' → ∃ v, n = .value v := by
    intro m hm
    rw [Sem.run_bind] at hm
    generalize m.run P w = r at hm
    cases r with
    | ok x w2 => simp only [Result.andThen_ok, Sem.run_pure, Result.ok.injEq] at hm; exact ⟨x, hm.1.symm⟩
    | halt x w2 => simp [Result.andThen] at hm
  obtain ⟨dst, op, type, pos, after, guard⟩ := o
  cases op
  case call c =>
    obtain ⟨callee, cargs, cats⟩ := c
    cases callee with
    | builtin b =>
      cases b <;> first
        | (simp [Op.valued] at h; done)
        | (simp only [execOp, resolve, Sem.run_bind, Sem.run_pure, Result.andThen_ok, invoke, builtin] at hr; exact key _ (by rw [Sem.run_bind]; exact hr))
    | _ => simp [Op.valued] at h
  all_goals first
    | exact key _ hr
    | (simp [Op.valued] at h; done)
    | (simp only [execOp, Sem.run_pure, Result.ok.injEq] at hr; exact ⟨_, hr.1.symm⟩)
theorem pureWalk_of_quiet {Q : Act → Prop} (l : List Oper) : ∀ a : Act, (l.all fun o => o.op.valued) = true → wpQuiet P ops (fun _ => True) Q l a → PureWalk P ops Q l a := by
  induction l with
  | nil => intro a _ h; exact h
  | cons o l ih =>
    intro a hv h
    simp only [List.all_cons, Bool.and_eq_true] at hv
    unfold wpQuiet at h
    cases hw : Region.wanted o (yielded ops a.tmps) with
    | false =>
      rw [if_neg (by rw [hw]; exact Bool.false_ne_true)] at h
      exact ⟨_, .inr ⟨hw, rfl⟩, ih _ (by simpa using hv.2) h⟩
    | true =>
      rw [if_pos hw] at h
      obtain ⟨v, h1, h2⟩ := h
      refine ⟨v, .inl ⟨hw, fun w => ?_⟩, ih _ (by simpa using hv.2) h2⟩
      have h3 := h1 w trivial
      unfold Oper.quietAt at h3
      cases hr : (execOp a.eval o).run P w with
      | ok n w' =>
        obtain ⟨u, rfl⟩ := valued_run hv.1 _ _ _ _ hr
        rw [hr] at h3
        simp only [Oper.quietUpon] at h3
        rw [h3.1, h3.2]
      | halt x w' => rw [hr] at h3; simp only [Oper.quietUpon] at h3

/-- All that the kernel is asked of a region: 'ps' first (they hang on no world), then the head 'hs', then the tail 't0 :: ts'. -/
def Region.mixB (md : Region.Mode) (ops : Array Oper) (ps hs : List Nat) (t0 : Nat) (ts : List Nat) : Bool :=
  (ps.filterMap fun i => ops[i]?).all (fun o => o.op.valued) && Region.noSelect ops && Region.sinkL md ops hs t0 && Region.linkB md ops (t0 :: ts) && hs.all (fun i => decide (i < ops.size) && !(t0 :: ts).contains i) && (t0 :: ts).all (fun i => !ps.contains i && decide (i < ops.size)) &&
  (List.range ops.size).all (fun j => ps.contains j || hs.contains j || (t0 :: ts).contains j) && decide (ps.length + (hs.length + (ts.length + 1)) = ops.size) &&
  Region.orderB md ops (Region.orderB md ops (Region.seqL md ops (t0 :: ts)) hs) ps (Array.replicate ops.size false)

/-- **THE REGION**: operations that hang on no world first, the head in a class of worlds, the tail one by one. -/
theorem wp_region_mix {id : Nat} {Q : Exit → Act → World → Prop} {a : Act} {w : World} {l : List Oper} (C : World → Prop) (ps hs : List Nat) (t0 : Nat) (ts : List Nat) (hm : P.follows .mixedOrders = true)
    (hB : Region.mixB .any l.toArray ps hs t0 ts = true) (hQ : ∀ c a a' w, a'.defers = a.defers → Q (.panic c) a' w → Q (.panic c) a w) (hC : C w.drew)
    (h : wpQuiet P l.toArray (fun _ => True) (wpQuiet P l.toArray C (fun a' => ∀ w', C w' → wpList P l.toArray Q ((t0 :: ts).filterMap fun i => l[i]?) a' w') (hs.filterMap fun i => l[i]?)) (ps.filterMap fun i => l[i]?) a) : (Code.region id l.toArray true).wp P Q a w := by
  simp only [Region.mixB, Bool.and_eq_true, decide_eq_true_eq] at hB
  obtain ⟨⟨⟨⟨⟨⟨⟨⟨hval, hns⟩, hsk⟩, hlk⟩, hhs⟩, hts⟩, hcv⟩, hlen⟩, hord⟩ := hB
  replace h := pureWalk_of_quiet _ _ (by simpa using hval) h
  have hh1 : ∀ i ∈ hs, i < l.toArray.size := fun i hi => by have := List.all_eq_true.1 hhs i hi; simp only [Bool.and_eq_true, decide_eq_true_eq] at this; exact this.1
  have hh2 : ∀ i ∈ hs, i ∉ t0 :: ts := fun i hi => by
    have := List.all_eq_true.1 hhs i hi
    simp only [Bool.and_eq_true, Bool.not_eq_true'] at this
    have h2 := this.2
    intro hmem
    rw [List.contains_iff_mem.2 hmem] at h2
    cases h2
  have ht1 : ∀ i ∈ t0 :: ts, i ∉ ps ∧ i < l.toArray.size := fun i hi => by
    have := List.all_eq_true.1 hts i hi
    simp only [Bool.and_eq_true, Bool.not_eq_true', decide_eq_true_eq] at this
    refine ⟨fun hmem => ?_, this.2⟩
    rw [List.contains_iff_mem.2 hmem] at this
    cases this.1
  have hsome : ∀ r : List Nat, (∀ i ∈ r, i < l.toArray.size) → r.map (fun i => l.toArray[i]?) = (r.filterMap fun i => l[i]?).map some := by
    intro r
    induction r with
    | nil => intro _; rfl
    | cons i r ih =>
      intro hr
      have hi : i < l.length := by simpa using hr i (by simp)
      rw [List.map_cons, ih (fun x hx => hr x (by simp [hx]))]
      have e : l[i]? = some l[i] := List.getElem?_eq_getElem hi
      simp [e]
  have hordlt : ∀ (last : Array Bool → Bool) (r : List Nat) (s : Array Bool), Region.orderB .any l.toArray last r s = true → ∀ i ∈ r, i < l.toArray.size := by
    intro last r
    induction r with
    | nil => intro _ _ i hi; cases hi
    | cons x r ih =>
      intro s hs i hi
      simp only [Region.orderB, Bool.and_eq_true] at hs
      rcases List.mem_cons.1 hi with rfl | hi
      · have hr : i ∈ Region.ready .any l.toArray s := by simpa using hs.1.1
        obtain ⟨_, o, ho, _⟩ := mem_ready.1 hr
        exact (Array.getElem?_eq_some_iff.1 ho).1
      · exact ih _ hs.2 i hi
  refine wp_region_any hm ?_
  let inv0 : List Nat → Array Bool → Prop := fun r s => s.size = l.toArray.size ∧ (∀ j oj, l.toArray[j]? = some oj → s.getD j false = true → ∀ e ∈ oj.after, Region.binds .any e = true → s.getD e.on false = true) ∧
    (∀ j, s.getD j true = false → j < l.toArray.size ∧ (j ∉ ps ∨ j ∈ r)) ∧ (∀ j, j < l.toArray.size → j ∉ ps → s.getD j true = false) ∧ (∀ i ∈ r, i ∈ ps)
  have hstep : ∀ s i r, inv0 (i :: r) s → i ∈ Region.ready .any l.toArray s → inv0 r (s.setIfInBounds i true) := by
    intro s i r inv hi
    obtain ⟨_, oi, hoi, hall⟩ := mem_ready.1 hi
    obtain ⟨i1, i2, i3, i4, i5⟩ := inv
    refine ⟨by simp [i1], fun j oj hj hl e he hb => ?_, fun j hj => ?_, fun j hj hp => ?_, fun x hx => i5 x (by simp [hx])⟩
    · by_cases hij : i = j
      · have e2 : oj = oi := Option.some.inj (hj.symm.trans (hij ▸ hoi))
        rw [e2] at he
        exact getD_set_true (hall e he hb)
      · rw [getD_set_ne false hij] at hl
        exact getD_set_true (i2 j oj hj hl e he hb)
    · have hne : i ≠ j := by
        intro e
        rw [← e] at hj
        have hl : i < s.size := by rw [i1]; exact (Array.getElem?_eq_some_iff.1 hoi).1
        simp [hl] at hj
      rw [getD_set_ne true hne] at hj
      have h1 := i3 j hj
      refine ⟨h1.1, h1.2.imp (fun q => q) fun hm => ?_⟩
      rcases List.mem_cons.1 hm with h | h
      · exact absurd h.symm hne
      · exact h
    · have hne : i ≠ j := fun e => hp (e ▸ i5 i (by simp))
      rw [getD_set_ne true hne]; exact i4 j hj hp
  have final : ∀ s a, inv0 [] s → Region.orderB .any l.toArray (Region.seqL .any l.toArray (t0 :: ts)) hs s = true →
      wpQuiet P l.toArray C (fun a' => ∀ w', C w' → wpList P l.toArray Q ((t0 :: ts).filterMap fun i => l[i]?) a' w') (hs.filterMap fun i => l[i]?) a → wpAny P .any l.toArray Q (hs.length + (ts.length + 1)) s a w.drew := by
    intro s a inv hB hq
    obtain ⟨i1, i2, i3, i4, _⟩ := inv
    have linv : ListInv .any l.toArray hs (t0 :: ts) s := by
      refine ⟨i1, i2, fun t ht => i4 t (ht1 t ht).2 (ht1 t ht).1, fun j hj hu => ?_⟩
      have h1 := List.all_eq_true.1 hcv j (List.mem_range.2 hj)
      simp only [Bool.or_eq_true, List.contains_iff_mem] at h1
      rcases h1 with (h1 | h1) | h1
      · rcases (i3 j hu).2 with h2 | h2
        · exact absurd h1 h2
        · cases h2
      · exact .inl h1
      · exact .inr h1
    have H := headC_order (md := .any) (last := Region.seqL .any l.toArray (t0 :: ts)) hns hsk hlk hh1 hh2 (fun s h => seqL_ready h) hs _ s a (hsome hs hh1) (fun i hi => hi) linv hB hq
    exact any_of_headC (g := ts.length + 1) (fun s' a' w' hw' hL => any_of_seqL (t0 :: ts) _ s' a' w' (hsome _ fun i hi => (ht1 i hi).2) hL.1 (hL.2 w' hw')) _ s a w.drew hC H
  have R := any_of_pure (g := hs.length + (ts.length + 1)) (md := .any) (last := fun s => Region.orderB .any l.toArray (Region.seqL .any l.toArray (t0 :: ts)) hs s) hns hQ (R := _) (w := w.drew)
    inv0 hstep final ps _ _ a (hsome ps (hordlt _ ps _ hord)) ⟨by simp, fun j oj _ hl => (by rw [getD_replicate_false] at hl; cases hl), fun j hj => ⟨?_, ?_⟩, fun j hj _ => getD_in (by simpa using hj) (getD_replicate_false _ _), fun i hi => hi⟩ hord h
  · rw [hlen] at R; exact R
  · rcases Nat.lt_or_ge j l.toArray.size with h1 | h1
    · exact h1
    · have h2 : ¬ j < l.length := by simpa using h1
      simp [Array.getD, h2] at hj
  · by_cases hp : j ∈ ps
    · exact .inr hp
    · exact .inl hp

/-- One operation of such a head: a load of a whole array or struct. -/
theorem wpQuiet_load_blk {Q : Act → Prop} {rest : List Oper} {o : Oper} {a : Act} {g : Nat} {t : TypeId} {cs : Array Value} (hb : ∀ w, C w → Blk w g t cs) (hgd : o.guard = none) (ty : TypeId) (x : Operand) (ho : o.op = .load ty x)
    (hx : a.eval x = .pointer (some ⟨g, 0, none⟩)) (d : TypeDesc)
    (hu : P.underlying ty = some d) (hd : (match d with | .struct _ | .array _ _ => true | _ => false) = true) {n : Nat} (hi : (P.info? ty).map (·.size) = some n) (hn : cs.size = n)
    (h : wpQuiet P ops C Q rest (a.put o.dst (.agg cs))) : wpQuiet P ops C Q (o :: rest) a := by
  refine wpQuiet_step fun K hK => ?_
  rw [if_pos (by simp [Region.wanted, hgd])]
  refine ⟨_, fun w hw => ?_, hK _ h⟩
  unfold Oper.quietAt execOp
  simp only [ho, hx, Instr.loadAt, Instr.sureAddr, Sem.run_bind, Sem.run_pure, Result.andThen_ok, run_loadVar_row w g t ty cs (0, 0) d (hb w hw) hu hd (hn ▸ hi)]
  exact ⟨rfl, rfl⟩
/-- A call of a Go function whose contract holds in the whole class. -/
theorem wpQuiet_call {Q : Act → Prop} {rest : List Oper} {o : Oper} {a : Act} {f : FuncId} (hf : ∀ args w, (callFunc f args).run P w = .ok (.enter f args) w) (hgd : o.guard = none) (xs : List Operand) (ats : Array TypeId)
    (ho : o.op = .call { callee := .value (.func f), args := xs.toArray, argTypes := ats }) (vals : List Value) (hx : xs.map a.eval = vals) (v : Value)
    (hc : ∀ w, C w → Calls P f vals.toArray w fun e w' => e = .returned v ∧ C w') (h : wpQuiet P ops C Q rest (a.put o.dst v)) : wpQuiet P ops C Q (o :: rest) a := by
  refine wpQuiet_step fun K hK => ?_
  rw [if_pos (by simp [Region.wanted, hgd])]
  refine ⟨v, fun w hw => ?_, hK _ h⟩
  obtain ⟨dst, op, type, pos, after, guard⟩ := o
  simp only at ho
  subst ho
  unfold Oper.quietAt
  rw [execOp_call_go, hf]
  have e : #[] ++ xs.toArray.map a.eval ++ #[] = vals.toArray := by rw [← hx]; simp
  rw [e]
  exact ⟨rfl, hc w hw⟩
end
end Go
