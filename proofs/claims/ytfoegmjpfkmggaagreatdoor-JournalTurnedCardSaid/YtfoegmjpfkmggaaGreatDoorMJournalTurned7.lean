/- The bytes of a block of the grid, as plain lists: what they are, how they are read back. Plain facts. No condition. -/
import Derived.Test.YtfoegmjpfkmggaaGreatDoorMJournalTurned6
import Derived.Test.YtfoegmjpfkmggaaGreatDoorRows
namespace Go.Proofs.YtfoegmjpfkmggaaGreatDoor
theorem Sha.sum_len (l : List UInt8) : (Sha.sum l).length = 16 := by simp [Sha.sum, Sha.out]
/-! ### Numbers of four bytes, the lowest first -/
def le4 (n : Nat) : List UInt8 := [UInt8.ofNat (n % 256), UInt8.ofNat (n / 256 % 256), UInt8.ofNat (n / 65536 % 256), UInt8.ofNat (n / 16777216 % 256)]
def un4 (a b c d : UInt8) : Nat := a.toNat + 256 * b.toNat + 65536 * c.toNat + 16777216 * d.toNat
def at4 (l : List UInt8) (p : Nat) : Nat := un4 (l.getD p 0) (l.getD (p + 1) 0) (l.getD (p + 2) 0) (l.getD (p + 3) 0)
theorem le4_length (n : Nat) : (le4 n).length = 4 := rfl
theorem toNat_ofNat' (n : Nat) (h : n < 256) : (UInt8.ofNat n).toNat = n := UInt8.toNat_ofNat_of_lt' (by simpa [UInt8.size] using h)
theorem un4_lt (a b c d : UInt8) : un4 a b c d < 4294967296 := by
  have := a.toNat_lt; have := b.toNat_lt; have := c.toNat_lt; have := d.toNat_lt
  unfold un4; omega
theorem at4_lt (l : List UInt8) (p : Nat) : at4 l p < 4294967296 := un4_lt _ _ _ _
theorem un4_le4 (n : Nat) (h : n < 4294967296) : un4 (UInt8.ofNat (n % 256)) (UInt8.ofNat (n / 256 % 256)) (UInt8.ofNat (n / 65536 % 256)) (UInt8.ofNat (n / 16777216 % 256)) = n := by
  unfold un4
  rw [toNat_ofNat' _ (Nat.mod_lt _ (by omega)), toNat_ofNat' _ (Nat.mod_lt _ (by omega)), toNat_ofNat' _ (Nat.mod_lt _ (by omega)), toNat_ofNat' _ (Nat.mod_lt _ (by omega))]
  omega
theorem getD_app (a b : List UInt8) (k : Nat) : (a ++ b).getD (a.length + k) 0 = b.getD k 0 := by
  simp only [List.getD_eq_getElem?_getD]; rw [List.getElem?_append_right (by omega), Nat.add_sub_cancel_left]
theorem at4_app (a b : List UInt8) (p : Nat) : at4 (a ++ b) (a.length + p) = at4 b p := by
  unfold at4
  rw [Nat.add_assoc, Nat.add_assoc, Nat.add_assoc, getD_app, getD_app, getD_app, getD_app]
theorem at4_app' (a b : List UInt8) (p q : Nat) (h : q = a.length + p) : at4 (a ++ b) q = at4 b p := h ▸ at4_app a b p
theorem at4_le4 (n : Nat) (h : n < 4294967296) (r : List UInt8) : at4 (le4 n ++ r) 0 = n := by
  unfold at4 le4
  simp only [List.cons_append, List.nil_append]
  exact un4_le4 n h
/-! ### A block -/
abbrev RefT := Int × Int × Unit
abbrev GBT := Int × RefT × List RefT × List UInt8 × Unit
def refOk (r : RefT) : Bool := decide (1 ≤ r.1) && decide (r.1 ≤ 512) && decide (0 ≤ r.2.1) && decide (r.2.1 ≤ 1073741824)
def GB.kind (b : GBT) : Int := b.1
def GB.ok (b : GBT) : Bool := decide (1 ≤ b.1) && decide (b.1 ≤ 15) && refOk b.2.1 && decide (b.2.2.1.length ≤ 16) && decide (b.2.2.2.1.length ≤ 860) && b.2.2.1.all refOk
def refBytes (r : RefT) : List UInt8 := le4 r.1.toNat ++ le4 r.2.1.toNat
def refsBytes (l : List RefT) : List UInt8 := l.flatMap refBytes
/-- What stands behind a block's seal. -/
def GB.head (b : GBT) : List UInt8 := le4 b.1.toNat ++ (le4 b.2.1.1.toNat ++ (le4 b.2.1.2.1.toNat ++ (le4 b.2.2.1.length ++ le4 b.2.2.2.1.length)))
def GB.tail (b : GBT) : List UInt8 := b.2.2.2.1 ++ List.replicate (860 - b.2.2.2.1.length) 0
def GB.rest (b : GBT) : List UInt8 := GB.head b ++ (refsBytes b.2.2.1 ++ (List.replicate (128 - 8 * b.2.2.1.length) 0 ++ GB.tail b))
def GB.bytes (b : GBT) : List UInt8 := Sha.sum (GB.rest b) ++ GB.rest b
theorem refsBytes_length (l : List RefT) : (refsBytes l).length = 8 * l.length := by
  induction l with
  | nil => rfl
  | cons r l ih => unfold refsBytes at *; rw [List.flatMap_cons, List.length_append, ih, List.length_cons]; simp [refBytes, le4_length]; omega
theorem GB.ok_spec {b : GBT} (h : GB.ok b = true) : (1 ≤ b.1 ∧ b.1 ≤ 15) ∧ refOk b.2.1 = true ∧ b.2.2.1.length ≤ 16 ∧ b.2.2.2.1.length ≤ 860 ∧ ∀ r ∈ b.2.2.1, refOk r = true := by
  simp only [GB.ok, Bool.and_eq_true, decide_eq_true_eq, List.all_eq_true] at h
  obtain ⟨⟨⟨⟨⟨h1, h2⟩, h3⟩, h4⟩, h5⟩, h6⟩ := h
  exact ⟨⟨h1, h2⟩, h3, h4, h5, h6⟩
theorem refOk_spec {r : RefT} (h : refOk r = true) : 1 ≤ r.1 ∧ r.1 ≤ 512 ∧ 0 ≤ r.2.1 ∧ r.2.1 ≤ 1073741824 := by
  simp only [refOk, Bool.and_eq_true, decide_eq_true_eq] at h
  exact ⟨h.1.1.1, h.1.1.2, h.1.2, h.2⟩
theorem GB.head_length (b : GBT) : (GB.head b).length = 20 := rfl
theorem GB.tail_length (b : GBT) (h : b.2.2.2.1.length ≤ 860) : (GB.tail b).length = 860 := by
  unfold GB.tail; rw [List.length_append, List.length_replicate]; omega
theorem GB.rest_length (b : GBT) (h1 : b.2.2.1.length ≤ 16) (h2 : b.2.2.2.1.length ≤ 860) : (GB.rest b).length = 1008 := by
  unfold GB.rest
  rw [List.length_append, List.length_append, List.length_append, GB.head_length, refsBytes_length, List.length_replicate, GB.tail_length b h2]; omega
theorem GB.bytes_length (b : GBT) (h1 : b.2.2.1.length ≤ 16) (h2 : b.2.2.2.1.length ≤ 860) : (GB.bytes b).length = 1024 := by
  unfold GB.bytes; rw [List.length_append, Sha.sum_len, GB.rest_length b h1 h2]
/-- What the bytes of a block say. -/
def GB.parse (raw : List UInt8) : GBT :=
  ((at4 raw 16 : Int), ((at4 raw 20 : Int), (at4 raw 24 : Int), ()), (List.range (at4 raw 28)).map (fun i => ((at4 raw (36 + 8 * i) : Int), (at4 raw (36 + 8 * i + 4) : Int), ())), (raw.drop 164).take (at4 raw 32), ())
def GB.none_ : GBT := (0, (0, 0, ()), [], [], ())
/-- Which block bytes are: the error's number, and the block. -/
def GB.read (raw : List UInt8) : Int × GBT :=
  if raw.length ≠ 1024 then (4, GB.none_)
  else if Sha.sum (raw.drop 16) ≠ raw.take 16 then (12, GB.none_)
  else if 16 < at4 raw 28 ∨ 860 < at4 raw 32 then (4, GB.none_)
  else if GB.ok (GB.parse raw) = true ∧ GB.rest (GB.parse raw) = raw.drop 16 then (0, GB.parse raw) else (4, GB.none_)
theorem at4_refs (l : List RefT) (r : List UInt8) (hok : ∀ x ∈ l, refOk x = true) : ∀ i, (h : i < l.length) → (at4 (refsBytes l ++ r) (8 * i) : Int) = l[i].1 ∧ (at4 (refsBytes l ++ r) (8 * i + 4) : Int) = l[i].2.1 := by
  induction l with
  | nil => intro i h; simp at h
  | cons x l ih =>
    intro i h
    have e : refsBytes (x :: l) ++ r = le4 x.1.toNat ++ (le4 x.2.1.toNat ++ (refsBytes l ++ r)) := by simp [refsBytes, refBytes]
    rw [e]
    obtain ⟨h1, h2, h3, h4⟩ := refOk_spec (hok x (by simp))
    cases i with
    | zero =>
      refine ⟨?_, ?_⟩
      · rw [Nat.mul_zero, at4_le4 _ (by omega)]; simp; omega
      · rw [at4_app' _ _ 0 _ (by simp [le4_length]), at4_le4 _ (by omega)]; simp; omega
    | succ i =>
      obtain ⟨e1, e2⟩ := ih (fun x hx => hok x (by simp [hx])) i (by simpa using h)
      refine ⟨?_, ?_⟩
      · rw [at4_app' _ _ (8 * i + 4) _ (by simp [le4_length]; omega), at4_app' _ _ (8 * i) _ (by simp [le4_length]; omega), e1]; simp
      · rw [at4_app' _ _ (8 * i + 8) _ (by simp [le4_length]; omega), at4_app' _ _ (8 * i + 4) _ (by simp [le4_length]; omega), e2]; simp
theorem GB.parse_bytes (b : GBT) (h : GB.ok b = true) : GB.parse (GB.bytes b) = b := by
  obtain ⟨⟨k1, k2⟩, hr, hn, hb, hall⟩ := GB.ok_spec h
  obtain ⟨r1, r2, r3, r4⟩ := refOk_spec hr
  obtain ⟨kind, ⟨addr, stamp, ⟨⟩⟩, refs, body, ⟨⟩⟩ := b
  simp only at k1 k2 r1 r2 r3 r4 hn hb hall
  have e0 : GB.bytes (kind, (addr, stamp, ()), refs, body, ()) = Sha.sum (GB.rest (kind, (addr, stamp, ()), refs, body, ())) ++ (le4 kind.toNat ++ (le4 addr.toNat ++ (le4 stamp.toNat ++ (le4 refs.length ++ (le4 body.length ++ (refsBytes refs ++ (List.replicate (128 - 8 * refs.length) 0 ++ (body ++ List.replicate (860 - body.length) 0)))))))) := by
    simp [GB.bytes, GB.rest, GB.head, GB.tail]
  generalize Sha.sum (GB.rest (kind, (addr, stamp, ()), refs, body, ())) = S at e0
  have hS : ∃ S : List UInt8, S.length = 16 ∧ GB.bytes (kind, (addr, stamp, ()), refs, body, ()) = S ++ (le4 kind.toNat ++ (le4 addr.toNat ++ (le4 stamp.toNat ++ (le4 refs.length ++ (le4 body.length ++ (refsBytes refs ++ (List.replicate (128 - 8 * refs.length) 0 ++ (body ++ List.replicate (860 - body.length) 0)))))))) :=
    ⟨Sha.sum (GB.rest (kind, (addr, stamp, ()), refs, body, ())), Sha.sum_len _, by simp [GB.bytes, GB.rest, GB.head, GB.tail]⟩
  clear e0 S
  obtain ⟨S, hS, e⟩ := hS
  rw [e]
  have a16 : at4 (S ++ (le4 kind.toNat ++ (le4 addr.toNat ++ (le4 stamp.toNat ++ (le4 refs.length ++ (le4 body.length ++ (refsBytes refs ++ (List.replicate (128 - 8 * refs.length) 0 ++ (body ++ List.replicate (860 - body.length) 0))))))))) 16 = kind.toNat := by
    rw [at4_app' _ _ 0 _ (by omega), at4_le4 _ (by omega)]
  have a20 : at4 (S ++ (le4 kind.toNat ++ (le4 addr.toNat ++ (le4 stamp.toNat ++ (le4 refs.length ++ (le4 body.length ++ (refsBytes refs ++ (List.replicate (128 - 8 * refs.length) 0 ++ (body ++ List.replicate (860 - body.length) 0))))))))) 20 = addr.toNat := by
    rw [at4_app' _ _ 4 _ (by omega), at4_app' _ _ 0 _ (by simp [le4_length]), at4_le4 _ (by omega)]
  have a24 : at4 (S ++ (le4 kind.toNat ++ (le4 addr.toNat ++ (le4 stamp.toNat ++ (le4 refs.length ++ (le4 body.length ++ (refsBytes refs ++ (List.replicate (128 - 8 * refs.length) 0 ++ (body ++ List.replicate (860 - body.length) 0))))))))) 24 = stamp.toNat := by
    rw [at4_app' _ _ 8 _ (by omega), at4_app' _ _ 4 _ (by simp [le4_length]), at4_app' _ _ 0 _ (by simp [le4_length]), at4_le4 _ (by omega)]
  have a28 : at4 (S ++ (le4 kind.toNat ++ (le4 addr.toNat ++ (le4 stamp.toNat ++ (le4 refs.length ++ (le4 body.length ++ (refsBytes refs ++ (List.replicate (128 - 8 * refs.length) 0 ++ (body ++ List.replicate (860 - body.length) 0))))))))) 28 = refs.length := by
    rw [at4_app' _ _ 12 _ (by omega), at4_app' _ _ 8 _ (by simp [le4_length]), at4_app' _ _ 4 _ (by simp [le4_length]), at4_app' _ _ 0 _ (by simp [le4_length]), at4_le4 _ (by omega)]
  have a32 : at4 (S ++ (le4 kind.toNat ++ (le4 addr.toNat ++ (le4 stamp.toNat ++ (le4 refs.length ++ (le4 body.length ++ (refsBytes refs ++ (List.replicate (128 - 8 * refs.length) 0 ++ (body ++ List.replicate (860 - body.length) 0))))))))) 32 = body.length := by
    rw [at4_app' _ _ 16 _ (by omega), at4_app' _ _ 12 _ (by simp [le4_length]), at4_app' _ _ 8 _ (by simp [le4_length]), at4_app' _ _ 4 _ (by simp [le4_length]), at4_app' _ _ 0 _ (by simp [le4_length]), at4_le4 _ (by omega)]
  have hsplit : S ++ (le4 kind.toNat ++ (le4 addr.toNat ++ (le4 stamp.toNat ++ (le4 refs.length ++ (le4 body.length ++ (refsBytes refs ++ (List.replicate (128 - 8 * refs.length) 0 ++ (body ++ List.replicate (860 - body.length) 0)))))))) = (S ++ GB.head (kind, (addr, stamp, ()), refs, body, ())) ++ (refsBytes refs ++ (List.replicate (128 - 8 * refs.length) 0 ++ (body ++ List.replicate (860 - body.length) 0))) := by
    simp [GB.head]
  have hpre : (S ++ GB.head (kind, (addr, stamp, ()), refs, body, ())).length = 36 := by rw [List.length_append, hS]; rfl
  have aref : ∀ i, (h : i < refs.length) → ∀ j, j < 8 → at4 (S ++ (le4 kind.toNat ++ (le4 addr.toNat ++ (le4 stamp.toNat ++ (le4 refs.length ++ (le4 body.length ++ (refsBytes refs ++ (List.replicate (128 - 8 * refs.length) 0 ++ (body ++ List.replicate (860 - body.length) 0))))))))) (36 + 8 * i + j) = at4 (refsBytes refs ++ (List.replicate (128 - 8 * refs.length) 0 ++ (body ++ List.replicate (860 - body.length) 0))) (8 * i + j) := by
    intro i h j hj
    rw [hsplit, at4_app' _ _ (8 * i + j) _ (by rw [hpre]; omega)]
  unfold GB.parse
  rw [a16, a20, a24, a28, a32]
  have hrefs : (List.range refs.length).map (fun i => ((at4 (S ++ (le4 kind.toNat ++ (le4 addr.toNat ++ (le4 stamp.toNat ++ (le4 refs.length ++ (le4 body.length ++ (refsBytes refs ++ (List.replicate (128 - 8 * refs.length) 0 ++ (body ++ List.replicate (860 - body.length) 0))))))))) (36 + 8 * i) : Int), (at4 (S ++ (le4 kind.toNat ++ (le4 addr.toNat ++ (le4 stamp.toNat ++ (le4 refs.length ++ (le4 body.length ++ (refsBytes refs ++ (List.replicate (128 - 8 * refs.length) 0 ++ (body ++ List.replicate (860 - body.length) 0))))))))) (36 + 8 * i + 4) : Int), ())) = refs := by
    apply List.ext_getElem
    · simp
    · intro i h1 h2
      simp only [List.getElem_map, List.getElem_range]
      obtain ⟨e1, e2⟩ := at4_refs refs (List.replicate (128 - 8 * refs.length) 0 ++ (body ++ List.replicate (860 - body.length) 0)) hall i h2
      have f1 := aref i h2 0 (by omega)
      have f2 := aref i h2 4 (by omega)
      rw [Nat.add_zero] at f1
      rw [Nat.add_zero] at f1
      rw [f1, f2, e1, e2]
  rw [hrefs]
  have hbody : ((S ++ (le4 kind.toNat ++ (le4 addr.toNat ++ (le4 stamp.toNat ++ (le4 refs.length ++ (le4 body.length ++ (refsBytes refs ++ (List.replicate (128 - 8 * refs.length) 0 ++ (body ++ List.replicate (860 - body.length) 0))))))))).drop 164).take body.length = body := by
    have e1 : S ++ (le4 kind.toNat ++ (le4 addr.toNat ++ (le4 stamp.toNat ++ (le4 refs.length ++ (le4 body.length ++ (refsBytes refs ++ (List.replicate (128 - 8 * refs.length) 0 ++ (body ++ List.replicate (860 - body.length) 0)))))))) = ((S ++ GB.head (kind, (addr, stamp, ()), refs, body, ())) ++ (refsBytes refs ++ List.replicate (128 - 8 * refs.length) 0)) ++ (body ++ List.replicate (860 - body.length) 0) := by
      rw [hsplit]; simp
    have hl : ((S ++ GB.head (kind, (addr, stamp, ()), refs, body, ())) ++ (refsBytes refs ++ List.replicate (128 - 8 * refs.length) 0)).length = 164 := by
      rw [List.length_append, hpre, List.length_append, refsBytes_length, List.length_replicate]; omega
    rw [e1, ← hl, List.drop_left, List.take_left]
  rw [hbody]
  simp only [Prod.mk.injEq, and_true]
  omega
theorem GB.read_bytes (b : GBT) (h : GB.ok b = true) : GB.read (GB.bytes b) = (0, b) := by
  obtain ⟨_, _, hn, hb, _⟩ := GB.ok_spec h
  have hp := GB.parse_bytes b h
  have e1 : (GB.bytes b).drop 16 = GB.rest b := by unfold GB.bytes; rw [← Sha.sum_len (GB.rest b), List.drop_left]
  have e2 : (GB.bytes b).take 16 = Sha.sum (GB.rest b) := by unfold GB.bytes; rw [← Sha.sum_len (GB.rest b), List.take_left]
  have e3 : at4 (GB.bytes b) 28 = b.2.2.1.length := by
    have := congrArg (fun x : GBT => x.2.2.1.length) hp
    simpa [GB.parse] using this
  have e4 : at4 (GB.bytes b) 32 = b.2.2.2.1.length ∨ at4 (GB.bytes b) 32 > 860 := by
    have := congrArg (fun x : GBT => x.2.2.2.1.length) hp
    simp only [GB.parse, List.length_take, List.length_drop, GB.bytes_length b hn hb] at this
    omega
  have e5 : at4 (GB.bytes b) 32 = b.2.2.2.1.length := by
    have hh : GB.bytes b = (Sha.sum (GB.rest b) ++ (le4 b.1.toNat ++ (le4 b.2.1.1.toNat ++ (le4 b.2.1.2.1.toNat ++ le4 b.2.2.1.length)))) ++ (le4 b.2.2.2.1.length ++ (refsBytes b.2.2.1 ++ (List.replicate (128 - 8 * b.2.2.1.length) 0 ++ GB.tail b))) := by
      conv => lhs; unfold GB.bytes
      conv => lhs; rhs; unfold GB.rest GB.head
      simp
    rw [hh, at4_app' _ _ 0 _ (by simp [le4_length, Sha.sum_len]), at4_le4 _ (by omega)]
  clear e4
  unfold GB.read
  rw [if_neg (by rw [GB.bytes_length b hn hb]; simp), e1, e2, if_neg (by simp), e3, e5, if_neg (by omega), hp, if_pos ⟨h, rfl⟩]
theorem GB.read_cases (raw : List UInt8) : (GB.read raw).1 = 4 ∧ (GB.read raw).2 = GB.none_ ∨ (GB.read raw).1 = 12 ∧ (GB.read raw).2 = GB.none_ ∨
    GB.read raw = (0, GB.parse raw) ∧ GB.ok (GB.parse raw) = true ∧ GB.bytes (GB.parse raw) = raw := by
  unfold GB.read
  by_cases h1 : raw.length ≠ 1024
  · rw [if_pos h1]; exact .inl ⟨rfl, rfl⟩
  · rw [if_neg h1]
    by_cases h2 : Sha.sum (raw.drop 16) ≠ raw.take 16
    · rw [if_pos h2]; exact .inr (.inl ⟨rfl, rfl⟩)
    · rw [if_neg h2]
      by_cases h3 : 16 < at4 raw 28 ∨ 860 < at4 raw 32
      · rw [if_pos h3]; exact .inl ⟨rfl, rfl⟩
      · rw [if_neg h3]
        by_cases h4 : GB.ok (GB.parse raw) = true ∧ GB.rest (GB.parse raw) = raw.drop 16
        · rw [if_pos h4]
          refine .inr (.inr ⟨rfl, h4.1, ?_⟩)
          have h2' : Sha.sum (raw.drop 16) = raw.take 16 := by simpa using h2
          unfold GB.bytes
          rw [h4.2, h2', List.take_append_drop]
        · rw [if_neg h4]; exact .inl ⟨rfl, rfl⟩
end Go.Proofs.YtfoegmjpfkmggaaGreatDoor

/- A message's header, its bytes, how they are read back. Plain facts. No condition. -/
namespace Go.Proofs.YtfoegmjpfkmggaaGreatDoor
/-! ### Numbers of eight bytes, the lowest first -/
def le8 (n : Nat) : List UInt8 := le4 (n % 4294967296) ++ le4 (n / 4294967296)
def at8 (l : List UInt8) (p : Nat) : Nat := at4 l p + 4294967296 * at4 l (p + 4)
theorem le8_length (n : Nat) : (le8 n).length = 8 := rfl
theorem at8_lt (l : List UInt8) (p : Nat) : at8 l p < 18446744073709551616 := by
  have := at4_lt l p; have := at4_lt l (p + 4); unfold at8; omega
theorem at8_app' (a b : List UInt8) (p q : Nat) (h : q = a.length + p) : at8 (a ++ b) q = at8 b p := by
  unfold at8; rw [at4_app' a b p q h, at4_app' a b (p + 4) (q + 4) (by omega)]
theorem at8_le8 (n : Nat) (h : n < 18446744073709551616) (r : List UInt8) : at8 (le8 n ++ r) 0 = n := by
  unfold at8 le8
  rw [List.append_assoc, at4_le4 _ (Nat.mod_lt _ (by omega)), at4_app' _ _ 0 _ (by simp [le4_length]), at4_le4 _ (by omega)]
  omega
/-! ### A header: sixteen numbers: Command, Replica, Size, View, LogView, Op, Parent, Commit, Mark; Client (high, low); Request, Operation; Time; Address, Stamp -/
abbrev HdF := Nat → Int
def tenI : List Nat := [3, 4, 5, 6, 7, 8, 11, 12, 14, 15]
def numOk (x : Int) : Bool := decide (0 ≤ x) && decide (x ≤ 1073741824)
def Hd.ok (f : HdF) : Bool := decide (1 ≤ f 0) && decide (f 0 ≤ 31) && decide (0 ≤ f 1) && decide (f 1 ≤ 6) && decide (0 ≤ f 2) && decide (f 2 ≤ 1024) && tenI.all fun i => numOk (f i)
/-- The numbers are what Go's types hold. -/
def Hd.in_ (f : HdF) : Prop := 0 ≤ f 9 ∧ f 9 < 18446744073709551616 ∧ 0 ≤ f 10 ∧ f 10 < 18446744073709551616 ∧ 0 ≤ f 13 ∧ f 13 < 18446744073709551616
def four_ (f : HdF) (l : List Nat) : List UInt8 := l.flatMap fun i => le4 (f i).toNat
/-- The fields' bytes. -/
def Hd.mid (f : HdF) : List UInt8 := four_ f [0, 1, 2, 3, 4, 5, 6, 7, 8] ++ (le8 (f 10).toNat ++ (le8 (f 9).toNat ++ (four_ f [11, 12] ++ (le8 (f 13).toNat ++ four_ f [14, 15]))))
/-- What stands behind a header's seal, s being the body's. -/
def Hd.rest (f : HdF) (s : List UInt8) : List UInt8 := s ++ (Hd.mid f ++ List.replicate 148 0)
def Hd.head (f : HdF) (s : List UInt8) : List UInt8 := Sha.sum (Hd.rest f s) ++ Hd.rest f s
def Hd.bytes (f : HdF) (body : List UInt8) : List UInt8 := Hd.head f (Sha.sum body) ++ body
theorem Hd.mid_length (f : HdF) : (Hd.mid f).length = 76 := rfl
theorem Hd.rest_length (f : HdF) (s : List UInt8) (hs : s.length = 16) : (Hd.rest f s).length = 240 := by
  unfold Hd.rest; rw [List.length_append, List.length_append, Hd.mid_length, List.length_replicate, hs]
theorem Hd.head_length (f : HdF) (s : List UInt8) (hs : s.length = 16) : (Hd.head f s).length = 256 := by
  unfold Hd.head; rw [List.length_append, Sha.sum_len, Hd.rest_length f s hs]
/-- What the bytes of a header say. -/
def Hd.parse (r : List UInt8) : HdF := fun i =>
  if i < 9 then at4 r (32 + 4 * i) else if i = 9 then at8 r 76 else if i = 10 then at8 r 68 else if i = 11 then at4 r 84 else if i = 12 then at4 r 88 else if i = 13 then at8 r 92 else if i = 14 then at4 r 100 else at4 r 104
theorem Hd.parse_in (r : List UInt8) : Hd.in_ (Hd.parse r) := by
  have h1 := at8_lt r 76; have h2 := at8_lt r 68; have h3 := at8_lt r 92
  unfold Hd.in_ Hd.parse
  simp
  omega
/-- Two headers are the same. -/
def Hd.same (f g : HdF) : Prop := ∀ i, i < 16 → f i = g i
theorem Hd.ok_spec {f : HdF} (h : Hd.ok f = true) : (1 ≤ f 0 ∧ f 0 ≤ 31 ∧ 0 ≤ f 1 ∧ f 1 ≤ 6 ∧ 0 ≤ f 2 ∧ f 2 ≤ 1024) ∧ ∀ i ∈ tenI, 0 ≤ f i ∧ f i ≤ 1073741824 := by
  simp only [Hd.ok, Bool.and_eq_true, decide_eq_true_eq, List.all_eq_true, numOk] at h
  exact ⟨⟨h.1.1.1.1.1.1, h.1.1.1.1.1.2, h.1.1.1.1.2, h.1.1.1.2, h.1.1.2, h.1.2⟩, h.2⟩
theorem Hd.ok_nat {f : HdF} (h : Hd.ok f = true) : ∀ i ∈ [0, 1, 2, 3, 4, 5, 6, 7, 8, 11, 12, 14, 15], 0 ≤ f i ∧ f i < 4294967296 := by
  obtain ⟨h1, h2⟩ := Hd.ok_spec h
  intro i hi
  by_cases h3 : i < 3
  · have : i = 0 ∨ i = 1 ∨ i = 2 := by omega
    rcases this with rfl | rfl | rfl <;> omega
  · have := h2 i (by simp [tenI] at hi ⊢; omega)
    omega
theorem Hd.same_ok {f g : HdF} (h : Hd.same f g) : Hd.ok f = Hd.ok g := by
  unfold Hd.ok
  rw [h 0 (by omega), h 1 (by omega), h 2 (by omega)]
  congr 1
  simp only [tenI, List.all_cons, List.all_nil]
  rw [h 3 (by omega), h 4 (by omega), h 5 (by omega), h 6 (by omega), h 7 (by omega), h 8 (by omega), h 11 (by omega), h 12 (by omega), h 14 (by omega), h 15 (by omega)]
theorem Hd.same_mid {f g : HdF} (h : Hd.same f g) : Hd.mid f = Hd.mid g := by
  unfold Hd.mid four_
  simp only [List.flatMap_cons, List.flatMap_nil]
  rw [h 0 (by omega), h 1 (by omega), h 2 (by omega), h 3 (by omega), h 4 (by omega), h 5 (by omega), h 6 (by omega), h 7 (by omega), h 8 (by omega), h 9 (by omega), h 10 (by omega), h 11 (by omega), h 12 (by omega), h 13 (by omega), h 14 (by omega), h 15 (by omega)]
theorem at4_four (f : HdF) (l : List Nat) (r : List UInt8) (j i : Nat) (hj : l[j]? = some i) (hf : 0 ≤ f i ∧ f i < 4294967296) : (at4 (four_ f l ++ r) (4 * j) : Int) = f i := by
  induction l generalizing j with
  | nil => simp at hj
  | cons x l ih =>
    have e : four_ f (x :: l) ++ r = le4 (f x).toNat ++ (four_ f l ++ r) := by simp [four_]
    rw [e]
    cases j with
    | zero =>
      simp only [List.getElem?_cons_zero, Option.some.injEq] at hj
      subst hj
      rw [Nat.mul_zero, at4_le4 _ (by omega)]; omega
    | succ j =>
      simp only [List.getElem?_cons_succ] at hj
      rw [at4_app' _ _ (4 * j) _ (by rw [le4_length]; omega)]
      exact ih j hj
theorem four_length (f : HdF) (l : List Nat) : (four_ f l).length = 4 * l.length := by
  induction l with
  | nil => rfl
  | cons x l ih => unfold four_ at *; rw [List.flatMap_cons, List.length_append, ih, le4_length, List.length_cons]; omega
/-- What was written is read. -/
theorem Hd.parse_head (f : HdF) (S s t : List UInt8) (hS : S.length = 16) (hs : s.length = 16) (hok : Hd.ok f = true) (hin : Hd.in_ f) : Hd.same (Hd.parse (S ++ (s ++ (Hd.mid f ++ t)))) f := by
  have hn := Hd.ok_nat hok
  have h32 : (S ++ s).length = 32 := by rw [List.length_append, hS, hs]
  rw [← List.append_assoc]
  generalize S ++ s = Q at h32
  have e : Q ++ (Hd.mid f ++ t) = Q ++ (four_ f [0, 1, 2, 3, 4, 5, 6, 7, 8] ++ (le8 (f 10).toNat ++ (le8 (f 9).toNat ++ (four_ f [11, 12] ++ (le8 (f 13).toNat ++ (four_ f [14, 15] ++ t)))))) := by simp [Hd.mid]
  rw [e]
  obtain ⟨i1, i2, i3, i4, i5, i6⟩ := hin
  have l9 : (four_ f [0, 1, 2, 3, 4, 5, 6, 7, 8]).length = 36 := rfl
  have l2 : (four_ f [11, 12]).length = 8 := rfl
  have l2' : (four_ f [14, 15]).length = 8 := rfl
  intro i hi
  unfold Hd.parse
  by_cases h9 : i < 9
  · rw [if_pos h9, at4_app' _ _ (4 * i) _ (by omega)]
    exact at4_four f _ _ i i (by
      have : i = 0 ∨ i = 1 ∨ i = 2 ∨ i = 3 ∨ i = 4 ∨ i = 5 ∨ i = 6 ∨ i = 7 ∨ i = 8 := by omega
      rcases this with rfl | rfl | rfl | rfl | rfl | rfl | rfl | rfl | rfl <;> rfl) (hn i (by
      have : i = 0 ∨ i = 1 ∨ i = 2 ∨ i = 3 ∨ i = 4 ∨ i = 5 ∨ i = 6 ∨ i = 7 ∨ i = 8 := by omega
      simp; omega))
  · rw [if_neg h9]
    have : i = 9 ∨ i = 10 ∨ i = 11 ∨ i = 12 ∨ i = 13 ∨ i = 14 ∨ i = 15 := by omega
    rcases this with rfl | rfl | rfl | rfl | rfl | rfl | rfl
    · rw [if_pos rfl, at8_app' _ _ 44 _ (by omega), at8_app' _ _ 8 _ (by omega), at8_app' _ _ 0 _ (by rw [le8_length]), at8_le8 _ (by omega)]; omega
    · rw [if_neg (by omega), if_pos rfl, at8_app' _ _ 36 _ (by omega), at8_app' _ _ 0 _ (by omega), at8_le8 _ (by omega)]; omega
    · simp only [show ¬ (11 = 9) by omega, show ¬ (11 = 10) by omega, if_false, if_true]
      rw [at4_app' _ _ 52 _ (by omega), at4_app' _ _ 16 _ (by omega), at4_app' _ _ 8 _ (by rw [le8_length]), at4_app' _ _ 0 _ (by rw [le8_length])]
      exact at4_four f [11, 12] _ 0 11 rfl (hn 11 (by simp))
    · simp only [show ¬ (12 = 9) by omega, show ¬ (12 = 10) by omega, show ¬ (12 = 11) by omega, if_false, if_true]
      rw [at4_app' _ _ 56 _ (by omega), at4_app' _ _ 20 _ (by omega), at4_app' _ _ 12 _ (by rw [le8_length]), at4_app' _ _ 4 _ (by rw [le8_length])]
      exact at4_four f [11, 12] _ 1 12 rfl (hn 12 (by simp))
    · simp only [show ¬ (13 = 9) by omega, show ¬ (13 = 10) by omega, show ¬ (13 = 11) by omega, show ¬ (13 = 12) by omega, if_false, if_true]
      rw [at8_app' _ _ 60 _ (by omega), at8_app' _ _ 24 _ (by omega), at8_app' _ _ 16 _ (by rw [le8_length]), at8_app' _ _ 8 _ (by rw [le8_length]), at8_app' _ _ 0 _ (by rw [l2]), at8_le8 _ (by omega)]; omega
    · simp only [show ¬ (14 = 9) by omega, show ¬ (14 = 10) by omega, show ¬ (14 = 11) by omega, show ¬ (14 = 12) by omega, show ¬ (14 = 13) by omega, if_false, if_true]
      rw [at4_app' _ _ 68 _ (by omega), at4_app' _ _ 32 _ (by omega), at4_app' _ _ 24 _ (by rw [le8_length]), at4_app' _ _ 16 _ (by rw [le8_length]), at4_app' _ _ 8 _ (by rw [l2]), at4_app' _ _ 0 _ (by rw [le8_length])]
      exact at4_four f [14, 15] _ 0 14 rfl (hn 14 (by simp))
    · simp only [show ¬ (15 = 9) by omega, show ¬ (15 = 10) by omega, show ¬ (15 = 11) by omega, show ¬ (15 = 12) by omega, show ¬ (15 = 13) by omega, show ¬ (15 = 14) by omega, if_false]
      rw [at4_app' _ _ 72 _ (by omega), at4_app' _ _ 36 _ (by omega), at4_app' _ _ 28 _ (by rw [le8_length]), at4_app' _ _ 20 _ (by rw [le8_length]), at4_app' _ _ 12 _ (by rw [l2]), at4_app' _ _ 4 _ (by rw [le8_length])]
      exact at4_four f [14, 15] _ 1 15 rfl (hn 15 (by simp))
/-! ### Which header, which message bytes are -/
def Hd.none_ : HdF := fun _ => 0
def Hd.read (r : List UInt8) : Int × HdF :=
  if r.length ≠ 256 then (4, Hd.none_)
  else if Sha.sum (r.drop 16) ≠ r.take 16 then (12, Hd.none_)
  else if Hd.ok (Hd.parse r) = true ∧ Hd.rest (Hd.parse r) ((r.drop 16).take 16) = r.drop 16 then (0, Hd.parse r) else (4, Hd.none_)
def Msg.read (r : List UInt8) : Int × HdF × List UInt8 :=
  if r.length < 256 then (4, Hd.none_, [])
  else if (Hd.read (r.take 256)).1 ≠ 0 then ((Hd.read (r.take 256)).1, Hd.none_, [])
  else if ((r.length - 256 : Nat) : Int) ≠ Hd.parse (r.take 256) 2 then (4, Hd.none_, [])
  else if Sha.sum (r.drop 256) ≠ (r.drop 16).take 16 then (12, Hd.none_, []) else (0, Hd.parse (r.take 256), r.drop 256)
theorem Hd.read_cases (r : List UInt8) : (Hd.read r = (4, Hd.none_) ∨ Hd.read r = (12, Hd.none_)) ∨ (Hd.read r = (0, Hd.parse r) ∧ r.length = 256 ∧ Hd.ok (Hd.parse r) = true ∧ Hd.head (Hd.parse r) ((r.drop 16).take 16) = r) := by
  unfold Hd.read
  by_cases h1 : r.length ≠ 256
  · rw [if_pos h1]; exact .inl (.inl rfl)
  rw [if_neg h1]
  by_cases h2 : Sha.sum (r.drop 16) ≠ r.take 16
  · rw [if_pos h2]; exact .inl (.inr rfl)
  rw [if_neg h2]
  by_cases h3 : Hd.ok (Hd.parse r) = true ∧ Hd.rest (Hd.parse r) ((r.drop 16).take 16) = r.drop 16
  · rw [if_pos h3]
    refine .inr ⟨rfl, by simpa using h1, h3.1, ?_⟩
    unfold Hd.head
    rw [h3.2, show Sha.sum (r.drop 16) = r.take 16 by simpa using h2, List.take_append_drop]
  · rw [if_neg h3]; exact .inl (.inl rfl)
theorem Hd.read_head (f : HdF) (s : List UInt8) (hs : s.length = 16) (hok : Hd.ok f = true) (hin : Hd.in_ f) : (Hd.read (Hd.head f s)).1 = 0 ∧ Hd.same (Hd.read (Hd.head f s)).2 f := by
  have hsame : Hd.same (Hd.parse (Hd.head f s)) f := Hd.parse_head f _ s _ (Sha.sum_len _) hs hok hin
  have e1 : (Hd.head f s).drop 16 = Hd.rest f s := by unfold Hd.head; rw [← Sha.sum_len (Hd.rest f s), List.drop_left]
  have e2 : (Hd.head f s).take 16 = Sha.sum (Hd.rest f s) := by unfold Hd.head; rw [← Sha.sum_len (Hd.rest f s), List.take_left]
  have e3 : (Hd.rest f s).take 16 = s := by unfold Hd.rest; rw [← hs, List.take_left]
  have e4 : Hd.rest (Hd.parse (Hd.head f s)) s = Hd.rest f s := by unfold Hd.rest; rw [Hd.same_mid hsame]
  unfold Hd.read
  rw [if_neg (by rw [Hd.head_length f s hs]; simp), e1, e2, if_neg (by simp), e3, e4, if_pos ⟨by rw [Hd.same_ok hsame]; exact hok, rfl⟩]
  exact ⟨rfl, hsame⟩
end Go.Proofs.YtfoegmjpfkmggaaGreatDoor

/- The fields of a header as pointers. No condition. -/
namespace Go.Proofs.YtfoegmjpfkmggaaGreatDoor
open Go.RowKit
def pt (hb i : Nat) : Value := .pointer (some ⟨hb, i, none⟩)
def pts (hb : Nat) (l : List Nat) : Array Value := (l.map (pt hb)).toArray
theorem results_cells3 {P : Program} {fn : Func} {p1 p2 p3 : Tmp} {t1 t2 t3 : TypeId} (h : fn.results = #[.cell p1 t1, .cell p2 t2, .cell p3 t3]) (tmps : Array Value) (w : World) (g1 g2 g3 : Nat) (v1 v2 v3 : Value)
    (hp1 : tmps.getD p1 undef = .pointer (some ⟨g1, 0, none⟩)) (hp2 : tmps.getD p2 undef = .pointer (some ⟨g2, 0, none⟩)) (hp3 : tmps.getD p3 undef = .pointer (some ⟨g3, 0, none⟩))
    (h1 : (loadVar t1 ⟨g1, 0, none⟩).run P w = .ok v1 w) (h2 : (loadVar t2 ⟨g2, 0, none⟩).run P w = .ok v2 w) (h3 : (loadVar t3 ⟨g3, 0, none⟩).run P w = .ok v3 w) :
    (results fn tmps).run P w = .ok (.tuple #[v1, v2, v3]) w := by
  have hp1' : tmps[p1]?.getD undef = .pointer (some ⟨g1, 0, none⟩) := by simpa using hp1
  have hp2' : tmps[p2]?.getD undef = .pointer (some ⟨g2, 0, none⟩) := by simpa using hp2
  have hp3' : tmps[p3]?.getD undef = .pointer (some ⟨g3, 0, none⟩) := by simpa using hp3
  simp [results, h, hp1', hp2', hp3', asAddr, h1, h2, h3]
theorem size9p : (Tryz.prog.info? 195).map (·.size) = some 9 := by kernel_rfl
theorem size2p : (Tryz.prog.info? 196).map (·.size) = some 2 := by kernel_rfl
theorem numbers_any (hb : Nat) (w : World) :
    Calls Tryz.prog 135 #[.pointer (some ⟨hb, 0, none⟩)] w fun e w' => e = .returned (.tuple #[.agg (pts hb [0, 1, 2, 3, 4, 5, 6, 7, 8]), .agg (pts hb [11, 12]), .agg (pts hb [14, 15])]) ∧ Below w.heap.size w w' := by
  go_enter Tryz.func135, Tryz.ntmps135
  go_wp2_with fail
  refine wp_region_planT (fun _ => True) [44] [(true, 0), (true, 1), (true, 2), (true, 3), (true, 4), (true, 5), (true, 6), (true, 7), (true, 8), (true, 9), (true, 10), (true, 11), (true, 12), (true, 13), (true, 14), (true, 15), (true, 16), (true, 17), (true, 18), (true, 19), (true, 20), (true, 21), (true, 22), (true, 23), (true, 24), (true, 25), (true, 26), (true, 27), (true, 28), (true, 29), (true, 30), (true, 31), (true, 32), (true, 33), (true, 34), (true, 35), (true, 36), (true, 37), (true, 38), (true, 39), (true, 40), (true, 41), (false, 42), (false, 43), (false, 44)] (by kernel_rfl) (by kernel_rfl) (trivial) ?_
  refine wpPlan_pure [0, 1, 2, 3, 4, 5, 6, 7, 8, 9, 10, 11, 12, 13, 14, 15, 16, 17, 18, 19, 20, 21, 22, 23, 24, 25, 26, 27, 28, 29, 30, 31, 32, 33, 34, 35, 36, 37, 38, 39, 40, 41] [(false, 42), (false, 43), (false, 44)] _ (by rfl) (by rfl) ?_
  dsimp only [List.filterMap, List.getElem?_cons_zero, List.getElem?_cons_succ]
  repeat (go_big_quiet_step (fail))
  refine wpQuiet_nil ?_
  refine wpPlan_forceL _ rfl ?_
  go_wp2_with fail
  refine PlanQ.in_ trivial ?_
  refine wpPlan_forceL _ rfl ?_
  go_wp2_with fail
  refine PlanQ.in_ trivial ?_
  refine wpPlan_forceL _ rfl ?_
  go_wp2_with fail
  refine PlanQ.in_ trivial ?_
  refine wpPlan_tidy ?_
  go_wp2
  have b1 := Blk.new w 195 (pts hb [0, 1, 2, 3, 4, 5, 6, 7, 8])
  have b2 := Blk.new (w.alloc (.cells (pts hb [0, 1, 2, 3, 4, 5, 6, 7, 8]) 195)) 196 (pts hb [11, 12])
  have b3 := Blk.new ((w.alloc (.cells (pts hb [0, 1, 2, 3, 4, 5, 6, 7, 8]) 195)).alloc (.cells (pts hb [11, 12]) 196)) 196 (pts hb [14, 15])
  replace b1 := (b1.alloc (.cells (pts hb [11, 12]) 196)).alloc (.cells (pts hb [14, 15]) 196)
  replace b2 := b2.alloc (.cells (pts hb [14, 15]) 196)
  rw [show (w.alloc (.cells (pts hb [0, 1, 2, 3, 4, 5, 6, 7, 8]) 195)).heap.size = w.heap.size + 1 by simp] at b2
  rw [show ((w.alloc (.cells (pts hb [0, 1, 2, 3, 4, 5, 6, 7, 8]) 195)).alloc (.cells (pts hb [11, 12]) 196)).heap.size = w.heap.size + 1 + 1 by simp] at b3
  have hB := ((((Below.refl w.heap.size w).alloc (Nat.le_refl _) (.cells (pts hb [0, 1, 2, 3, 4, 5, 6, 7, 8]) 195)).alloc (by simp) (.cells (pts hb [11, 12]) 196)).alloc (by simp; omega) (.cells (pts hb [14, 15]) 196)).drew
  refine bodyPost_ret (results_cells3 (by rfl) _ _ w.heap.size (w.heap.size + 1) (w.heap.size + 1 + 1) _ _ _ (by rfl) (by rfl) (by rfl)
    (run_loadVar_row _ _ _ _ _ _ _ b1.drew Tryz.underlying195 (by rfl) size9p) (run_loadVar_row _ _ _ _ _ _ _ b2.drew Tryz.underlying196 (by rfl) size2p) (run_loadVar_row _ _ _ _ _ _ _ b3.drew Tryz.underlying196 (by rfl) size2p)) rfl ⟨rfl, hB⟩
end Go.Proofs.YtfoegmjpfkmggaaGreatDoor

/- Append onto a slice that is full: the list stands in a new block, whatever the old one lay in. Plain facts over any program. No condition. -/
namespace Go
open Go.RowKit
section
variable {P : Program} (w : World)
theorem run_append_full (base : Nat) (t ty e : TypeId) (i : TypeInfo) (z : Value) (size bytes : Nat) (ht : P.underlying t = some (.slice e)) (hi : P.info? e = some i) (hz : i.zero = some z)
    (hsize : i.size = size) (hby : i.bytes = bytes) (hzs : z.cells.size = size) (hsz : 0 < size)
    (A0 : Option Addr) (n : Nat) (olds : List Value) (hl0 : olds.length = n * size) (hn0 : 0 < n) (hr0 : Reads w A0 olds)
    (A : Option Addr) (m c : Nat) (news : List Value) (hl : news.length = m * size) (hr : Reads w A news) (hm : 0 < m)
    (h63 : n + m ≤ maxLen) (hbytes : (n + m) * bytes ≤ 140737488355328) (hbase : base ≤ w.heap.size) :
    ∃ v' w' sp', (Builtin.append_ #[t, t] ty #[.slice A0 n n, .slice A m c]).run P w = .ok v' w' ∧ OwnsC e size w' base v' (n + m) (olds ++ news) sp' ∧ w.grownBy w' none ∧ v'.ownBlock = some w.heap.size := by
  subst hsize
  subst hby
  have hne : news ≠ [] := by intro h; have := Nat.mul_pos hm hsz; rw [h] at hl; simp only [List.length_nil] at hl; omega
  have hne0 : olds ≠ [] := by intro h; have := Nat.mul_pos hn0 hsz; rw [h] at hl0; simp only [List.length_nil] at hl0; omega
  obtain ⟨b, off, rfl, hc⟩ := hr hne
  obtain ⟨g, o0, rfl, hc0⟩ := hr0 hne0
  have hnews : ∀ j u, news[j]? = some u → w.cell? ((⟨b, off, none⟩ : Addr).add j) = some u := fun j u hu => by rw [Addr.add_lit]; exact hc j u hu
  have holds : ∀ j u, olds[j]? = some u → w.cell? ((⟨g, o0, none⟩ : Addr).add j) = some u := fun j u hu => by rw [Addr.add_lit]; exact hc0 j u hu
  have hsmall : n + m ≤ 9223372036854775807 := by simp only [maxLen] at h63; omega
  have hlen : (olds ++ news).length = (n + m) * i.size := by rw [List.length_append, hl0, hl, Nat.add_mul]
  have hrun := run_append_grow (P := P) w t ty e i z ht hi hz ⟨g, o0, none⟩ n n olds hl0 holds ⟨b, off, none⟩ m c news hl hnews (by omega) (by omega) (growslice_fits (by omega) hbytes)
  refine ⟨_, _, (Builtin.zeroCells z.cells (grownCap w (n + m) n e - (n + m))).toList, hrun, .inr ⟨w.heap.size, _, rfl, hbase, ?_, grownCap_ge w (n + m) n e, grownCap_le_maxLen w (n + m) n e h63, hlen, ?_⟩, ⟨rfl, rfl, rfl, by simp, fun k (hk : k < w.drew.heap.size) _ => Below.heap_alloc w.drew _ k hk⟩, rfl⟩
  · have := Blk.new w.drew e (olds.toArray ++ news.toArray ++ Builtin.zeroCells z.cells (grownCap w (n + m) n e - (n + m)))
    refine this.sub ?_
    simp
  · rw [Array.length_toList, size_zeroCells, hzs]
end
section
variable {P : Program} {w : World}
theorem wpList_append_full {ops : Array Oper} {rest : List Oper} {o : Oper} {a : Act} {Q : Exit → Act → World → Prop} (hgd : o.guard = none) (s x : Operand) (t : TypeId)
    (ho : o.op = .call { callee := .builtin .append, args := #[s, x], argTypes := #[t, t] })
    (base : Nat) (e : TypeId) (z : Value) (size bytes : Nat) (ht : P.underlying t = some (.slice e)) (hi : (P.info? e).map (fun i => (i.zero, i.size, i.bytes)) = some (some z, size, bytes)) (hzs : z.cells.size = size) (hsz : 0 < size)
    (A0 : Option Addr) (n : Nat) (olds : List Value) (hs : a.eval s = .slice A0 n n) (hl0 : olds.length = n * size) (hn0 : 0 < n) (hr0 : Reads w A0 olds)
    (A : Option Addr) (m c : Nat) (news : List Value) (hx : a.eval x = .slice A m c) (hl : news.length = m * size) (hr : Reads w A news) (hm : 0 < m)
    (h63 : n + m ≤ maxLen) (hbytes : (n + m) * bytes ≤ 140737488355328) (hbase : base ≤ w.heap.size)
    (h : ∀ v' w' sp', OwnsC e size w' base v' (n + m) (olds ++ news) sp' → Below w.heap.size w w' → v'.ownBlock = some w.heap.size → wpList P ops Q rest (a.put o.dst v') w') : wpList P ops Q (o :: rest) a w := by
  refine wpList_plain hgd fun _ hK => ?_
  obtain ⟨i, hi0, hz, hsize, hby⟩ := info_parts hi
  obtain ⟨v', w', sp', hrun, h2, h3, h4⟩ := run_append_full (P := P) w base t o.type e i z size bytes ht hi0 hz hsize hby hzs hsz A0 n olds hl0 hn0 hr0 A m c news hl hr hm h63 hbytes hbase
  unfold Oper.wp execOp
  simp only [ho, resolve, invoke, builtin, Sem.run_bind, Sem.run_pure, Result.andThen_ok, List.map_toArray, List.map_cons, List.map_nil, hs, hx, hrun]
  exact hK _ _ (h v' w' sp' h2 ((Below.refl _ _).grown h3 (Nat.le_refl _) (fun k hk => by cases hk)) h4)
/-- The same of an own list. -/
theorem wpList_append_all {ops : Array Oper} {rest : List Oper} {o : Oper} {a : Act} {Q : Exit → Act → World → Prop} (hgd : o.guard = none) (s x : Operand) (t : TypeId)
    (ho : o.op = .call { callee := .builtin .append, args := #[s, x], argTypes := #[t, t] })
    (base : Nat) (e : TypeId) (z : Value) (size bytes : Nat) (ht : P.underlying t = some (.slice e)) (hi : (P.info? e).map (fun i => (i.zero, i.size, i.bytes)) = some (some z, size, bytes)) (hzs : z.cells.size = size) (hsz : 0 < size)
    (v : Value) (n : Nat) (xs sp : List Value) (hs : a.eval s = v) (hown : OwnsC e size w base v n xs sp)
    (A : Option Addr) (m c : Nat) (news : List Value) (hx : a.eval x = .slice A m c) (hl : news.length = m * size) (hr : Reads w A news) (h1 : ∀ u ∈ news, u.oneCell' = true)
    (h63 : n + m ≤ maxLen) (hbytes : (n + m) * bytes ≤ 140737488355328) (hbase : base ≤ w.heap.size)
    (h : ∀ v' w' sp', OwnsC e size w' base v' (n + m) (xs ++ news) sp' → w.grownBy w' v.ownBlock → wpList P ops Q rest (a.put o.dst v') w') : wpList P ops Q (o :: rest) a w :=
  wpList_plain hgd fun _ hK => wp_append_all s x t ho base e z size bytes ht hi hzs hsz v n xs sp hs hown A m c news hx hl hr h1 h63 hbytes hbase fun v' w' sp' h1 h2 _ _ _ => hK _ _ (h v' w' sp' h1 h2)
end
end Go

/- May a header be: the program's answer. No condition. -/
namespace Go.Proofs.YtfoegmjpfkmggaaGreatDoor
open Go.RowKit
def hdv (f : HdF) (i : Nat) : Value := if i = 9 ∨ i = 10 ∨ i = 13 then .int .u64 (f i) else .int .i64 (f i)
def hdc (f : HdF) : Array Value := arr 16 (hdv f)
theorem hdc_at (f : HdF) (i : Nat) (h : i < 16) (h9 : i ≠ 9) (h10 : i ≠ 10) (h13 : i ≠ 13) : (hdc f)[i]? = some (.int .i64 (f i)) := by
  unfold hdc; rw [arr_at _ h]; unfold hdv; rw [if_neg (by omega)]
theorem hdc_u (f : HdF) (i : Nat) (h : i = 9 ∨ i = 10 ∨ i = 13) : (hdc f)[i]? = some (.int .u64 (f i)) := by
  unfold hdc; rw [arr_at _ (by omega)]; unfold hdv; rw [if_pos h]
theorem ptrinfo : (Tryz.prog.info? 194).map (fun i => (i.zero, i.size, i.bytes)) = some (some (.pointer none), 1, 8) := by kernel_rfl
theorem _root_.Go.Blk.reads {w : World} {g : Nat} {t : TypeId} {cs : Array Value} (h : Blk w g t cs) (o : Nat) (l : List Value) (hl : ∀ j v, l[j]? = some v → cs[o + j]? = some v) : Reads w (some ⟨g, o, none⟩) l := fun _ => ⟨g, o, rfl, fun j v hv => h.at_ (o + j) (hl j v hv)⟩
theorem pts_at (hb : Nat) (l : List Nat) (o : Nat) : ∀ j v, ((l.drop o).map (pt hb))[j]? = some v → (pts hb l)[o + j]? = some v := by
  intro j v hv
  unfold pts
  rw [List.getElem?_toArray, List.getElem?_map]
  rw [List.getElem?_map, List.getElem?_drop] at hv
  exact hv
theorem pt_one (hb : Nat) (l : List Nat) : ∀ u ∈ l.map (pt hb), u.oneCell' = true := by
  intro u hu; simp only [List.mem_map] at hu; obtain ⟨i, _, rfl⟩ := hu; rfl
def Hd.code (f : HdF) : Int := if Hd.ok f then 0 else 2
def ChkRel (f : HdF) (v : Value) : Prop := ∃ k : Nat, k ≤ 10 ∧ v = .int .i64 (k : Int) ∧ ∀ j, j < k → numOk (f (tenI.getD j 0)) = true
theorem hcheck_any (f : HdF) (w : World) :
    Calls Tryz.prog 116 #[.agg (hdc f)] w fun e w' => e = .returned (.int .i64 (Hd.code f)) ∧ Below w.heap.size w w' := by
  have hg := Blk.new w 38 (hdc f)
  have hB0 := (Below.refl w.heap.size w).alloc (Nat.le_refl _) (.cells (hdc f) 38)
  go_enter Tryz.func116, Tryz.ntmps116
  go_wp2_with fail
  generalize hw0 : w.alloc (.cells (hdc f) 38) = w0 at hg hB0 ⊢
  have hlt := hg.lt
  clear hw0
  refine (numbers_any w.heap.size w0).mono ?_
  rintro e w1 ⟨rfl, hB1⟩
  have hg1 := hg.below hB1 hlt
  have hB01 := hB0.trans (hB1.mono hB0.size)
  have HB01 := Lib.hid hB01
  clear hB01
  generalize w.heap.size = hb at hg1 hlt ⊢
  have b1 := Blk.new w1 195 (pts hb [0, 1, 2, 3, 4, 5, 6, 7, 8])
  have b2 := Blk.new (w1.alloc (.cells (pts hb [0, 1, 2, 3, 4, 5, 6, 7, 8]) 195)) 196 (pts hb [11, 12])
  have b3 := Blk.new ((w1.alloc (.cells (pts hb [0, 1, 2, 3, 4, 5, 6, 7, 8]) 195)).alloc (.cells (pts hb [11, 12]) 196)) 196 (pts hb [14, 15])
  replace b1 := (b1.alloc (.cells (pts hb [11, 12]) 196)).alloc (.cells (pts hb [14, 15]) 196)
  replace b2 := b2.alloc (.cells (pts hb [14, 15]) 196)
  rw [show (w1.alloc (.cells (pts hb [0, 1, 2, 3, 4, 5, 6, 7, 8]) 195)).heap.size = w1.heap.size + 1 by simp] at b2
  rw [show ((w1.alloc (.cells (pts hb [0, 1, 2, 3, 4, 5, 6, 7, 8]) 195)).alloc (.cells (pts hb [11, 12]) 196)).heap.size = w1.heap.size + 1 + 1 by simp] at b3
  have hB2 := (((Below.refl w1.heap.size w1).alloc (Nat.le_refl _) (.cells (pts hb [0, 1, 2, 3, 4, 5, 6, 7, 8]) 195)).alloc (by simp) (.cells (pts hb [11, 12]) 196)).alloc (by simp; omega) (.cells (pts hb [14, 15]) 196)
  have hg2 := hg1.below hB2 hg1.lt
  have H2 := Lib.hid (And.intro b1 (And.intro b2 (And.intro b3 (And.intro hg2 hB2))))
  clear b1 b2 b3 hg2 hB2 hg hB0 hB1
  simp only [pts, pt, List.map_cons, List.map_nil] at H2 ⊢
  go_wp2_with fail
  obtain ⟨b1, b2, b3, hg2, hB2⟩ := H2.out
  clear H2
  generalize ((w1.alloc _).alloc _).alloc _ = w2 at b1 b2 b3 hg2 hB2 ⊢
  generalize w1.heap.size = g1 at b1 b2 b3 ⊢
  have r1 : Reads w2.drew (some ⟨g1, 3, none⟩) ([3, 4, 5, 6, 7, 8].map (pt hb)) := Blk.reads (cs := pts hb [0, 1, 2, 3, 4, 5, 6, 7, 8]) b1.drew 3 _ (pts_at hb [0, 1, 2, 3, 4, 5, 6, 7, 8] 3)
  have r2 : Reads w2.drew (some ⟨g1 + 1, 0, none⟩) ([11, 12].map (pt hb)) := Blk.reads (cs := pts hb [11, 12]) b2.drew 0 _ (pts_at hb [11, 12] 0)
  have hl3 := b3.lt
  refine wp_region_planT (fun _ => True) [] [(true, 0), (true, 1), (true, 3), (true, 6), (false, 2), (false, 4), (true, 5)] (by kernel_rfl) (by kernel_rfl) (trivial) ?_
  refine wpPlan_pure [0, 1, 3, 6] [(false, 2), (false, 4), (true, 5)] _ (by rfl) (by rfl) ?_
  dsimp only [List.filterMap, List.getElem?_cons_zero, List.getElem?_cons_succ]
  repeat (go_big_quiet_step (fail))
  refine wpQuiet_nil ?_
  refine wpPlan_forceL _ rfl ?_
  go_wp2_with (first
    | (show wpList _ _ _ ((⟨some 15, _, _, _, _, _⟩ : Oper) :: _) _ _; refine wpList_append_full (o := ⟨some 15, _, _, _, _, _⟩) (by rfl) _ _ _ (by rfl) w2.drew.heap.size _ _ 1 8 Tryz.underlying201 ptrinfo (by rfl) (by omega) (some ⟨g1, 3, none⟩) 6 ([3, 4, 5, 6, 7, 8].map (pt hb)) (by rfl) (by rfl) (by omega) r1 (some ⟨g1 + 1, 0, none⟩) 2 2 ([11, 12].map (pt hb)) (by rfl) (by rfl) r2 (by omega) (by unfold maxLen; omega) (by omega) (Nat.le_refl _) ?_; intro v3 w3 sp3 ho3 hb3 hv3)
    | fail)
  refine PlanQ.in_ trivial ?_
  have r3 : Reads w3 (some ⟨g1 + 1 + 1, 0, none⟩) ([14, 15].map (pt hb)) := Blk.reads (cs := pts hb [14, 15]) (b3.drew.below hb3 hl3) 0 _ (pts_at hb [14, 15] 0)
  have hg3 := hg2.drew.below hb3 hg2.lt
  refine wpPlan_forceL _ rfl ?_
  go_wp2_with (first
    | (show wpList _ _ _ ((⟨some 17, _, _, _, _, _⟩ : Oper) :: _) _ _; refine wpList_append_all (o := ⟨some 17, _, _, _, _, _⟩) (by rfl) _ _ _ (by rfl) w2.drew.heap.size _ _ 1 8 Tryz.underlying201 ptrinfo (by rfl) (by omega) v3 8 _ sp3 (by rfl) ho3 (some ⟨g1 + 1 + 1, 0, none⟩) 2 2 ([14, 15].map (pt hb)) (by rfl) (by rfl) r3 (pt_one _ _) (by unfold maxLen; omega) (by omega) hb3.size ?_; intro v4 w4 sp4 ho4 hg4)
    | fail)
  refine PlanQ.in_ trivial ?_
  have hb4 := hb3.grown hg4 hb3.size (fun k hk => by rw [hv3] at hk; cases hk; exact Nat.le_refl _)
  have hgh := hg2.drew.below hb4 hg2.lt
  have hB12 := HB01.out.trans (hB2.mono HB01.out.size)
  have hB4 := hB12.drew.trans (hb4.mono hB12.drew.size)
  obtain ⟨A4, c4, rfl, _, _, hr4, _⟩ := OwnsC.reads ho4
  obtain ⟨bb, off, rfl, hc4⟩ := hr4 (by simp)
  have hpc : ∀ k, k < 10 → w4.cell? ⟨bb, off + k, none⟩ = some (.pointer (some ⟨hb, tenI.getD k 0, none⟩)) := fun k hk => hc4 k _ (by
    have : k = 0 ∨ k = 1 ∨ k = 2 ∨ k = 3 ∨ k = 4 ∨ k = 5 ∨ k = 6 ∨ k = 7 ∨ k = 8 ∨ k = 9 := by omega
    rcases this with rfl | rfl | rfl | rfl | rfl | rfl | rfl | rfl | rfl | rfl <;> rfl)
  have hfc : ∀ i, i < 16 → i ≠ 9 → i ≠ 10 → i ≠ 13 → w4.cell? ⟨hb, i, none⟩ = some (.int .i64 (f i)) := fun i h1 h2 h3 h4 => hgh.at_ i (hdc_at f i h1 h2 h3 h4)
  have HB := Lib.hid hB4
  clear hB4 hB12 hB2 HB01 hc4 hr4 ho4 hg4 hb4 hgh hg3 hg2 hg1 r3 r1 r2 hb3 ho3 b1 b2 b3 hl3
  refine wpPlan_pure [5] [] _ (by rfl) (by rfl) ?_
  dsimp only [List.filterMap, List.getElem?_cons_zero, List.getElem?_cons_succ]
  repeat (go_big_quiet_step (fail))
  refine wpQuiet_nil ?_
  refine wpPlan_tidy ?_
  go_wp2_with fail
  go_loop [19] (fun v => ChkRel f v) (fun v => 10 - (intOf v).toNat)
  case atStart => exact ⟨0, by omega, rfl, fun j hj => by omega⟩
  case round =>
    obtain ⟨k, hk, rfl, hall⟩ := hrel
    by_cases hk10 : k < 10
    · have hmem : tenI.getD k 0 ∈ tenI ∧ tenI.getD k 0 < 16 ∧ tenI.getD k 0 ≠ 9 ∧ tenI.getD k 0 ≠ 10 ∧ tenI.getD k 0 ≠ 13 := by
        have : k = 0 ∨ k = 1 ∨ k = 2 ∨ k = 3 ∨ k = 4 ∨ k = 5 ∨ k = 6 ∨ k = 7 ∨ k = 8 ∨ k = 9 := by omega
        rcases this with rfl | rfl | rfl | rfl | rfl | rfl | rfl | rfl | rfl | rfl <;> decide
      have d0 := hpc k hk10
      have d1 := hfc _ hmem.2.1 hmem.2.2.1 hmem.2.2.2.1 hmem.2.2.2.2
      by_cases hok : numOk (f (tenI.getD k 0)) = true
      · have hall' : ∀ j, j < k + 1 → numOk (f (tenI.getD j 0)) = true := fun j hj => by
          by_cases e : j = k
          · subst e; exact hok
          · exact hall j (by omega)
        have HA := Lib.hid hall'
        generalize tenI.getD k 0 = i at d0 d1 hok
        generalize f i = x at d1 hok
        obtain ⟨x1, x2⟩ : 0 ≤ x ∧ x ≤ 1073741824 := by simpa [numOk] using hok
        clear hall hall' hok hmem hpc hfc
        go_wp2
        go_round
        case rel =>
          have hch : ChkRel f (.int .i64 ((k : Int) + 1)) := ⟨k + 1, by omega, by go_num, HA.out⟩
          exact ⟨_, _, _, hch, rfl, rfl, rfl⟩
        case measure => simp [intOf]; omega
      · have hbad : Hd.code f = 2 := by
          unfold Hd.code; rw [if_neg]
          intro h
          have := (Hd.ok_spec h).2 _ hmem.1
          exact hok (by unfold numOk; rw [decide_eq_true this.1, decide_eq_true this.2]; rfl)
        have HC := Lib.hid hbad
        generalize tenI.getD k 0 = i at d0 d1 hok
        generalize f i = x at d1 hok
        have hx : x < 0 ∨ 1073741824 < x := by
          have : ¬ (0 ≤ x ∧ x ≤ 1073741824) := by simpa [numOk] using hok
          omega
        clear hall hok hmem hpc hfc hbad
        by_cases hx0 : x < 0
        · go_wp2
          go_ret
          exact ⟨ret_int HC.out.symm, HB.out⟩
        · have hx1 : 1073741824 < x := by omega
          go_wp2
          go_ret
          exact ⟨ret_int HC.out.symm, HB.out⟩
    · obtain rfl : k = 10 := by omega
      have hten : (tenI.all fun i => numOk (f i)) = true := by
        have := fun j hj => hall j hj
        simp only [tenI, List.all_cons, List.all_nil, Bool.and_true, Bool.and_eq_true]
        exact ⟨hall 0 (by omega), hall 1 (by omega), hall 2 (by omega), hall 3 (by omega), hall 4 (by omega), hall 5 (by omega), hall 6 (by omega), hall 7 (by omega), hall 8 (by omega), hall 9 (by omega)⟩
      have hcode : Hd.code f = if 1 ≤ f 0 ∧ f 0 ≤ 31 ∧ 0 ≤ f 1 ∧ f 1 ≤ 6 ∧ 0 ≤ f 2 ∧ f 2 ≤ 1024 then 0 else 2 := by
        unfold Hd.code Hd.ok
        rw [hten]
        simp only [Bool.and_true, Bool.and_eq_true, decide_eq_true_eq, and_assoc]
      have HC := Lib.hid hcode
      have d0 := hfc 0 (by omega) (by omega) (by omega) (by omega)
      have d1 := hfc 1 (by omega) (by omega) (by omega) (by omega)
      have d2 := hfc 2 (by omega) (by omega) (by omega) (by omega)
      generalize f 0 = x0 at d0 HC
      generalize f 1 = x1 at d1 HC
      generalize f 2 = x2 at d2 HC
      clear hpc hfc hall hten hcode
      go_wp2
      all_goals
        go_ret
        refine ⟨?_, HB.out⟩
        have hc := HC.out
        rw [hc]
        first
          | (rw [if_pos ⟨by omega, by omega, by omega, by omega, by omega, by omega⟩]; rfl)
          | (rw [if_neg (by simp [*] at *; omega)]; rfl)
end Go.Proofs.YtfoegmjpfkmggaaGreatDoor

/- Four bytes read as a number. Plain facts. -/
namespace Go.Proofs.YtfoegmjpfkmggaaGreatDoor
open Go.RowKit
theorem or_sum (a b k : Nat) (n : Nat) (hn : n = 2 ^ k) (ha : a < n) : a ||| (b * n) = a + b * n := by
  subst hn
  rw [Nat.mul_comm, Nat.or_comm, ← Nat.two_pow_add_eq_or_of_lt ha, Nat.add_comm]
theorem i64_or_nat (a b : Nat) (ha : a < 9223372036854775808) (hb : b < 9223372036854775808) : bits .or .i64 (a : Int) (b : Int) = ((a ||| b : Nat) : Int) := by
  have h2 : a ||| b < 2 ^ 63 := Nat.or_lt_two_pow (by omega) (by omega)
  show IntKind.i64.wrap ((BitVec.ofInt 64 (a : Int) ||| BitVec.ofInt 64 (b : Int)).toNat : Int) = _
  rw [BitVec.toNat_or, ofInt_u64 a (by omega), ofInt_u64 b (by omega), IntWalk.i64_left, IntWalk.wrap64_in _ ⟨by omega, by omega⟩]
theorem or4 (x0 x1 x2 x3 : UInt8) : bits BinOp.or IntKind.i64 (bits BinOp.or IntKind.i64 (bits BinOp.or IntKind.i64 (wrap64 (iu8 x0)) (wrap64 (wrap64 (iu8 x1) * 256))) (wrap64 (wrap64 (iu8 x2) * 65536))) (wrap64 (wrap64 (iu8 x3) * 16777216)) = (un4 x0 x1 x2 x3 : Int) := by
  have h0 := x0.toNat_lt; have h1 := x1.toNat_lt; have h2 := x2.toNat_lt; have h3 := x3.toNat_lt
  unfold iu8
  rw [IntWalk.wrap64_in (x0.toNat : Int) (by omega), IntWalk.wrap64_in (x1.toNat : Int) (by omega), IntWalk.wrap64_in (x2.toNat : Int) (by omega), IntWalk.wrap64_in (x3.toNat : Int) (by omega),
    IntWalk.wrap64_in ((x1.toNat : Int) * 256) (by omega), IntWalk.wrap64_in ((x2.toNat : Int) * 65536) (by omega), IntWalk.wrap64_in ((x3.toNat : Int) * 16777216) (by omega)]
  rw [show (x1.toNat : Int) * 256 = ((x1.toNat * 256 : Nat) : Int) by simp, show (x2.toNat : Int) * 65536 = ((x2.toNat * 65536 : Nat) : Int) by simp, show (x3.toNat : Int) * 16777216 = ((x3.toNat * 16777216 : Nat) : Int) by simp]
  rw [i64_or_nat _ _ (by omega) (by omega), or_sum _ _ 8 256 (by decide) (by omega), i64_or_nat _ _ (by omega) (by omega), or_sum _ _ 16 65536 (by decide) (by omega), i64_or_nat _ _ (by omega) (by omega), or_sum _ _ 24 16777216 (by decide) (by omega)]
  unfold un4
  omega
end Go.Proofs.YtfoegmjpfkmggaaGreatDoor

/- Fields read from bytes, four each. Conditions: the bytes can be read; the header lies in a block of its own. -/
namespace Go.Proofs.YtfoegmjpfkmggaaGreatDoor
open Go.RowKit
theorem _root_.Go.Upd.drewH {g : Nat} {a b : World} (h : Upd g a b) : Upd g a b.drew := ⟨h.os, h.tape, h.output, h.size, h.block⟩
def setF (f : HdF) (i : Nat) (v : Int) : HdF := fun x => if x = i then v else f x
theorem hdc_set (f : HdF) (i : Nat) (v : Int) (h9 : i ≠ 9) (h10 : i ≠ 10) (h13 : i ≠ 13) : (hdc f).setIfInBounds i (.int .i64 v) = hdc (setF f i v) := by
  unfold hdc
  rw [arr_set]
  refine arr_congr fun j _ => ?_
  unfold hdv setF
  by_cases e : j = i
  · subst e; rw [if_pos rfl, if_neg (by omega), if_pos rfl]
  · rw [if_neg e, if_neg e]
def stepsF (f : HdF) (raw : List UInt8) (idx : List Nat) : Nat → HdF
  | 0 => f
  | j + 1 => setF (stepsF f raw idx j) (idx.getD j 0) (at4 raw (4 * j))
def FrsRel (w : World) (hb : Nat) (f : HdF) (raw : List UInt8) (idx : List Nat) (v : Value) (wr : World) : Prop :=
  ∃ j : Nat, j ≤ idx.length ∧ v = .int .i64 (j : Int) ∧ Blk wr hb 38 (hdc (stepsF f raw idx j)) ∧ Upd hb w wr
set_option maxRecDepth 100000 in
set_option maxHeartbeats 2000000 in
theorem hfours_any (bb bo cap hb : Nat) (f : HdF) (raw : List UInt8) (idx : List Nat) (pb po pc : Nat) (h4 : 4 * idx.length ≤ raw.length) (hlen : raw.length ≤ 1000000) (w : World)
    (hraw : ∀ j, j < raw.length → w.cell? ⟨bb, bo + j, none⟩ = some (.int .u8 (iu8 (raw.getD j 0)))) (hg : Blk w hb 38 (hdc f))
    (hp : ∀ j, j < idx.length → w.cell? ⟨pb, po + j, none⟩ = some (.pointer (some ⟨hb, idx.getD j 0, none⟩)))
    (hi : ∀ j, j < idx.length → idx.getD j 0 < 16 ∧ idx.getD j 0 ≠ 9 ∧ idx.getD j 0 ≠ 10 ∧ idx.getD j 0 ≠ 13) (hne : pb ≠ hb ∧ bb ≠ hb) :
    Calls Tryz.prog 136 #[.slice (some ⟨bb, bo, none⟩) raw.length cap, .slice (some ⟨pb, po, none⟩) idx.length pc] w fun e w' =>
      e = .returned (.tuple #[]) ∧ Blk w' hb 38 (hdc (stepsF f raw idx idx.length)) ∧ Upd hb w w' := by
  go_enter Tryz.func136, Tryz.ntmps136
  go_wp2
  go_loopw [8] (fun v wr => FrsRel w hb f raw idx v wr) (fun v _ => idx.length - (intOf v).toNat)
  case atStart => exact ⟨0, by omega, rfl, hg, Upd.refl _ _⟩
  case round =>
    obtain ⟨j, hj, rfl, hgj, hu⟩ := hrel
    clear hg
    by_cases hjl : j < idx.length
    · have dp := (World.cell?_of_block (hu.block pb hne.1)).trans (hp j hjl)
      obtain ⟨i1, i2, i3, i4⟩ := hi j hjl
      have dr : ∀ k, k < raw.length → wr.cell? ⟨bb, bo + k, none⟩ = some (.int .u8 (iu8 (raw.getD k 0))) := fun k hk => (World.cell?_of_block (hu.block bb hne.2)).trans (hraw k hk)
      have r0 := dr (4 * j) (by omega)
      have r1 := dr (4 * j + 1) (by omega)
      have r2 := dr (4 * j + 2) (by omega)
      have r3 := dr (4 * j + 3) (by omega)
      have hst : stepsF f raw idx (j + 1) = setF (stepsF f raw idx j) (idx.getD j 0) (at4 raw (4 * j)) := rfl
      unfold at4 at hst
      generalize raw.getD (4 * j) 0 = x0 at r0 hst
      generalize raw.getD (4 * j + 1) 0 = x1 at r1 hst
      generalize raw.getD (4 * j + 2) 0 = x2 at r2 hst
      generalize raw.getD (4 * j + 3) 0 = x3 at r3 hst
      generalize idx.getD j 0 = i at dp i1 i2 i3 i4 hst
      have fz := hgj.frozen i
      have dz : wr.cell? ⟨hb, i, none⟩ = some (.int .i64 (stepsF f raw idx j i)) := hgj.at_ i (hdc_at _ i i1 i2 i3 i4)
      have hnx := (hgj.set_ i (.int .i64 (un4 x0 x1 x2 x3))).sub ((hdc_set _ i _ i2 i3 i4).trans (by rw [← hst]))
      have HN := Lib.hid (And.intro hnx (hu.set i (.int .i64 (un4 x0 x1 x2 x3))))
      generalize stepsF f raw idx j i = y at dz
      have h4r : 4 * j + 3 < raw.length := by omega
      have e4 := or4 x0 x1 x2 x3
      have HF := Lib.hid (And.intro hraw (And.intro hp hi))
      clear hnx hst hgj hu dr hraw hp hi i1 i2 i3 i4
      go_wp2_with fail
      refine wp_region_planT (fun w' => w'.cell? ⟨bb, bo + 4 * j, none⟩ = some (.int .u8 (iu8 x0)) ∧ w'.cell? ⟨bb, bo + (4 * j + 1), none⟩ = some (.int .u8 (iu8 x1)) ∧ w'.cell? ⟨bb, bo + (4 * j + 2), none⟩ = some (.int .u8 (iu8 x2)) ∧ w'.cell? ⟨bb, bo + (4 * j + 3), none⟩ = some (.int .u8 (iu8 x3))) [35] [(true, 0), (true, 1), (true, 2), (true, 3), (true, 4), (true, 7), (true, 8), (true, 9), (true, 10), (true, 11), (true, 16), (true, 17), (true, 18), (true, 19), (true, 20), (true, 25), (true, 26), (true, 27), (true, 28), (true, 29), (true, 5), (true, 12), (true, 21), (true, 30), (true, 6), (true, 13), (true, 14), (true, 15), (true, 22), (true, 23), (true, 24), (true, 31), (true, 32), (true, 33), (true, 34), (false, 35)] (by kernel_rfl) (by kernel_rfl) (⟨r0, r1, r2, r3⟩) ?_
      refine wpPlan_pure [0, 1, 2, 3, 4, 7, 8, 9, 10, 11, 16, 17, 18, 19, 20, 25, 26, 27, 28, 29] [(true, 5), (true, 12), (true, 21), (true, 30), (true, 6), (true, 13), (true, 14), (true, 15), (true, 22), (true, 23), (true, 24), (true, 31), (true, 32), (true, 33), (true, 34), (false, 35)] _ (by rfl) (by rfl) ?_
      dsimp only [List.filterMap, List.getElem?_cons_zero, List.getElem?_cons_succ]
      repeat (go_big_quiet_step (fail))
      refine wpQuiet_nil ?_
      refine wpPlan_takeL [5, 12, 21, 30] [(true, 6), (true, 13), (true, 14), (true, 15), (true, 22), (true, 23), (true, 24), (true, 31), (true, 32), (true, 33), (true, 34), (false, 35)] _ (by rfl) (by rfl) (⟨r0, r1, r2, r3⟩) ?_
      dsimp only [List.filterMap, List.getElem?_cons_zero, List.getElem?_cons_succ]
      (refine wpQuiet_load_cell (fun w' hw' => hw'.1) (by rfl) _ _ (by rfl) (by rfl) _ Tryz.underlying5 (by rfl) ?_; simp only [Act.put, List.setIfInBounds_toArray, List.set_cons_zero, List.set_cons_succ])
      (refine wpQuiet_load_cell (fun w' hw' => hw'.2.1) (by rfl) _ _ (by rfl) (by rfl) _ Tryz.underlying5 (by rfl) ?_; simp only [Act.put, List.setIfInBounds_toArray, List.set_cons_zero, List.set_cons_succ])
      (refine wpQuiet_load_cell (fun w' hw' => hw'.2.2.1) (by rfl) _ _ (by rfl) (by rfl) _ Tryz.underlying5 (by rfl) ?_; simp only [Act.put, List.setIfInBounds_toArray, List.set_cons_zero, List.set_cons_succ])
      (refine wpQuiet_load_cell (fun w' hw' => hw'.2.2.2) (by rfl) _ _ (by rfl) (by rfl) _ Tryz.underlying5 (by rfl) ?_; simp only [Act.put, List.setIfInBounds_toArray, List.set_cons_zero, List.set_cons_succ])
      refine wpQuiet_nil ?_
      refine wpPlan_pure [6, 13, 14, 15, 22, 23, 24, 31, 32, 33, 34] [(false, 35)] _ (by rfl) (by rfl) ?_
      dsimp only [List.filterMap, List.getElem?_cons_zero, List.getElem?_cons_succ]
      repeat (go_big_quiet_step (fail))
      refine wpQuiet_nil ?_
      refine wpPlan_forceL _ rfl ?_
      go_wp2_with fail
      refine PlanQ.out (by rfl) ?_
      refine wpPlan_tidy ?_
      go_wp2
      go_roundw
      case rel => exact ⟨j + 1, by omega, by go_num, HN.out.1.drew, HN.out.2.drewH⟩
      case measure => simp [intOf]; omega
    · obtain rfl : j = idx.length := by omega
      have HG := Lib.hid (And.intro hgj hu)
      clear hgj hu hp hi hraw
      go_wp2
      refine bodyPost_end (v := .tuple #[]) (by simp [results]) rfl ⟨rfl, HG.out.1, HG.out.2⟩
end Go.Proofs.YtfoegmjpfkmggaaGreatDoor

/- Four bytes of a number laid at a place of a list. Plain facts. -/
namespace Go.Proofs.YtfoegmjpfkmggaaGreatDoor
open Go.RowKit
def put4 (L : List UInt8) (off n : Nat) : List UInt8 := L.take off ++ (le4 n ++ L.drop (off + 4))
def put4r (L : List UInt8) (off n j : Nat) : List UInt8 := L.take off ++ ((le4 n).take j ++ L.drop (off + j))
theorem put4r_zero (L : List UInt8) (off n : Nat) : put4r L off n 0 = L := by unfold put4r; simp
theorem put4r_four (L : List UInt8) (off n : Nat) : put4r L off n 4 = put4 L off n := rfl
theorem put4r_length (L : List UInt8) (off n j : Nat) (h : off + 4 ≤ L.length) (hj : j ≤ 4) : (put4r L off n j).length = L.length := by
  unfold put4r; rw [List.length_append, List.length_append, List.length_take, List.length_take, List.length_drop, le4_length]; omega
theorem put4r_set (L : List UInt8) (off n j : Nat) (h : off + 4 ≤ L.length) (hj : j < 4) (b : UInt8) (hb : b = (le4 n).getD j 0) :
    ((put4r L off n j).map u8v).toArray.setIfInBounds (off + j) (.int .u8 (iu8 b)) = ((put4r L off n (j + 1)).map u8v).toArray := by
  apply Array.ext'
  simp only [List.setIfInBounds_toArray]
  have e : Value.int .u8 (iu8 b) = u8v b := rfl
  rw [e, ← List.map_set]
  congr 1
  subst hb
  unfold put4r
  have h1 : (L.take off).length = off := by rw [List.length_take]; omega
  rw [List.set_append_right _ _ (by omega), h1, Nat.add_sub_cancel_left]
  congr 1
  have h2 : ((le4 n).take j).length = j := by rw [List.length_take, le4_length]; omega
  rw [List.set_append_right _ _ (by omega), h2, Nat.sub_self]
  have hd : L.drop (off + j) = L[off + j]'(by omega) :: L.drop (off + (j + 1)) := by
    rw [List.drop_eq_getElem_cons (by omega)]; rfl
  rw [hd, List.set_cons_zero]
  have ht : (le4 n).take (j + 1) = (le4 n).take j ++ [(le4 n).getD j 0] := by
    rw [List.take_succ_eq_append_getElem (by rw [le4_length]; omega)]
    congr 2
    simp [List.getD, show j < (le4 n).length by rw [le4_length]; omega]
  rw [ht]; simp
theorem le4_v0 (n : Nat) : (n : Int) % 256 = iu8 ((le4 n).getD 0 0) := by show _ = iu8 (UInt8.ofNat (n % 256)); rw [iu8_ofNat_mod]
theorem le4_v1 (n : Nat) : (n : Int) / 256 % 256 = iu8 ((le4 n).getD 1 0) := by show _ = iu8 (UInt8.ofNat (n / 256 % 256)); rw [iu8_ofNat_mod]; omega
theorem le4_v2 (n : Nat) : (n : Int) / 65536 % 256 = iu8 ((le4 n).getD 2 0) := by show _ = iu8 (UInt8.ofNat (n / 65536 % 256)); rw [iu8_ofNat_mod]; omega
theorem le4_v3 (n : Nat) (h : n < 4294967296) : (n : Int) / 16777216 = iu8 ((le4 n).getD 3 0) := by show _ = iu8 (UInt8.ofNat (n / 16777216 % 256)); rw [iu8_ofNat_mod]; omega
end Go.Proofs.YtfoegmjpfkmggaaGreatDoor

/- A number of 128 bits as bytes: what both functions answer. Condition: its halves are from 0 on and below 2^64. -/
namespace Go.Proofs.YtfoegmjpfkmggaaGreatDoor
open Go.RowKit
def b8 (x k : Nat) : UInt8 := UInt8.ofNat (x / 256 ^ k % 256)
theorem le8_b8 (x : Nat) : le8 x = [b8 x 0, b8 x 1, b8 x 2, b8 x 3, b8 x 4, b8 x 5, b8 x 6, b8 x 7] := by
  unfold le8 le4 b8
  simp only [List.cons_append, List.nil_append, List.cons.injEq, and_true]
  refine ⟨?_, ?_, ?_, ?_, ?_, ?_, ?_, ?_⟩ <;> (congr 1 <;> simp only [Nat.reducePow] <;> omega)
def idb (lo hi j i : Nat) : UInt8 := if i % 8 < j then (if i < 8 then b8 lo i else b8 hi (i - 8)) else 0
def idv (lo hi j i : Nat) : Value := u8v (idb lo hi j i)
theorem idv_all (lo hi : Nat) : arr 16 (idv lo hi 8) = ((le8 lo ++ le8 hi).map u8v).toArray := by
  rw [le8_b8 lo, le8_b8 hi]
  rfl
theorem idv_succ (lo hi j : Nat) (hj : j < 8) : ((arr 16 (idv lo hi j)).setIfInBounds j (.int .u8 (iu8 (b8 lo j)))).setIfInBounds (8 + j) (.int .u8 (iu8 (b8 hi j))) = arr 16 (idv lo hi (j + 1)) := by
  rw [arr_set, arr_set]
  refine arr_congr fun i hi => ?_
  unfold idv idb
  by_cases e1 : i = 8 + j
  · rw [if_pos e1, if_pos (by omega), if_neg (by omega), e1, Nat.add_sub_cancel_left]; rfl
  · rw [if_neg e1]
    by_cases e2 : i = j
    · rw [if_pos e2, if_pos (by omega), if_pos (by omega), e2]; rfl
    · rw [if_neg e2]
      by_cases e3 : i % 8 < j
      · have e4 : i % 8 < j + 1 := by omega
        simp only [e3, e4, if_true]
      · have e4 : ¬ i % 8 < j + 1 := by omega
        simp only [e3, e4, if_false]
theorem b8_v (x k : Nat) : ((x / 256 ^ k % 256 : Nat) : Int) = iu8 (b8 x k) := by unfold b8; rw [iu8_ofNat _ (Nat.mod_lt _ (by omega))]
theorem b8_0 (x : Nat) : (x : Int) % 256 = iu8 (b8 x 0) := by rw [← b8_v]; simp
theorem b8_k (x k P : Nat) (h : P = 256 ^ k) : (x : Int) / (P : Int) % 256 = iu8 (b8 x k) := by rw [← b8_v, ← h]; simp
theorem b8_1 (x : Nat) : (x : Int) / 256 % 256 = iu8 (b8 x 1) := by have h := b8_k x 1 256 (by decide); exact h
theorem b8_2 (x : Nat) : (x : Int) / 65536 % 256 = iu8 (b8 x 2) := by have h := b8_k x 2 65536 (by decide); exact h
theorem b8_3 (x : Nat) : (x : Int) / 16777216 % 256 = iu8 (b8 x 3) := by have h := b8_k x 3 16777216 (by decide); exact h
theorem b8_4 (x : Nat) : (x : Int) / 4294967296 % 256 = iu8 (b8 x 4) := by have h := b8_k x 4 4294967296 (by decide); exact h
theorem b8_5 (x : Nat) : (x : Int) / 1099511627776 % 256 = iu8 (b8 x 5) := by have h := b8_k x 5 1099511627776 (by decide); exact h
theorem b8_6 (x : Nat) : (x : Int) / 281474976710656 % 256 = iu8 (b8 x 6) := by have h := b8_k x 6 281474976710656 (by decide); exact h
theorem b8_7 (x : Nat) : (x : Int) / 72057594037927936 % 256 = iu8 (b8 x 7) := by have h := b8_k x 7 72057594037927936 (by decide); exact h
def IdRel (w : World) (g lo hi : Nat) (v : Value) (wr : World) : Prop := ∃ j : Nat, j ≤ 8 ∧ v = .int .i64 (j : Int) ∧ Blk wr g 150 (arr 16 (idv lo hi j)) ∧ Upd g w wr
theorem size16' : (Tryz.prog.info? 150).map (·.size) = some 16 := by kernel_rfl
set_option maxRecDepth 100000 in
set_option maxHeartbeats 2000000 in
theorem rid_any (hi lo : Nat) (w : World) :
    Calls Tryz.prog 125 #[.agg #[.int .u64 (hi : Nat), .int .u64 (lo : Nat)]] w fun e w' => e = .returned (.agg (arr 16 (idv lo hi 8))) ∧ Below w.heap.size w w' := by
  go_enter Tryz.func125, Tryz.ntmps125
  go_wp2_with fail
  generalize hw3 : ((w.alloc (.cells #[.int .u64 (hi : Nat), .int .u64 (lo : Nat)] 36)).alloc _).alloc _ = w3
  have h0 : Blk w3 w.heap.size 36 #[.int .u64 (hi : Nat), .int .u64 (lo : Nat)] := by rw [← hw3]; exact ((Blk.new w _ _).alloc _).alloc _
  have h1 : Blk w3 (w.heap.size + 1) 150 (arr 16 (idv 0 0 0)) := by rw [← hw3]; exact (Blk.new' (w.alloc _) _ _ (by simp)).alloc _
  have h2 : Blk w3 (w.heap.size + 1 + 1) 150 (arr 16 (idv lo hi 0)) := by rw [← hw3]; exact Blk.new' _ _ _ (by simp)
  have hB := Lib.hid (show Below w.heap.size w w3 by rw [← hw3]; exact (((Below.refl _ _).alloc (Nat.le_refl _) _).alloc (by simp) _).alloc (by simp; omega) _)
  have dhi : w3.cell? ⟨w.heap.size, 0, none⟩ = some (.int .u64 (hi : Nat)) := h0.at_ 0 rfl
  have dlo : w3.cell? ⟨w.heap.size, 1, none⟩ = some (.int .u64 (lo : Nat)) := h0.at_ 1 rfl
  clear hw3 h0
  obtain ⟨s0, hs0⟩ : ∃ s0, s0 = w.heap.size := ⟨_, rfl⟩
  have hge : w.heap.size ≤ s0 + 1 + 1 := by omega
  have hge2 : w.heap.size ≤ s0 + 1 := by omega
  rw [← hs0] at dhi dlo h1 h2 ⊢
  clear hs0
  go_loopw [4] (fun v wr => IdRel w3 (s0 + 1 + 1) lo hi v wr) (fun v _ => 8 - (intOf v).toNat)
  case atStart => exact ⟨0, by omega, rfl, h2, Upd.refl _ _⟩
  case round =>
    obtain ⟨j, hj, rfl, hg, hu⟩ := hrel
    have ehi := (World.cell?_of_block (hu.block s0 (by omega))).trans dhi
    have elo := (World.cell?_of_block (hu.block s0 (by omega))).trans dlo
    have H1 := Lib.hid (And.intro h1 (And.intro dhi dlo))
    clear dhi dlo h1 h2
    by_cases hlt : j < 8
    · have f1 := hg.frozen j
      have f2 := hg.frozen (8 + j)
      have c1 : wr.cell? ⟨s0 + 1 + 1, j, none⟩ = some (u8v (idb lo hi j j)) := hg.at_ j (arr_at _ (by omega))
      have c2 : wr.cell? ⟨s0 + 1 + 1, 8 + j, none⟩ = some (u8v (idb lo hi j (8 + j))) := hg.at_ (8 + j) (arr_at _ (by omega))
      generalize u8v (idb lo hi j j) = y1 at c1
      generalize u8v (idb lo hi j (8 + j)) = y2 at c2
      have hs := ((hg.set_ j (.int .u8 (iu8 (b8 lo j)))).set_ (8 + j) (.int .u8 (iu8 (b8 hi j)))).sub (idv_succ lo hi j hlt)
      have HN := Lib.hid (And.intro hs ((hu.set j (.int .u8 (iu8 (b8 lo j)))).set (8 + j) (.int .u8 (iu8 (b8 hi j)))))
      clear hs hg hu
      have hcase : j = 0 ∨ j = 1 ∨ j = 2 ∨ j = 3 ∨ j = 4 ∨ j = 5 ∨ j = 6 ∨ j = 7 := by omega
      rcases hcase with rfl | rfl | rfl | rfl | rfl | rfl | rfl | rfl
      · go_wp2
        rw [b8_0, b8_0]
        exact ⟨⟨1, by omega, rfl, HN.out⟩, by simp [intOf]⟩
      · go_wp2
        rw [b8_1, b8_1]
        exact ⟨⟨2, by omega, rfl, HN.out⟩, by simp [intOf]⟩
      · go_wp2
        rw [b8_2, b8_2]
        exact ⟨⟨3, by omega, rfl, HN.out⟩, by simp [intOf]⟩
      · go_wp2
        rw [b8_3, b8_3]
        exact ⟨⟨4, by omega, rfl, HN.out⟩, by simp [intOf]⟩
      · go_wp2
        rw [b8_4, b8_4]
        exact ⟨⟨5, by omega, rfl, HN.out⟩, by simp [intOf]⟩
      · go_wp2
        rw [b8_5, b8_5]
        exact ⟨⟨6, by omega, rfl, HN.out⟩, by simp [intOf]⟩
      · go_wp2
        rw [b8_6, b8_6]
        exact ⟨⟨7, by omega, rfl, HN.out⟩, by simp [intOf]⟩
      · go_wp2
        rw [b8_7, b8_7]
        exact ⟨⟨8, by omega, rfl, HN.out⟩, by simp [intOf]⟩
    · obtain rfl : j = 8 := by omega
      have hz := H1.out.1.upd hu (show s0 + 1 ≠ s0 + 1 + 1 by omega)
      have hB2 := hB.out
      rw [idv_all] at hg
      have h16 : (le8 lo ++ le8 hi).length = 16 := rfl
      obtain ⟨l, hl⟩ : ∃ l, l = le8 lo ++ le8 hi := ⟨_, rfl⟩
      rw [← hl] at hg h16
      have HL := Lib.hid hl
      have HU := Lib.hid hu
      clear hu hj hlt H1 hl
      go_wp2_with (first
        | ((with_reducible show wpList _ _ _ ((⟨some 26, _, _, _, _, _⟩ : Oper) :: _) _ _); refine wpList_load_blk (o := ⟨some 26, _, _, _, _, _⟩) (hg) (by rfl) _ _ (by rfl) (by rfl) _ Tryz.underlying150 (by rfl) (size16') (by simp [h16]) ?_)
        | ((with_reducible show wpList _ _ _ ((⟨none, _, _, _, _, _⟩ : Oper) :: _) _ _); refine wpList_store_blk (o := ⟨none, _, _, _, _, _⟩) (hz) (by rfl) _ _ _ (by rfl) (by rfl) ((l.map u8v).toArray) (by rfl) (size16') (arr_size _ _) (by simp [h16]) (u8_all _) ?_; intro w5 h5 hu5; have HB5 := Lib.hid ((hB.out.upd HU.out hge).upd hu5 hge2))
        | fail)
      refine bodyPost_ret (results_cell_row (by rfl) _ _ _ _ _ _ _ (by rfl) h5 Tryz.underlying150 (by rfl) (size16'.trans (by simp [h16]))) rfl ⟨by rw [idv_all, HL.out], HB5.out⟩
end Go.Proofs.YtfoegmjpfkmggaaGreatDoor
