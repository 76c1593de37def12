/- The bytes of a block of the grid, as plain lists: what they are, how they are read back. Plain facts. No condition. -/
import Derived.Test.YtfpcldnefpmgcaaSha
namespace Go.Proofs.Ytfpcldnefpmgcaa
theorem Sha.sum_len (l : List UInt8) : (Sha.sum l).length = 16 := by simp [Sha.sum, Sha.out]
/-! ### Numbers of four bytes, the lowest first -/
def le4 (n : Nat) : List UInt8 := [UInt8.ofNat (n % 256), UInt8.ofNat (n / 256 % 256), UInt8.ofNat (n / 65536 % 256), UInt8.ofNat (n / 16777216 % 256)]
def un4 (a b c d : UInt8) : Nat := a.toNat + 256 * b.toNat + 65536 * c.toNat + 16777216 * d.toNat
def at4 (l : List UInt8) (p : Nat) : Nat := un4 (l.getD p 0) (l.getD (p + 1) 0) (l.getD (p + 2) 0) (l.getD (p + 3) 0)
theorem le4_length (n : Nat) : (le4 n).length = 4 := rfl
theorem toNat_ofNat' (n : Nat) (h : n < 256) : (UInt8.ofNat n).toNat = n := UInt8.toNat_ofNat_of_lt' (by simpa [UInt8.size] using h)
theorem un4_lt (a b c d : UInt8) : un4 a b c d < 4294967296 := by
  have := a.toNat_lt; have := b.toNat_lt; have := c.toNat_lt; have := d.toNat_lt
  unfold un4; omega
theorem at4_lt (l : List UInt8) (p : Nat) : at4 l p < 4294967296 := un4_lt _ _ _ _
theorem un4_le4 (n : Nat) (h : n < 4294967296) : un4 (UInt8.ofNat (n % 256)) (UInt8.ofNat (n / 256 % 256)) (UInt8.ofNat (n / 65536 % 256)) (UInt8.ofNat (n / 16777216 % 256)) = n := by
  unfold un4
  rw [toNat_ofNat' _ (Nat.mod_lt _ (by omega)), toNat_ofNat' _ (Nat.mod_lt _ (by omega)), toNat_ofNat' _ (Nat.mod_lt _ (by omega)), toNat_ofNat' _ (Nat.mod_lt _ (by omega))]
  omega
theorem getD_app (a b : List UInt8) (k : Nat) : (a ++ b).getD (a.length + k) 0 = b.getD k 0 := by
  simp only [List.getD_eq_getElem?_getD]; rw [List.getElem?_append_right (by omega), Nat.add_sub_cancel_left]
theorem at4_app (a b : List UInt8) (p : Nat) : at4 (a ++ b) (a.length + p) = at4 b p := by
  unfold at4
  rw [Nat.add_assoc, Nat.add_assoc, Nat.add_assoc, getD_app, getD_app, getD_app, getD_app]
theorem at4_app' (a b : List UInt8) (p q : Nat) (h : q = a.length + p) : at4 (a ++ b) q = at4 b p := h ▸ at4_app a b p
theorem at4_le4 (n : Nat) (h : n < 4294967296) (r : List UInt8) : at4 (le4 n ++ r) 0 = n := by
  unfold at4 le4
  simp only [List.cons_append, List.nil_append]
  exact un4_le4 n h
/-! ### A block -/
abbrev RefT := Int × Int × Unit
abbrev GBT := Int × RefT × List RefT × List UInt8 × Unit
def refOk (r : RefT) : Bool := decide (1 ≤ r.1) && decide (r.1 ≤ 512) && decide (0 ≤ r.2.1) && decide (r.2.1 ≤ 1073741824)
def GB.kind (b : GBT) : Int := b.1
def GB.ref (b : GBT) : RefT := b.2.1
def GB.refs (b : GBT) : List RefT := b.2.2.1
def GB.body (b : GBT) : List UInt8 := b.2.2.2.1
def GB.ok (b : GBT) : Bool := decide (1 ≤ b.1) && decide (b.1 ≤ 15) && refOk b.2.1 && decide (b.2.2.1.length ≤ 16) && decide (b.2.2.2.1.length ≤ 860) && b.2.2.1.all refOk
def refBytes (r : RefT) : List UInt8 := le4 r.1.toNat ++ le4 r.2.1.toNat
def refsBytes (l : List RefT) : List UInt8 := l.flatMap refBytes
/-- What stands behind a block's seal. -/
def GB.head (b : GBT) : List UInt8 := le4 b.1.toNat ++ (le4 b.2.1.1.toNat ++ (le4 b.2.1.2.1.toNat ++ (le4 b.2.2.1.length ++ le4 b.2.2.2.1.length)))
def GB.tail (b : GBT) : List UInt8 := b.2.2.2.1 ++ List.replicate (860 - b.2.2.2.1.length) 0
def GB.rest (b : GBT) : List UInt8 := GB.head b ++ (refsBytes b.2.2.1 ++ (List.replicate (128 - 8 * b.2.2.1.length) 0 ++ GB.tail b))
def GB.bytes (b : GBT) : List UInt8 := Sha.sum (GB.rest b) ++ GB.rest b
theorem refsBytes_length (l : List RefT) : (refsBytes l).length = 8 * l.length := by
  induction l with
  | nil => rfl
  | cons r l ih => unfold refsBytes at *; rw [List.flatMap_cons, List.length_append, ih, List.length_cons]; simp [refBytes, le4_length]; omega
theorem GB.ok_spec {b : GBT} (h : GB.ok b = true) : (1 ≤ b.1 ∧ b.1 ≤ 15) ∧ refOk b.2.1 = true ∧ b.2.2.1.length ≤ 16 ∧ b.2.2.2.1.length ≤ 860 ∧ ∀ r ∈ b.2.2.1, refOk r = true := by
  simp only [GB.ok, Bool.and_eq_true, decide_eq_true_eq, List.all_eq_true] at h
  obtain ⟨⟨⟨⟨⟨h1, h2⟩, h3⟩, h4⟩, h5⟩, h6⟩ := h
  exact ⟨⟨h1, h2⟩, h3, h4, h5, h6⟩
theorem refOk_spec {r : RefT} (h : refOk r = true) : 1 ≤ r.1 ∧ r.1 ≤ 512 ∧ 0 ≤ r.2.1 ∧ r.2.1 ≤ 1073741824 := by
  simp only [refOk, Bool.and_eq_true, decide_eq_true_eq] at h
  exact ⟨h.1.1.1, h.1.1.2, h.1.2, h.2⟩
theorem GB.head_length (b : GBT) : (GB.head b).length = 20 := rfl
theorem GB.tail_length (b : GBT) (h : b.2.2.2.1.length ≤ 860) : (GB.tail b).length = 860 := by
  unfold GB.tail; rw [List.length_append, List.length_replicate]; omega
theorem GB.rest_length (b : GBT) (h1 : b.2.2.1.length ≤ 16) (h2 : b.2.2.2.1.length ≤ 860) : (GB.rest b).length = 1008 := by
  unfold GB.rest
  rw [List.length_append, List.length_append, List.length_append, GB.head_length, refsBytes_length, List.length_replicate, GB.tail_length b h2]; omega
theorem GB.bytes_length (b : GBT) (h1 : b.2.2.1.length ≤ 16) (h2 : b.2.2.2.1.length ≤ 860) : (GB.bytes b).length = 1024 := by
  unfold GB.bytes; rw [List.length_append, Sha.sum_len, GB.rest_length b h1 h2]
/-- What the bytes of a block say. -/
def GB.parse (raw : List UInt8) : GBT :=
  ((at4 raw 16 : Int), ((at4 raw 20 : Int), (at4 raw 24 : Int), ()), (List.range (at4 raw 28)).map (fun i => ((at4 raw (36 + 8 * i) : Int), (at4 raw (36 + 8 * i + 4) : Int), ())), (raw.drop 164).take (at4 raw 32), ())
def GB.none_ : GBT := (0, (0, 0, ()), [], [], ())
/-- Which block bytes are: the error's number, and the block. -/
def GB.read (raw : List UInt8) : Int × GBT :=
  if raw.length ≠ 1024 then (4, GB.none_)
  else if Sha.sum (raw.drop 16) ≠ raw.take 16 then (12, GB.none_)
  else if 16 < at4 raw 28 ∨ 860 < at4 raw 32 then (4, GB.none_)
  else if GB.ok (GB.parse raw) = true ∧ GB.rest (GB.parse raw) = raw.drop 16 then (0, GB.parse raw) else (4, GB.none_)
theorem at4_refs (l : List RefT) (r : List UInt8) (hok : ∀ x ∈ l, refOk x = true) : ∀ i, (h : i < l.length) → (at4 (refsBytes l ++ r) (8 * i) : Int) = l[i].1 ∧ (at4 (refsBytes l ++ r) (8 * i + 4) : Int) = l[i].2.1 := by
  induction l with
  | nil => intro i h; simp at h
  | cons x l ih =>
    intro i h
    have e : refsBytes (x :: l) ++ r = le4 x.1.toNat ++ (le4 x.2.1.toNat ++ (refsBytes l ++ r)) := by simp [refsBytes, refBytes]
    rw [e]
    obtain ⟨h1, h2, h3, h4⟩ := refOk_spec (hok x (by simp))
    cases i with
    | zero =>
      refine ⟨?_, ?_⟩
      · rw [Nat.mul_zero, at4_le4 _ (by omega)]; simp; omega
      · rw [at4_app' _ _ 0 _ (by simp [le4_length]), at4_le4 _ (by omega)]; simp; omega
    | succ i =>
      obtain ⟨e1, e2⟩ := ih (fun x hx => hok x (by simp [hx])) i (by simpa using h)
      refine ⟨?_, ?_⟩
      · rw [at4_app' _ _ (8 * i + 4) _ (by simp [le4_length]; omega), at4_app' _ _ (8 * i) _ (by simp [le4_length]; omega), e1]; simp
      · rw [at4_app' _ _ (8 * i + 8) _ (by simp [le4_length]; omega), at4_app' _ _ (8 * i + 4) _ (by simp [le4_length]; omega), e2]; simp
theorem GB.parse_bytes (b : GBT) (h : GB.ok b = true) : GB.parse (GB.bytes b) = b := by
  obtain ⟨⟨k1, k2⟩, hr, hn, hb, hall⟩ := GB.ok_spec h
  obtain ⟨r1, r2, r3, r4⟩ := refOk_spec hr
  obtain ⟨kind, ⟨addr, stamp, ⟨⟩⟩, refs, body, ⟨⟩⟩ := b
  simp only at k1 k2 r1 r2 r3 r4 hn hb hall
  have e0 : GB.bytes (kind, (addr, stamp, ()), refs, body, ()) = Sha.sum (GB.rest (kind, (addr, stamp, ()), refs, body, ())) ++ (le4 kind.toNat ++ (le4 addr.toNat ++ (le4 stamp.toNat ++ (le4 refs.length ++ (le4 body.length ++ (refsBytes refs ++ (List.replicate (128 - 8 * refs.length) 0 ++ (body ++ List.replicate (860 - body.length) 0)))))))) := by
    simp [GB.bytes, GB.rest, GB.head, GB.tail]
  generalize Sha.sum (GB.rest (kind, (addr, stamp, ()), refs, body, ())) = S at e0
  have hS : ∃ S : List UInt8, S.length = 16 ∧ GB.bytes (kind, (addr, stamp, ()), refs, body, ()) = S ++ (le4 kind.toNat ++ (le4 addr.toNat ++ (le4 stamp.toNat ++ (le4 refs.length ++ (le4 body.length ++ (refsBytes refs ++ (List.replicate (128 - 8 * refs.length) 0 ++ (body ++ List.replicate (860 - body.length) 0)))))))) :=
    ⟨Sha.sum (GB.rest (kind, (addr, stamp, ()), refs, body, ())), Sha.sum_len _, by simp [GB.bytes, GB.rest, GB.head, GB.tail]⟩
  clear e0 S
  obtain ⟨S, hS, e⟩ := hS
  rw [e]
  have a16 : at4 (S ++ (le4 kind.toNat ++ (le4 addr.toNat ++ (le4 stamp.toNat ++ (le4 refs.length ++ (le4 body.length ++ (refsBytes refs ++ (List.replicate (128 - 8 * refs.length) 0 ++ (body ++ List.replicate (860 - body.length) 0))))))))) 16 = kind.toNat := by
    rw [at4_app' _ _ 0 _ (by omega), at4_le4 _ (by omega)]
  have a20 : at4 (S ++ (le4 kind.toNat ++ (le4 addr.toNat ++ (le4 stamp.toNat ++ (le4 refs.length ++ (le4 body.length ++ (refsBytes refs ++ (List.replicate (128 - 8 * refs.length) 0 ++ (body ++ List.replicate (860 - body.length) 0))))))))) 20 = addr.toNat := by
    rw [at4_app' _ _ 4 _ (by omega), at4_app' _ _ 0 _ (by simp [le4_length]), at4_le4 _ (by omega)]
  have a24 : at4 (S ++ (le4 kind.toNat ++ (le4 addr.toNat ++ (le4 stamp.toNat ++ (le4 refs.length ++ (le4 body.length ++ (refsBytes refs ++ (List.replicate (128 - 8 * refs.length) 0 ++ (body ++ List.replicate (860 - body.length) 0))))))))) 24 = stamp.toNat := by
    rw [at4_app' _ _ 8 _ (by omega), at4_app' _ _ 4 _ (by simp [le4_length]), at4_app' _ _ 0 _ (by simp [le4_length]), at4_le4 _ (by omega)]
  have a28 : at4 (S ++ (le4 kind.toNat ++ (le4 addr.toNat ++ (le4 stamp.toNat ++ (le4 refs.length ++ (le4 body.length ++ (refsBytes refs ++ (List.replicate (128 - 8 * refs.length) 0 ++ (body ++ List.replicate (860 - body.length) 0))))))))) 28 = refs.length := by
    rw [at4_app' _ _ 12 _ (by omega), at4_app' _ _ 8 _ (by simp [le4_length]), at4_app' _ _ 4 _ (by simp [le4_length]), at4_app' _ _ 0 _ (by simp [le4_length]), at4_le4 _ (by omega)]
  have a32 : at4 (S ++ (le4 kind.toNat ++ (le4 addr.toNat ++ (le4 stamp.toNat ++ (le4 refs.length ++ (le4 body.length ++ (refsBytes refs ++ (List.replicate (128 - 8 * refs.length) 0 ++ (body ++ List.replicate (860 - body.length) 0))))))))) 32 = body.length := by
    rw [at4_app' _ _ 16 _ (by omega), at4_app' _ _ 12 _ (by simp [le4_length]), at4_app' _ _ 8 _ (by simp [le4_length]), at4_app' _ _ 4 _ (by simp [le4_length]), at4_app' _ _ 0 _ (by simp [le4_length]), at4_le4 _ (by omega)]
  have hsplit : S ++ (le4 kind.toNat ++ (le4 addr.toNat ++ (le4 stamp.toNat ++ (le4 refs.length ++ (le4 body.length ++ (refsBytes refs ++ (List.replicate (128 - 8 * refs.length) 0 ++ (body ++ List.replicate (860 - body.length) 0)))))))) = (S ++ GB.head (kind, (addr, stamp, ()), refs, body, ())) ++ (refsBytes refs ++ (List.replicate (128 - 8 * refs.length) 0 ++ (body ++ List.replicate (860 - body.length) 0))) := by
    simp [GB.head]
  have hpre : (S ++ GB.head (kind, (addr, stamp, ()), refs, body, ())).length = 36 := by rw [List.length_append, hS]; rfl
  have aref : ∀ i, (h : i < refs.length) → ∀ j, j < 8 → at4 (S ++ (le4 kind.toNat ++ (le4 addr.toNat ++ (le4 stamp.toNat ++ (le4 refs.length ++ (le4 body.length ++ (refsBytes refs ++ (List.replicate (128 - 8 * refs.length) 0 ++ (body ++ List.replicate (860 - body.length) 0))))))))) (36 + 8 * i + j) = at4 (refsBytes refs ++ (List.replicate (128 - 8 * refs.length) 0 ++ (body ++ List.replicate (860 - body.length) 0))) (8 * i + j) := by
    intro i h j hj
    rw [hsplit, at4_app' _ _ (8 * i + j) _ (by rw [hpre]; omega)]
  unfold GB.parse
  rw [a16, a20, a24, a28, a32]
  have hrefs : (List.range refs.length).map (fun i => ((at4 (S ++ (le4 kind.toNat ++ (le4 addr.toNat ++ (le4 stamp.toNat ++ (le4 refs.length ++ (le4 body.length ++ (refsBytes refs ++ (List.replicate (128 - 8 * refs.length) 0 ++ (body ++ List.replicate (860 - body.length) 0))))))))) (36 + 8 * i) : Int), (at4 (S ++ (le4 kind.toNat ++ (le4 addr.toNat ++ (le4 stamp.toNat ++ (le4 refs.length ++ (le4 body.length ++ (refsBytes refs ++ (List.replicate (128 - 8 * refs.length) 0 ++ (body ++ List.replicate (860 - body.length) 0))))))))) (36 + 8 * i + 4) : Int), ())) = refs := by
    apply List.ext_getElem
    · simp
    · intro i h1 h2
      simp only [List.getElem_map, List.getElem_range]
      obtain ⟨e1, e2⟩ := at4_refs refs (List.replicate (128 - 8 * refs.length) 0 ++ (body ++ List.replicate (860 - body.length) 0)) hall i h2
      have f1 := aref i h2 0 (by omega)
      have f2 := aref i h2 4 (by omega)
      rw [Nat.add_zero] at f1
      rw [Nat.add_zero] at f1
      rw [f1, f2, e1, e2]
  rw [hrefs]
  have hbody : ((S ++ (le4 kind.toNat ++ (le4 addr.toNat ++ (le4 stamp.toNat ++ (le4 refs.length ++ (le4 body.length ++ (refsBytes refs ++ (List.replicate (128 - 8 * refs.length) 0 ++ (body ++ List.replicate (860 - body.length) 0))))))))).drop 164).take body.length = body := by
    have e1 : S ++ (le4 kind.toNat ++ (le4 addr.toNat ++ (le4 stamp.toNat ++ (le4 refs.length ++ (le4 body.length ++ (refsBytes refs ++ (List.replicate (128 - 8 * refs.length) 0 ++ (body ++ List.replicate (860 - body.length) 0)))))))) = ((S ++ GB.head (kind, (addr, stamp, ()), refs, body, ())) ++ (refsBytes refs ++ List.replicate (128 - 8 * refs.length) 0)) ++ (body ++ List.replicate (860 - body.length) 0) := by
      rw [hsplit]; simp
    have hl : ((S ++ GB.head (kind, (addr, stamp, ()), refs, body, ())) ++ (refsBytes refs ++ List.replicate (128 - 8 * refs.length) 0)).length = 164 := by
      rw [List.length_append, hpre, List.length_append, refsBytes_length, List.length_replicate]; omega
    rw [e1, ← hl, List.drop_left, List.take_left]
  rw [hbody]
  simp only [Prod.mk.injEq, and_true]
  omega
theorem GB.read_bytes (b : GBT) (h : GB.ok b = true) : GB.read (GB.bytes b) = (0, b) := by
  obtain ⟨_, _, hn, hb, _⟩ := GB.ok_spec h
  have hp := GB.parse_bytes b h
  have e1 : (GB.bytes b).drop 16 = GB.rest b := by unfold GB.bytes; rw [← Sha.sum_len (GB.rest b), List.drop_left]
  have e2 : (GB.bytes b).take 16 = Sha.sum (GB.rest b) := by unfold GB.bytes; rw [← Sha.sum_len (GB.rest b), List.take_left]
  have e3 : at4 (GB.bytes b) 28 = b.2.2.1.length := by
    have := congrArg (fun x : GBT => x.2.2.1.length) hp
    simpa [GB.parse] using this
  have e4 : at4 (GB.bytes b) 32 = b.2.2.2.1.length ∨ at4 (GB.bytes b) 32 > 860 := by
    have := congrArg (fun x : GBT => x.2.2.2.1.length) hp
    simp only [GB.parse, List.length_take, List.length_drop, GB.bytes_length b hn hb] at this
    omega
  have e5 : at4 (GB.bytes b) 32 = b.2.2.2.1.length := by
    have hh : GB.bytes b = (Sha.sum (GB.rest b) ++ (le4 b.1.toNat ++ (le4 b.2.1.1.toNat ++ (le4 b.2.1.2.1.toNat ++ le4 b.2.2.1.length)))) ++ (le4 b.2.2.2.1.length ++ (refsBytes b.2.2.1 ++ (List.replicate (128 - 8 * b.2.2.1.length) 0 ++ GB.tail b))) := by
      conv => lhs; unfold GB.bytes
      conv => lhs; rhs; unfold GB.rest GB.head
      simp
    rw [hh, at4_app' _ _ 0 _ (by simp [le4_length, Sha.sum_len]), at4_le4 _ (by omega)]
  clear e4
  unfold GB.read
  rw [if_neg (by rw [GB.bytes_length b hn hb]; simp), e1, e2, if_neg (by simp), e3, e5, if_neg (by omega), hp, if_pos ⟨h, rfl⟩]
theorem GB.read_cases (raw : List UInt8) : (GB.read raw).1 = 4 ∧ (GB.read raw).2 = GB.none_ ∨ (GB.read raw).1 = 12 ∧ (GB.read raw).2 = GB.none_ ∨
    GB.read raw = (0, GB.parse raw) ∧ GB.ok (GB.parse raw) = true ∧ GB.bytes (GB.parse raw) = raw := by
  unfold GB.read
  by_cases h1 : raw.length ≠ 1024
  · rw [if_pos h1]; exact .inl ⟨rfl, rfl⟩
  · rw [if_neg h1]
    by_cases h2 : Sha.sum (raw.drop 16) ≠ raw.take 16
    · rw [if_pos h2]; exact .inr (.inl ⟨rfl, rfl⟩)
    · rw [if_neg h2]
      by_cases h3 : 16 < at4 raw 28 ∨ 860 < at4 raw 32
      · rw [if_pos h3]; exact .inl ⟨rfl, rfl⟩
      · rw [if_neg h3]
        by_cases h4 : GB.ok (GB.parse raw) = true ∧ GB.rest (GB.parse raw) = raw.drop 16
        · rw [if_pos h4]
          refine .inr (.inr ⟨rfl, h4.1, ?_⟩)
          have h2' : Sha.sum (raw.drop 16) = raw.take 16 := by simpa using h2
          unfold GB.bytes
          rw [h4.2, h2', List.take_append_drop]
        · rw [if_neg h4]; exact .inl ⟨rfl, rfl⟩
end Go.Proofs.Ytfpcldnefpmgcaa
