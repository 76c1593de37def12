/- A journal's place; is a disk ready for rings; the calls of a journal that is nil, or that nobody made. Conditions: the disk is known, or is none. -/
import Derived.Test.YtfoegmjpfkmggaaDoorMJournalNone10
namespace Go.Proofs.YtfoegmjpfkmggaaDoor
open Go.RowKit
theorem jplace_any (n : Int) (hn : 0 ≤ n ∧ n ≤ 100) (w : World) : Calls Tryd.prog 26 #[.int .i64 n] w fun e w' => e = .returned (.int .i64 (24 + 5 * n)) ∧ w' = w := by
  have h1 : wrap64 (n * 5) = n * 5 := by unfold wrap64; omega
  have h4 : wrap64 (24 + n * 5) = 24 + 5 * n := by unfold wrap64; omega
  clear hn
  go_enter Tryd.func26, Tryd.ntmps26
  go_wp2
  go_ret
  exact ⟨by simp [h1, h4], rfl⟩
/-- Cells of a journal that nobody made. -/
def noJour : Array Value := #[.pointer none] ++ (List.replicate 16 [Value.int .i64 0, .int .i64 0, .int .i64 0, .bool false]).flatten.toArray
def NoJour (J : Option Addr) (w : World) : Prop := J = none ∨ ∃ g, J = some ⟨g, 0, none⟩ ∧ Blk w g 52 noJour
theorem NoJour.near {J : Option Addr} {w w' : World} (h : NoJour J w) (k : Near [] w w') : NoJour J w' := by
  rcases h with rfl | ⟨g, rfl, h⟩
  · exact .inl rfl
  · exact .inr ⟨g, rfl, h.near k (fun x => by cases x)⟩
theorem NoJour.below {J : Option Addr} {w w' : World} (h : NoJour J w) (k : Below w.heap.size w w') : NoJour J w' := h.near (Near.below k)
section
variable (J : Option Addr) (w : World) (h : NoJour J w)
include h
set_option maxRecDepth 100000 in
theorem jnone_no : Calls Tryd.prog 20 #[.pointer J] w fun e w' => e = .returned (.bool true) ∧ w' = w := by
  rcases h with rfl | ⟨g, rfl, h⟩
  · go_enter Tryd.func20, Tryd.ntmps20
    go_wp2
    go_ret
    exact ⟨rfl, rfl⟩
  · have d0 := h.at_ 0 (v := .pointer none) rfl
    clear h
    go_enter Tryd.func20, Tryd.ntmps20
    go_wp2
    go_ret
    exact ⟨rfl, rfl⟩
set_option maxRecDepth 100000 in
theorem jup_no : Calls Tryd.prog 33 #[.pointer J] w fun e w' => e = .returned (.int .i64 1) ∧ w' = w := by
  go_enter Tryd.func33, Tryd.ntmps33
  go_wp2_with fail
  refine (jnone_no J w h).mono ?_
  rintro e w1 ⟨rfl, hw⟩
  obtain rfl := hw.symm
  clear h hw
  go_wp2
  go_ret
  exact ⟨rfl, rfl⟩
set_option maxRecDepth 100000 in
theorem jslots_no : Calls Tryd.prog 13 #[.pointer J] w fun e w' => e = .returned (.slice none 0 0) ∧ w' = w := by
  go_enter Tryd.func13, Tryd.ntmps13
  go_wp2_with fail
  refine (jnone_no J w h).mono ?_
  rintro e w1 ⟨rfl, hw⟩
  obtain rfl := hw.symm
  clear h hw
  go_wp2
  go_ret
  exact ⟨rfl, rfl⟩
set_option maxRecDepth 100000 in
theorem jmend_no : Calls Tryd.prog 18 #[.pointer J] w fun e w' => e = .returned (.int .i64 1) ∧ Below w.heap.size w w' := by
  have hB := ((Below.refl w.heap.size w).alloc (Nat.le_refl _) (.cells #[.pointer J] 23)).alloc (by simp) (.cells #[.int .i64 0] 26)
  have hbr := Blk.new' (w.alloc (.cells #[.pointer J] 23)) 26 #[.int .i64 0] (n := w.heap.size + 1) (by simp)
  have h1 := h.below hB
  have f0 := hbr.frozen 0
  have q0 := hbr.at_ 0 (v := .int .i64 0) rfl
  have HB := Lib.hid (And.intro (((Below.refl w.heap.size w).alloc (Nat.le_refl _) (.cells #[.pointer J] 23)).alloc (by simp) (.cells #[.int .i64 1] 26)) (Blk.new' (w.alloc (.cells #[.pointer J] 23)) 26 #[.int .i64 1] (n := w.heap.size + 1) (by simp)))
  clear h hB hbr
  go_enter Tryd.func18, Tryd.ntmps18
  go_wp2_with fail
  refine (jup_no J _ h1).mono ?_
  rintro e w1 ⟨rfl, hw⟩
  obtain rfl := hw.symm
  clear h1 hw
  go_wp2
  refine bodyPost_ret (results_cell (by rfl) _ _ (w.heap.size + 1) (.int .i64 1) _ (by rfl) (HB.out.2.at_ 0 (v := .int .i64 1) (by rfl)) Tryd.underlying26 (by rfl)) rfl ⟨rfl, HB.out.1⟩
set_option maxRecDepth 100000 in
theorem jcut_no (op : Int) : Calls Tryd.prog 14 #[.pointer J, .int .i64 op] w fun e w' => e = .returned (.int .i64 1) ∧ Below w.heap.size w w' := by
  have hB := ((Below.refl w.heap.size w).alloc (Nat.le_refl _) (.cells #[.pointer J] 23)).alloc (by simp) (.cells #[.int .i64 op] 3)
  have h1 := h.below hB
  have HB := Lib.hid hB
  clear h hB
  go_enter Tryd.func14, Tryd.ntmps14
  go_wp2_with fail
  refine (jup_no J _ h1).mono ?_
  rintro e w1 ⟨rfl, hw⟩
  obtain rfl := hw.symm
  clear h1 hw
  go_wp2
  go_ret
  exact ⟨rfl, HB.out⟩
set_option maxRecDepth 100000 in
theorem jput_no (f : HdF) (v : Value) : Calls Tryd.prog 8 #[.pointer J, .agg (msgc f v)] w fun e w' => e = .returned (.int .i64 1) ∧ Below w.heap.size w w' := by
  have hB := ((Below.refl w.heap.size w).alloc (Nat.le_refl _) (.cells #[.pointer J] 23)).alloc (by simp) (.cells (msgc f v) 38)
  have h1 := h.below hB
  have HB := Lib.hid hB
  clear h hB
  go_enter Tryd.func8, Tryd.ntmps8
  go_wp2_with fail
  refine (jnone_no J _ h1).mono ?_
  rintro e w1 ⟨rfl, hw⟩
  obtain rfl := hw.symm
  clear h1 hw
  go_wp2
  go_ret
  exact ⟨rfl, HB.out⟩
set_option maxRecDepth 100000 in
theorem jget_no (op : Int) : Calls Tryd.prog 16 #[.pointer J, .int .i64 op] w fun e w' => e = .returned (.tuple #[.agg (msgc zeroHd (.slice none 0 0)), .int .i64 1]) ∧ Below w.heap.size w w' := by
  have hB := (Below.refl w.heap.size w).alloc (Nat.le_refl _) (.cells #[.int .i64 0, .int .i64 0, .int .i64 0, .int .i64 0, .int .i64 0, .int .i64 0, .int .i64 0, .int .i64 0, .int .i64 0, .int .u64 0, .int .u64 0, .int .i64 0, .int .i64 0, .int .u64 0, .int .i64 0, .int .i64 0, .slice none 0 0] 38)
  have hg0 := (Blk.new w 38 #[.int .i64 0, .int .i64 0, .int .i64 0, .int .i64 0, .int .i64 0, .int .i64 0, .int .i64 0, .int .i64 0, .int .i64 0, .int .u64 0, .int .u64 0, .int .i64 0, .int .i64 0, .int .u64 0, .int .i64 0, .int .i64 0, .slice none 0 0]).sub zeroMsg_cells.symm
  have h1 := h.below hB
  have HB := Lib.hid hB
  clear h hB
  go_enter Tryd.func16, Tryd.ntmps16
  go_wp2_with fail
  refine (jup_no J _ h1).mono ?_
  rintro e w1 ⟨rfl, hw⟩
  obtain rfl := hw.symm
  clear h1 hw
  go_wp2_with (first
    | ((with_reducible show wpList _ _ _ ((⟨none, _, _, _, _, _⟩ : Oper) :: _) _ _); refine wpList_store_blk (o := ⟨none, _, _, _, _, _⟩) (hg0) (by rfl) _ _ _ (by rfl) (by rfl) (msgc zeroHd (.slice none 0 0)) (by rfl) (sizeMsg) (msgc_size _ _) (msgc_size _ _) (msgc_one _ _ rfl) ?_; intro w2 h2 hu2)
    | fail)
  refine bodyPost_ret (results_row_tmp (by rfl) _ _ w.heap.size _ _ _ (by rfl) h2 Tryd.underlying38 (by rfl) (by rw [msgc_size]; exact sizeMsg)) rfl ⟨rfl, HB.out.upd hu2 (Nat.le_refl _)⟩
end
section
variable (D : Option Addr) (w : World) (h : NoDisk D w)
include h
theorem jready_no : Calls Tryd.prog 29 #[.pointer D] w fun e w' => e = .returned (.int .i64 1) ∧ w' = w := by
  go_enter Tryd.func29, Tryd.ntmps29
  go_wp2_with fail
  refine (sectors_no D w h).mono ?_
  rintro e w1 ⟨rfl, hw⟩
  obtain rfl := hw.symm
  clear h hw
  go_wp2
  go_ret
  exact ⟨rfl, rfl⟩
theorem jopen_no : Calls Tryd.prog 10 #[.pointer D] w fun e w' => e = .returned (.tuple #[.pointer none, .int .i64 1]) ∧ w' = w := by
  go_enter Tryd.func10, Tryd.ntmps10
  go_wp2_with fail
  refine (jready_no D w h).mono ?_
  rintro e w1 ⟨rfl, hw⟩
  obtain rfl := hw.symm
  clear h hw
  go_wp2
  go_ret2
  exact ⟨rfl, rfl⟩
theorem jformat_no : Calls Tryd.prog 19 #[.pointer D] w fun e w' => e = .returned (.int .i64 1) ∧ Below w.heap.size w w' := by
  have hB := (Below.refl w.heap.size w).alloc (Nat.le_refl _) (.cells #[.pointer D] 22)
  have h1 := h.near (Near.below hB)
  have HB := Lib.hid hB
  clear h hB
  go_enter Tryd.func19, Tryd.ntmps19
  go_wp2_with fail
  refine (jready_no D _ h1).mono ?_
  rintro e w1 ⟨rfl, hw⟩
  obtain rfl := hw.symm
  clear h1 hw
  go_wp2
  go_ret
  exact ⟨rfl, HB.out⟩
end
end Go.Proofs.YtfoegmjpfkmggaaDoor

/- What the kit asks of lists that shall share no memory: each is written over, and the others stay. Conditions: they lie whole in blocks of their own, or are nil. -/
namespace Go
open Go.RowKit
/-- A list that lies whole in a block, or none: its address, its length, all its bytes up to its capacity. -/
structure Ent where
  A : Option Addr
  n : Nat
  l : List UInt8
def Ent.val (e : Ent) : Value := .slice e.A e.n e.l.length
def Ent.blk (e : Ent) : Option Nat := e.A.map (·.block)
def Ent.Is (w : World) (e : Ent) : Prop :=
  e.n ≤ e.l.length ∧ e.l.length ≤ 140737488351232 ∧ ((e.A = none ∧ e.l = []) ∨ ∃ g t, e.A = some ⟨g, 0, none⟩ ∧ Blk w g t (e.l.map u8v).toArray)
theorem Ent.Is.bytes {w : World} {e : Ent} (h : e.Is w) : Bytes w e.A e.l := by
  obtain ⟨_, _, ⟨h1, h2⟩ | ⟨g, t, h1, h2⟩⟩ := h
  · rw [h1, h2]; exact Reads.nil _ _
  · rw [h1]; exact h2.bytes
theorem Ent.Is.kept {w w' : World} {row : Option Nat} {e : Ent} (h : e.Is w) (hg : w.grownBy w' row) (hne : ∀ g, e.blk = some g → some g ≠ row) : e.Is w' := by
  obtain ⟨h1, h2, h3 | ⟨g, t, h3, h4⟩⟩ := h
  · exact ⟨h1, h2, .inl h3⟩
  · exact ⟨h1, h2, .inr ⟨g, t, h3, (hg.block g h4.lt (hne g (by unfold Ent.blk; rw [h3]; rfl))).trans h4⟩⟩
theorem Ent.Is.below {w w' : World} {e : Ent} {B : Nat} (h : e.Is w) (hb : Below B w w') (hlt : ∀ g, e.blk = some g → g < B) : e.Is w' := by
  obtain ⟨h1, h2, h3 | ⟨g, t, h3, h4⟩⟩ := h
  · exact ⟨h1, h2, .inl h3⟩
  · exact ⟨h1, h2, .inr ⟨g, t, h3, h4.below hb (hlt g (by unfold Ent.blk; rw [h3]; rfl))⟩⟩
theorem Ent.Is.lt {w : World} {e : Ent} (h : e.Is w) : ∀ g, e.blk = some g → g < w.heap.size := by
  intro g hg
  obtain ⟨_, _, ⟨h3, _⟩ | ⟨g', t, h3, h4⟩⟩ := h
  · unfold Ent.blk at hg; rw [h3] at hg; cases hg
  · unfold Ent.blk at hg; rw [h3] at hg; simp at hg; subst hg; exact h4.lt
theorem Upd.grownBy {w w' : World} {g : Nat} (u : Upd g w w') : w.grownBy w' (some g) := ⟨u.os, u.tape, u.output, by rw [u.size]; exact Nat.le_refl _, fun k _ hk => u.block k (fun e => hk (by rw [e]))⟩
end Go
namespace Go.Proofs.YtfoegmjpfkmggaaDoor
open Go.RowKit
end Go.Proofs.YtfoegmjpfkmggaaDoor

/- The plain seal, reckoned with natural numbers, so that the kernel can reckon it of long bytes. Plain facts. No condition. -/
namespace Go
namespace ShaN
/-- A number reckoned ahead of what uses it. -/
def force {α : Type} (n : Nat) (f : Nat → α) : α := match n with
  | 0 => f 0
  | k + 1 => f (k + 1)
def rot (x n : Nat) : Nat := Nat.lor (Nat.shiftRight x n) (Nat.mod (Nat.shiftLeft x (32 - n)) 4294967296)
def sg0 (x : Nat) : Nat := Nat.xor (Nat.xor (rot x 7) (rot x 18)) (Nat.shiftRight x 3)
def sg1 (x : Nat) : Nat := Nat.xor (Nat.xor (rot x 17) (rot x 19)) (Nat.shiftRight x 10)
def tt1 (k w e f g h : Nat) : Nat := Nat.mod (h + Nat.xor (Nat.xor (rot e 6) (rot e 11)) (rot e 25) + Nat.xor (Nat.land e f) (Nat.land (4294967295 - e) g) + k + w) 4294967296
def tt2 (a b c : Nat) : Nat := Nat.xor (Nat.xor (rot a 2) (rot a 13)) (rot a 22) + Nat.xor (Nat.xor (Nat.land a b) (Nat.land a c)) (Nat.land b c)
def nextN (w0 w1 w9 w14 : Nat) : Nat := Nat.mod (sg1 w14 + w9 + sg0 w1 + w0) 4294967296
/-- Some rounds; 16 words ahead are known. -/
def go : List Nat → List Nat → Nat → Nat → Nat → Nat → Nat → Nat → Nat → Nat → List Nat
  | [], _, a, b, c, d, e, f, g, h => [a, b, c, d, e, f, g, h]
  | k :: ks, ws, a, b, c, d, e, f, g, h =>
    force (ws.getD 0 0) fun w0 =>
    force (tt1 k w0 e f g h) fun t1 =>
    force (Nat.mod (t1 + tt2 a b c) 4294967296) fun a' =>
    force (Nat.mod (d + t1) 4294967296) fun e' =>
    force (nextN w0 (ws.getD 1 0) (ws.getD 9 0) (ws.getD 14 0)) fun wn =>
    go ks (ws.drop 1 ++ [wn]) a' a b c e' e f g
def beN (a b c d : Nat) : Nat := Nat.lor (Nat.lor (Nat.lor (Nat.mod (Nat.shiftLeft a 24) 4294967296) (Nat.mod (Nat.shiftLeft b 16) 4294967296)) (Nat.mod (Nat.shiftLeft c 8) 4294967296)) d
def w4 : List Nat → List Nat
  | a :: b :: c :: d :: r => force (beN a b c d) fun w => w :: w4 r
  | _ => []
theorem toNat_inj : ∀ {l m : List UInt8}, l.map (·.toNat) = m.map (·.toNat) → l = m
  | [], [], _ => rfl
  | [], _ :: _, h => by cases h
  | _ :: _, [], h => by cases h
  | a :: l, b :: m, h => by
    simp only [List.map_cons, List.cons.injEq] at h
    rw [UInt8.toNat_inj.1 h.1, toNat_inj h.2]
end ShaN
end Go

/- The chapter's message: its bytes, told by reckoning; what is written is read. No condition. -/
namespace Go.Proofs.YtfoegmjpfkmggaaDoor
theorem Msg.read_bytes (f : HdF) (body : List UInt8) (hok : Hd.ok f = true) (hin : Hd.in_ f) (h2 : f 2 = (body.length : Int)) :
    Hd.same (Hd.parse ((Hd.bytes f body).take 256)) f ∧ Msg.read (Hd.bytes f body) = (0, Hd.parse ((Hd.bytes f body).take 256), body) := by
  have hs : (Sha.sum body).length = 16 := Sha.sum_len body
  have hl := Hd.head_length f _ hs
  have e1 : (Hd.bytes f body).take 256 = Hd.head f (Sha.sum body) := by unfold Hd.bytes; rw [← hl, List.take_left]
  have e2 : (Hd.bytes f body).drop 256 = body := by unfold Hd.bytes; rw [← hl, List.drop_left]
  obtain ⟨h0, hsame⟩ := Hd.read_head f _ hs hok hin
  have hp : (Hd.read (Hd.head f (Sha.sum body))).2 = Hd.parse (Hd.head f (Sha.sum body)) := by
    rcases Hd.read_cases (Hd.head f (Sha.sum body)) with (h | h) | ⟨h, -⟩
    · rw [h] at h0; simp at h0
    · rw [h] at h0; simp at h0
    · rw [h]
  rw [hp] at hsame
  have e3 : ((Hd.bytes f body).drop 16).take 16 = Sha.sum body := by
    unfold Hd.bytes Hd.head Hd.rest
    simp only [List.append_assoc]
    rw [← Sha.sum_len (Hd.rest f (Sha.sum body)), show Sha.sum (Hd.rest f (Sha.sum body)) = Sha.sum (Sha.sum body ++ (Hd.mid f ++ List.replicate 148 0)) from rfl, List.drop_left, Sha.sum_len, ← hs, List.take_left]
  have hlen : (Hd.bytes f body).length = 256 + body.length := by unfold Hd.bytes; rw [List.length_append, hl]
  rw [e1]
  refine ⟨hsame, ?_⟩
  unfold Msg.read
  rw [if_neg (by omega), e1, if_neg (by rw [h0]; simp), if_neg (by rw [hsame 2 (by omega), h2, hlen, Nat.add_sub_cancel_left]; simp), e2, e3, if_neg (by simp)]
/-- What is opened is a message that is sealed as the same bytes. -/
theorem Msg.read_ok (r : List UInt8) (h : (Msg.read r).1 = 0) : 256 ≤ r.length ∧ Msg.read r = (0, Hd.parse (r.take 256), r.drop 256) ∧ Hd.ok (Hd.parse (r.take 256)) = true ∧ Hd.parse (r.take 256) 2 = ((r.drop 256).length : Int) ∧
    Hd.bytes (Hd.parse (r.take 256)) (r.drop 256) = r ∧ Sha.sum (r.drop 256) = (r.drop 16).take 16 ∧ Sha.sum ((r.take 256).drop 16) = r.take 16 := by
  unfold Msg.read at h ⊢
  by_cases h1 : r.length < 256
  · rw [if_pos h1] at h; simp at h
  rw [if_neg h1] at h ⊢
  by_cases h2 : (Hd.read (r.take 256)).1 ≠ 0
  · rw [if_pos h2] at h; exact absurd h h2
  rw [if_neg h2] at h ⊢
  by_cases h3 : ((r.length - 256 : Nat) : Int) ≠ Hd.parse (r.take 256) 2
  · rw [if_pos h3] at h; simp at h
  rw [if_neg h3] at h ⊢
  by_cases h4 : Sha.sum (r.drop 256) ≠ (r.drop 16).take 16
  · rw [if_pos h4] at h; simp at h
  rw [if_neg h4]
  have h4' : Sha.sum (r.drop 256) = (r.drop 16).take 16 := by simpa using h4
  have h3' : ((r.length - 256 : Nat) : Int) = Hd.parse (r.take 256) 2 := by simpa using h3
  rcases Hd.read_cases (r.take 256) with (hx | hx) | ⟨hx, hl, hok, hh⟩
  · rw [hx] at h2; simp at h2
  · rw [hx] at h2; simp at h2
  have e : ((r.take 256).drop 16).take 16 = (r.drop 16).take 16 := by rw [List.drop_take, List.take_take]; simp
  rw [e, ← h4'] at hh
  refine ⟨by omega, rfl, hok, by rw [← h3', List.length_drop], ?_, h4', ?_⟩
  · unfold Hd.bytes; rw [hh, List.take_append_drop]
  · have hx2 : Sha.sum ((r.take 256).drop 16) = (r.take 256).take 16 := by
      by_cases hc : Sha.sum ((r.take 256).drop 16) = (r.take 256).take 16
      · exact hc
      · exfalso
        unfold Hd.read at hx
        rw [if_neg (by rw [hl]; simp), if_pos hc] at hx
        simp at hx
    rw [hx2, List.take_take]; simp
theorem Hd.bytes_length (f : HdF) (body : List UInt8) : (Hd.bytes f body).length = 256 + body.length := by
  unfold Hd.bytes; rw [List.length_append, Hd.head_length f _ (Sha.sum_len body)]
/-! ### The chapter's message -/
end Go.Proofs.YtfoegmjpfkmggaaDoor

/- A message as an argument: what its cells are; what the two functions that seal messages answer, whatever the message. Condition: the body can be read. -/
namespace Go.Proofs.YtfoegmjpfkmggaaDoor
open Go.RowKit
def i64Sh : Sh := .int .i64
def u64Sh : Sh := .int .u64
def uSh : Sh := .cons u64Sh (.cons u64Sh .nil)
def hdSh : Sh := .cons i64Sh (.cons i64Sh (.cons i64Sh (.cons i64Sh (.cons i64Sh (.cons i64Sh (.cons i64Sh (.cons i64Sh (.cons i64Sh (.cons uSh (.cons i64Sh (.cons i64Sh (.cons u64Sh (.cons i64Sh (.cons i64Sh .nil))))))))))))))
def msgSh : Sh := .cons hdSh (.cons (.slice .byte) .nil)
def listF (l : List Int) : HdF := fun i => l.getD i 0
theorem hdin (f : HdF) (a b c : Int) (e9 : f 9 = a) (e10 : f 10 = b) (e13 : f 13 = c) (h9 : IntKind.min .u64 ≤ a ∧ a ≤ IntKind.max .u64) (h10 : IntKind.min .u64 ≤ b ∧ b ≤ IntKind.max .u64) (h13 : IntKind.min .u64 ≤ c ∧ c ≤ IntKind.max .u64) : Hd.in_ f := by
  have e1 : IntKind.min .u64 = 0 := by decide
  have e2 : IntKind.max .u64 = 18446744073709551615 := by decide
  rw [e1, e2] at h9 h10 h13
  unfold Hd.in_
  rw [e9, e10, e13]
  omega
theorem hdSh_is {w : World} {x : hdSh.T} {cs : List Value} (h : Sh.Is w hdSh x cs) : ∃ f : HdF, cs = (hdc f).toList ∧ Hd.in_ f := by
  obtain ⟨c0, _, rfl, _, ⟨rfl, _⟩, c1, _, rfl, _, ⟨rfl, _⟩, c2, _, rfl, _, ⟨rfl, _⟩, c3, _, rfl, _, ⟨rfl, _⟩, c4, _, rfl, _, ⟨rfl, _⟩, c5, _, rfl, _, ⟨rfl, _⟩, c6, _, rfl, _, ⟨rfl, _⟩, c7, _, rfl, _, ⟨rfl, _⟩, c8, _, rfl, _, ⟨rfl, _⟩,
    c9, _, rfl, _, ⟨c90, _, rfl, _, ⟨rfl, h9, h9'⟩, c91, c92, rfl, _, ⟨rfl, h10, h10'⟩, e9⟩, c11, _, rfl, _, ⟨rfl, _⟩, c12, _, rfl, _, ⟨rfl, _⟩, c13, _, rfl, _, ⟨rfl, h13, h13'⟩, c14, _, rfl, _, ⟨rfl, _⟩, c15, c16, rfl, _, ⟨rfl, _⟩, e16⟩ := h
  have e9 : c92 = [] := e9
  have e16 : c16 = [] := e16
  subst e9 e16
  obtain ⟨x0, x1, x2, x3, x4, x5, x6, x7, x8, ⟨x9, x10, _⟩, x11, x12, x13, x14, x15, _⟩ := x
  refine ⟨listF [x0, x1, x2, x3, x4, x5, x6, x7, x8, x9, x10, x11, x12, x13, x14, x15], rfl, ?_⟩
  exact hdin _ x9 x10 x13 rfl rfl rfl ⟨h9, h9'⟩ ⟨h10, h10'⟩ ⟨h13, h13'⟩
theorem msgc_list (f : HdF) (v : Value) : (msgc f v).toList = (hdc f).toList ++ [v] := by rfl
theorem msgSh_is {w : World} {x : msgSh.T} {cs : List Value} (h : Sh.Is w msgSh x cs) : ∃ f A c, cs.toArray = msgc f (.slice A x.2.1.length c) ∧ Hd.in_ f ∧ x.2.1.length ≤ c ∧ c ≤ 9223372036854775807 ∧ Bytes w A x.2.1 := by
  obtain ⟨c1, _, rfl, _, h1, c2, c3, rfl, _, h2, h3⟩ := h
  obtain ⟨f, rfl, hin⟩ := hdSh_is h1
  obtain ⟨A, c, rfl, h4, h5, h6⟩ := Sh.Is.bytes h2
  have h3 : c3 = [] := h3
  subst h3
  refine ⟨f, A, c, ?_, hin, h4, by simpa [maxLen] using h5, h6⟩
  rw [List.append_nil, ← msgc_list, Array.toArray_toList]
  rfl
/-- What a message is sealed as: the error's number, the bytes. -/
def Msg.seal_ (f : HdF) (body : List UInt8) : Int × List UInt8 :=
  if 1024 < body.length then (3, []) else if Hd.ok (setF f 2 body.length) = true then (0, Hd.bytes (setF f 2 body.length) body) else (2, [])
theorem hseal_any (f : HdF) (A : Option Addr) (n c : Nat) (body : List UInt8) (w : World) (hn : n = body.length) (hby : Bytes w A body) (hc : n ≤ c ∧ c ≤ 9223372036854775807) (hin : Hd.in_ f) :
    Calls Tryd.prog 44 #[.agg (msgc f (.slice A n c))] w fun e w' => ∃ E : Ent, e = .returned (.tuple #[E.val, .int .i64 (Msg.seal_ f body).1]) ∧ E.Is w' ∧ (∀ g, E.blk = some g → w.heap.size ≤ g) ∧ E.n = E.l.length ∧
      E.l = (Msg.seal_ f body).2 ∧ Below w.heap.size w w' := by
  subst hn
  by_cases h1 : 1024 < body.length
  · rw [show Msg.seal_ f body = (3, []) by unfold Msg.seal_; rw [if_pos h1]]
    refine (hseal_long f A c body w h1).mono ?_
    rintro e w' ⟨rfl, hB⟩
    exact ⟨⟨none, 0, []⟩, rfl, ⟨Nat.le_refl _, by simp, .inl ⟨rfl, rfl⟩⟩, fun g h => (by cases h), rfl, rfl, hB⟩
  · cases h2 : Hd.ok (setF f 2 body.length)
    · rw [show Msg.seal_ f body = (2, []) by unfold Msg.seal_; rw [if_neg h1, if_neg (by rw [h2]; simp)]]
      refine (hseal_no f A c body w (by omega) h2).mono ?_
      rintro e w' ⟨rfl, hB⟩
      exact ⟨⟨none, 0, []⟩, rfl, ⟨Nat.le_refl _, by simp, .inl ⟨rfl, rfl⟩⟩, fun g h => (by cases h), rfl, rfl, hB⟩
    · rw [show Msg.seal_ f body = (0, Hd.bytes (setF f 2 body.length) body) by unfold Msg.seal_; rw [if_neg h1, if_pos h2]]
      refine (hseal_ok f A c body w hby hc (by omega) h2 hin).mono ?_
      rintro e w' ⟨g, rfl, hg, hb, hB⟩
      have hl := Hd.bytes_length (setF f 2 body.length) body
      refine ⟨⟨some ⟨g, 0, none⟩, 256 + body.length, Hd.bytes (setF f 2 body.length) body⟩, ?_, ⟨by simp only; omega, by simp only; omega, .inr ⟨g, _, rfl, hb⟩⟩, fun g' h => ?_, hl.symm, rfl, hB⟩
      · unfold Ent.val; simp only; rw [hl]
      · unfold Ent.blk at h; simp at h; omega
end Go.Proofs.YtfoegmjpfkmggaaDoor

/- Two headers compared, two messages compared. Conditions: the bodies can be read. -/
namespace Go.Proofs.YtfoegmjpfkmggaaDoor
open Go.RowKit
theorem hdc_lit (f : HdF) : hdc f = #[.int .i64 (f 0), .int .i64 (f 1), .int .i64 (f 2), .int .i64 (f 3), .int .i64 (f 4), .int .i64 (f 5), .int .i64 (f 6), .int .i64 (f 7), .int .i64 (f 8), .int .u64 (f 9), .int .u64 (f 10), .int .i64 (f 11), .int .i64 (f 12), .int .u64 (f 13), .int .i64 (f 14), .int .i64 (f 15)] := by rfl
def Hd.beq (f g : HdF) : Bool := (f 0 == g 0) && (f 1 == g 1) && (f 2 == g 2) && (f 3 == g 3) && (f 4 == g 4) && (f 5 == g 5) && (f 6 == g 6) && (f 7 == g 7) && (f 8 == g 8) && (f 9 == g 9) && (f 10 == g 10) && (f 11 == g 11) && (f 12 == g 12) && (f 13 == g 13) && (f 14 == g 14) && (f 15 == g 15)
theorem Hd.beq_same (f g : HdF) : Hd.beq f g = true ↔ Hd.same f g := by
  unfold Hd.beq Hd.same
  simp only [Bool.and_eq_true, beq_iff_eq]
  constructor
  · intro h i hi
    have : i = 0 ∨ i = 1 ∨ i = 2 ∨ i = 3 ∨ i = 4 ∨ i = 5 ∨ i = 6 ∨ i = 7 ∨ i = 8 ∨ i = 9 ∨ i = 10 ∨ i = 11 ∨ i = 12 ∨ i = 13 ∨ i = 14 ∨ i = 15 := by omega
    rcases this with rfl | rfl | rfl | rfl | rfl | rfl | rfl | rfl | rfl | rfl | rfl | rfl | rfl | rfl | rfl | rfl <;> simp only [h]
  · intro h
    simp only [h 0 (by omega), h 1 (by omega), h 2 (by omega), h 3 (by omega), h 4 (by omega), h 5 (by omega), h 6 (by omega), h 7 (by omega), h 8 (by omega), h 9 (by omega), h 10 (by omega), h 11 (by omega), h 12 (by omega), h 13 (by omega), h 14 (by omega), h 15 (by omega), and_self]
theorem noselHd : Tryd.prog.eqGuardType Tryd.prog.depth 35 = false := by kernel_rfl
theorem heldHd : Tryd.prog.stoodInHeld 35 = false := by kernel_rfl
set_option maxRecDepth 100000 in
set_option maxHeartbeats 4000000 in
theorem eqHd (w : World) (f g : HdF) : (Op.equalIn 10000 35 (.agg (hdc f)) (.agg (hdc g))).run Tryd.prog w = .ok (Hd.beq f g) w := by
  have hu : Tryd.prog.underlying 35 = some (.struct (Tryd.prog.fieldsOf 35)) := by kernel_rfl
  rw [show (10000 : Nat) = 9999 + 1 from rfl, run_equalIn_struct w 9999 35 _ _ hu heldHd]
  have e : Tryd.prog.fieldsOf 35 = (match Tryd.prog.underlying 35 with | some (.struct fs) => fs | _ => #[]) := rfl
  rw [e, Tryd.underlying35, hdc_lit, hdc_lit]
  have ei := Tryd.underlying3
  have ej := Tryd.underlying31
  simp [Op.eqFields, part, go_sem, ei, ej]
  by_cases h0 : f 0 = g 0
  case neg => rw [if_neg h0]; simp [Hd.beq, h0]
  rw [if_pos h0]
  by_cases h1 : f 1 = g 1
  case neg => rw [if_neg h1]; simp [Hd.beq, h1]
  rw [if_pos h1]
  by_cases h2 : f 2 = g 2
  case neg => rw [if_neg h2]; simp [Hd.beq, h2]
  rw [if_pos h2]
  by_cases h3 : f 3 = g 3
  case neg => rw [if_neg h3]; simp [Hd.beq, h3]
  rw [if_pos h3]
  by_cases h4 : f 4 = g 4
  case neg => rw [if_neg h4]; simp [Hd.beq, h4]
  rw [if_pos h4]
  by_cases h5 : f 5 = g 5
  case neg => rw [if_neg h5]; simp [Hd.beq, h5]
  rw [if_pos h5]
  by_cases h6 : f 6 = g 6
  case neg => rw [if_neg h6]; simp [Hd.beq, h6]
  rw [if_pos h6]
  by_cases h7 : f 7 = g 7
  case neg => rw [if_neg h7]; simp [Hd.beq, h7]
  rw [if_pos h7]
  by_cases h8 : f 8 = g 8
  case neg => rw [if_neg h8]; simp [Hd.beq, h8]
  rw [if_pos h8]
  by_cases h9 : f 9 = g 9
  case neg => rw [if_neg h9]; simp [Hd.beq, h9]
  rw [if_pos h9]
  by_cases h10 : f 10 = g 10
  case neg => rw [if_neg h10]; simp [Hd.beq, h10]
  rw [if_pos h10]
  by_cases h11 : f 11 = g 11
  case neg => rw [if_neg h11]; simp [Hd.beq, h11]
  rw [if_pos h11]
  by_cases h12 : f 12 = g 12
  case neg => rw [if_neg h12]; simp [Hd.beq, h12]
  rw [if_pos h12]
  by_cases h13 : f 13 = g 13
  case neg => rw [if_neg h13]; simp [Hd.beq, h13]
  rw [if_pos h13]
  by_cases h14 : f 14 = g 14
  case neg => rw [if_neg h14]; simp [Hd.beq, h14]
  rw [if_pos h14]
  by_cases h15 : f 15 = g 15
  case neg => rw [if_neg h15]; simp [Hd.beq, h15]
  rw [if_pos h15]
  simp [Hd.beq, h0, h1, h2, h3, h4, h5, h6, h7, h8, h9, h10, h11, h12, h13, h14, h15]
theorem exec_eql_hd {o : Oper} {ac : Act} (w : World) (x y : Operand) (r : TypeId) (ho : o.op = .binOp .eql 35 x y r) (f g : HdF) (hx : ac.eval x = .agg (hdc f)) (hy : ac.eval y = .agg (hdc g)) :
    (execOp ac.eval o).run Tryd.prog w = .ok (.value (.bool (Hd.beq f g))) w := by
  unfold execOp
  simp only [ho, hx, hy, Sem.run_bind, run_eqGuard_agg w .eql 35 x y _ _ noselHd, Result.andThen_ok, run_eql_struct, eqHd, Sem.run_pure]
set_option maxHeartbeats 1000000 in
theorem sameMessage_any (f g : HdF) (A B : Option Addr) (n m c d : Nat) (l l' : List UInt8) (hn : n = l.length) (hm : m = l'.length) (w : World) (h : Bytes w A l) (h' : Bytes w B l') :
    Calls Tryd.prog 17 #[.agg (msgc f (.slice A n c)), .agg (msgc g (.slice B m d))] w fun e w' => e = .returned (.bool (Hd.beq f g && decide (l = l'))) ∧ Below w.heap.size w w' := by
  have hg1 := (Blk.new w 38 (msgc f (.slice A n c))).alloc (.cells (msgc g (.slice B m d)) 38)
  have hg2 := Blk.new' (w.alloc (.cells (msgc f (.slice A n c)) 38)) 38 (msgc g (.slice B m d)) (n := w.heap.size + 1) (by simp)
  have hB := Lib.hid (((Below.refl w.heap.size w).alloc (Nat.le_refl _) (.cells (msgc f (.slice A n c)) 38)).alloc (by simp) (.cells (msgc g (.slice B m d)) 38))
  have HR1 := Lib.hid (hd_range hg1)
  have HR2 := Lib.hid (hd_range hg2)
  have d1 := hg1.at_ 16 (msgc_16 f _)
  have d2 := hg2.at_ 16 (msgc_16 g _)
  have HN := Lib.hid (And.intro hn hm)
  clear hg1 hg2 hn hm
  cases hb : Hd.beq f g
  · rw [Bool.false_and]
    have HB := Lib.hid hb
    clear hb
    go_enter Tryd.func17, Tryd.ntmps17
    go_wp2_with (first
      | (show wpList _ _ _ ((⟨some 6, _, _, _, _, _⟩ : Oper) :: _) _ _; refine wpList_load_mid (o := ⟨some 6, _, _, _, _, _⟩) HR1.out (by rfl) _ _ (by rfl) (by rfl) _ Tryd.underlying35 (by rfl) sizeHd (by rw [Array.length_toList, hdc_size]) ?_; rw [Array.toArray_toList])
      | (show wpList _ _ _ ((⟨some 8, _, _, _, _, _⟩ : Oper) :: _) _ _; refine wpList_load_mid (o := ⟨some 8, _, _, _, _, _⟩) HR2.out (by rfl) _ _ (by rfl) (by rfl) _ Tryd.underlying35 (by rfl) sizeHd (by rw [Array.length_toList, hdc_size]) ?_; rw [Array.toArray_toList])
      | (show wpList _ _ _ ((⟨some 9, _, _, _, _, _⟩ : Oper) :: _) _ _; refine wpList_run (o := ⟨some 9, _, _, _, _, _⟩) _ (by rfl) (exec_eql_hd _ _ _ _ (by rfl) f g (by rfl) (by rfl)) ?_; rw [HB.out])
      | fail)
    go_ret
    exact ⟨rfl, hB.out⟩
  · rw [Bool.true_and]
    have HB := Lib.hid hb
    clear hb
    go_enter Tryd.func17, Tryd.ntmps17
    go_wp2_with (first
      | (show wpList _ _ _ ((⟨some 6, _, _, _, _, _⟩ : Oper) :: _) _ _; refine wpList_load_mid (o := ⟨some 6, _, _, _, _, _⟩) HR1.out (by rfl) _ _ (by rfl) (by rfl) _ Tryd.underlying35 (by rfl) sizeHd (by rw [Array.length_toList, hdc_size]) ?_; rw [Array.toArray_toList])
      | (show wpList _ _ _ ((⟨some 8, _, _, _, _, _⟩ : Oper) :: _) _ _; refine wpList_load_mid (o := ⟨some 8, _, _, _, _, _⟩) HR2.out (by rfl) _ _ (by rfl) (by rfl) _ Tryd.underlying35 (by rfl) sizeHd (by rw [Array.length_toList, hdc_size]) ?_; rw [Array.toArray_toList])
      | (show wpList _ _ _ ((⟨some 9, _, _, _, _, _⟩ : Oper) :: _) _ _; refine wpList_run (o := ⟨some 9, _, _, _, _, _⟩) _ (by rfl) (exec_eql_hd _ _ _ _ (by rfl) f g (by rfl) (by rfl)) ?_; rw [HB.out])
      | fail)
    refine (sameBytes_any A B n m c d l l' HN.out.1 HN.out.2 _ (Bytes.below h hB.out) (Bytes.below h' hB.out)).mono ?_
    rintro e w2 ⟨rfl, hbx⟩
    have hB2 := Lib.hid (show Below w.heap.size w w2 by rw [hbx]; exact hB.out)
    clear hbx HR1 HR2 d1 d2 hB
    go_wp2
    go_ret
    exact ⟨rfl, hB2.out⟩
end Go.Proofs.YtfoegmjpfkmggaaDoor

/- A message's cells, its seal, what is read again; lists filled up with noughts. Plain facts. No condition. -/
namespace Go
open Go.RowKit
instance {w w' : World} {e : Ent} : KeepsTo w w' (e.Is w) (e.Is w') := ⟨fun hb h => h.below hb h.lt⟩
theorem OwnB.bytes {e : TypeId} {w : World} {base n c : Nat} {A : Option Addr} {l sp : List UInt8} (h : OwnB e w base (.slice A n c) l sp) : Bytes w A l := by
  obtain ⟨A', c', h1, _, _, hb⟩ := OwnB.open_ h
  injection h1 with h1 h2 h3
  subst h1
  exact hb
end Go
namespace Go.Proofs.YtfoegmjpfkmggaaDoor
open Go.RowKit
theorem hd_mid {w : World} {g : Nat} {t : TypeId} {f : HdF} {v : Value} (h : Blk w g t (msgc f v)) : ∀ w', Below w.heap.size w w' → w'.rangeAt g 0 (hdc f).toList := fun _ hw => hd_range (h.below hw h.lt)
theorem msgc_at (f : HdF) (v : Value) (i : Nat) (h : i < 9) : (msgc f v)[i]? = some (.int .i64 (f i)) := by rw [msgc_hd f v i (by omega)]; exact hdc_at f i (by omega) (by omega) (by omega) (by omega)
theorem hdc_at9 (f : HdF) (i : Nat) (h : i < 9) : (hdc f)[i]? = some (.int .i64 (f i)) := hdc_at f i (by omega) (by omega) (by omega) (by omega)
theorem setF_self (f : HdF) (i : Nat) (v : Int) (h : f i = v) : setF f i v = f := by
  funext j; unfold setF; by_cases e : j = i
  · rw [if_pos e, e, h]
  · rw [if_neg e]
theorem Msg.seal_cases (f : HdF) (l : List UInt8) : (Msg.seal_ f l = (0, Hd.bytes (setF f 2 l.length) l) ∧ l.length ≤ 1024 ∧ Hd.ok (setF f 2 l.length) = true) ∨ (∃ c : Int, c ≠ 0 ∧ Msg.seal_ f l = (c, [])) := by
  unfold Msg.seal_
  by_cases h1 : 1024 < l.length
  · rw [if_pos h1]; exact .inr ⟨3, by omega, rfl⟩
  · rw [if_neg h1]
    by_cases h2 : Hd.ok (setF f 2 l.length) = true
    · rw [if_pos h2]; exact .inl ⟨rfl, by omega, h2⟩
    · rw [if_neg h2]; exact .inr ⟨2, by omega, rfl⟩
/-! ### Filled up with noughts -/
def fillN (N : Nat) (P : List UInt8) : List UInt8 := P ++ List.replicate (N - P.length) 0
theorem fillN_length (N : Nat) (P : List UInt8) (h : P.length ≤ N) : (fillN N P).length = N := by unfold fillN; rw [List.length_append, List.length_replicate]; omega
theorem fillN_take (N : Nat) (P : List UInt8) (k : Nat) (h : k ≤ P.length) : (fillN N P).take k = P.take k := by unfold fillN; rw [List.take_append_of_le_length h]
/-! ### Slots -/
def Slot.of (x : Int) : Int := if x < 0 then 0 else x % 16
theorem Slot.of_bounds (x : Int) : 0 ≤ Slot.of x ∧ Slot.of x < 16 := by
  unfold Slot.of
  by_cases h : x < 0
  · rw [if_pos h]; omega
  · rw [if_neg h]; omega
def Slot.is (f : HdF) (n : Int) : Bool := (f 0 == 2) && (decide (1 ≤ f 5) && (Slot.of (f 5) == n))
/-- A slot's bytes of a prepare: the error's number, the bytes. -/
def Slot.bytes (f : HdF) (body : List UInt8) : Int × List UInt8 :=
  if (Msg.seal_ f body).1 = 0 then (if Slot.is f (Slot.of (f 5)) = true then (0, fillN 1280 (Msg.seal_ f body).2) else (2, [])) else ((Msg.seal_ f body).1, [])
/-- The header that says that a slot is unwritten. -/
def Slot.fU (n : Int) : HdF := fun i => if i = 0 then 1 else if i = 14 then n else 0
def Slot.unw (n : Int) : Int × List UInt8 := if n < 0 ∨ 16 ≤ n then (5, []) else (0, Hd.bytes (Slot.fU n) [])
theorem Slot.fU_ok (n : Int) (h : 0 ≤ n ∧ n < 16) : Hd.ok (Slot.fU n) = true ∧ Hd.in_ (Slot.fU n) ∧ setF (Slot.fU n) 2 0 = Slot.fU n := by
  refine ⟨?_, ?_, setF_self _ _ _ rfl⟩
  · unfold Hd.ok tenI numOk Slot.fU
    simp
    omega
  · unfold Hd.in_ Slot.fU; simp
theorem Slot.unw_seal (n : Int) (h : 0 ≤ n ∧ n < 16) : Msg.seal_ (Slot.fU n) [] = (0, Hd.bytes (Slot.fU n) []) := by
  obtain ⟨h1, _, h3⟩ := Slot.fU_ok n h
  have h0 : (([] : List UInt8).length : Int) = 0 := rfl
  unfold Msg.seal_
  rw [if_neg (by simp), h0, h3, if_pos h1]
end Go.Proofs.YtfoegmjpfkmggaaDoor

/- An op's slot; is a header that of a prepare of a slot: the program's and the document's. No condition. -/
namespace Go.Proofs.YtfoegmjpfkmggaaDoor
open Go.RowKit
theorem sof_any (x : Int) (w : World) : Calls Tryd.prog 22 #[.int .i64 x] w fun e w' => e = .returned (.int .i64 (Slot.of x)) ∧ w' = w := by
  unfold Slot.of
  by_cases h : x < 0
  · rw [if_pos h]
    go_enter Tryd.func22, Tryd.ntmps22
    go_wp2
    go_ret
    exact ⟨rfl, rfl⟩
  · rw [if_neg h]
    have h1 : 0 ≤ x := by omega
    go_enter Tryd.func22, Tryd.ntmps22
    go_wp2
    go_ret
    exact ⟨rfl, rfl⟩
set_option maxHeartbeats 1000000 in
theorem sis_any (f : HdF) (n : Int) (w : World) : Calls Tryd.prog 45 #[.agg (hdc f), .int .i64 n] w fun e w' => e = .returned (.bool (Slot.is f n)) ∧ Below w.heap.size w w' := by
  have hB := Lib.hid ((Below.refl w.heap.size w).alloc (Nat.le_refl _) (.cells (hdc f) 35))
  have hg := Blk.new w 35 (hdc f)
  have d0 := hg.at_ 0 (hdc_at9 f 0 (by omega))
  have d5 := hg.at_ 5 (hdc_at9 f 5 (by omega))
  clear hg
  unfold Slot.is
  cases h0 : (f 0 == 2)
  · rw [Bool.false_and]
    go_enter Tryd.func45, Tryd.ntmps45
    go_wp2
    go_ret
    exact ⟨rfl, hB.out⟩
  · rw [Bool.true_and]
    cases h1 : decide (1 ≤ f 5)
    · rw [Bool.false_and]
      go_enter Tryd.func45, Tryd.ntmps45
      go_wp2
      go_ret
      exact ⟨rfl, hB.out⟩
    · rw [Bool.true_and]
      obtain ⟨o, ho⟩ : ∃ o, o = Slot.of (f 5) := ⟨_, rfl⟩
      rw [← ho]
      have HO := Lib.hid ho
      clear ho
      go_enter Tryd.func45, Tryd.ntmps45
      go_wp2_with fail
      refine (sof_any (f 5) _).mono ?_
      rintro e w2 ⟨rfl, hw⟩
      rw [← HO.out]
      have HB := Lib.hid (show Below w.heap.size w w2 by rw [hw]; exact hB.out)
      clear hw hB d0 d5
      go_wp2
      go_ret
      exact ⟨rfl, HB.out⟩
end Go.Proofs.YtfoegmjpfkmggaaDoor

/- What stands in a slot, and how a slot is, by its bytes: plain facts. No condition. -/
namespace Go.Proofs.YtfoegmjpfkmggaaDoor
def Slot.no : Bool × HdF × List UInt8 := (false, Hd.none_, [])
/-- The prepare at the front of bytes: is there one, its numbers, its body. -/
def Slot.prep (b : List UInt8) (n : Int) : Bool × HdF × List UInt8 :=
  if b.length < 256 then Slot.no
  else if (Hd.read (b.take 256)).1 ≠ 0 then Slot.no
  else if Slot.is (Hd.parse (b.take 256)) n = false then Slot.no
  else if ((b.length - 256 : Nat) : Int) < Hd.parse (b.take 256) 2 then Slot.no
  else if (Msg.read (b.take (256 + (Hd.parse (b.take 256) 2).toNat))).1 ≠ 0 then Slot.no
  else (true, Hd.parse (b.take 256), (b.drop 256).take (Hd.parse (b.take 256) 2).toNat)
/-- What a slot's header is: 0 broken, 1 unwritten, 2 written; its numbers. -/
def Slot.kind (b : List UInt8) (n : Int) : Int × HdF :=
  if (Hd.read b).1 ≠ 0 then (0, Hd.none_) else if b = Hd.bytes (Slot.fU n) [] then (1, Hd.none_) else if Slot.is (Hd.parse b) n = true then (2, Hd.parse b) else (0, Hd.none_)
def Slot.put (P : Bool × HdF × List UInt8) (K : Int × HdF) (same nought : Bool) : Int × Int × Int × Bool :=
  if (P.1 && (K.1 == 2) && same) = true then (1, P.2.1 5, P.2.1 3, false)
  else if (P.1 && ((K.1 != 2) || decide (K.2 5 < P.2.1 5) || (K.2 5 == P.2.1 5 && decide (K.2 3 < P.2.1 3)))) = true then (1, P.2.1 5, P.2.1 3, true)
  else if K.1 = 2 then (3, K.2 5, K.2 3, false)
  else if K.1 = 0 then (3, 0, 0, false)
  else if nought = true then (4, 0, 0, false) else (2, 0, 0, false)
def Slot.judge (h p : List UInt8) (n : Int) : Int × Int × Int × Bool :=
  if n < 0 ∨ 16 ≤ n then (0, 0, 0, false) else Slot.put (Slot.prep p n) (Slot.kind h n) (decide (h = p.take 256)) (p.all (· == 0))
theorem Slot.judge_in (h p : List UInt8) (n : Int) (hn : 0 ≤ n ∧ n < 16) : Slot.judge h p n = Slot.put (Slot.prep p n) (Slot.kind h n) (decide (h = p.take 256)) (p.all (· == 0)) := by
  unfold Slot.judge; rw [if_neg (by omega)]
theorem Slot.is_same {f g : HdF} (h : Hd.same f g) (n : Int) : Slot.is f n = Slot.is g n := by
  unfold Slot.is; rw [h 0 (by omega), h 5 (by omega)]
theorem Hd.bytes_take (f : HdF) (l : List UInt8) : (Hd.bytes f l).take 256 = Hd.head f (Sha.sum l) := by
  have hl := Hd.head_length f _ (Sha.sum_len l)
  unfold Hd.bytes; rw [← hl, List.take_left]
theorem Hd.bytes_drop (f : HdF) (l : List UInt8) : (Hd.bytes f l).drop 256 = l := by
  have hl := Hd.head_length f _ (Sha.sum_len l)
  unfold Hd.bytes; rw [← hl, List.drop_left]
theorem Hd.read_bytes (f : HdF) (l : List UInt8) (hok : Hd.ok f = true) (hin : Hd.in_ f) : Hd.read ((Hd.bytes f l).take 256) = (0, Hd.parse ((Hd.bytes f l).take 256)) ∧ Hd.same (Hd.parse ((Hd.bytes f l).take 256)) f := by
  rw [Hd.bytes_take]
  obtain ⟨h0, hsame⟩ := Hd.read_head f _ (Sha.sum_len l) hok hin
  rcases Hd.read_cases (Hd.head f (Sha.sum l)) with (h | h) | ⟨h, -⟩
  · rw [h] at h0; simp at h0
  · rw [h] at h0; simp at h0
  · rw [h] at hsame; exact ⟨h, hsame⟩
/-- Bytes at whose front a message's bytes stand. -/
theorem Slot.prep_bytes (b : List UInt8) (f : HdF) (l : List UInt8) (n : Int) (hb : b.take (256 + l.length) = Hd.bytes f l) (hok : Hd.ok f = true) (hin : Hd.in_ f) (h2 : f 2 = (l.length : Int)) (hi : Slot.is f n = true) :
    Slot.prep b n = (true, Hd.parse (b.take 256), l) ∧ Hd.same (Hd.parse (b.take 256)) f ∧ b.take 256 = (Hd.bytes f l).take 256 := by
  have hbl := Hd.bytes_length f l
  have hlen : 256 + l.length ≤ b.length := by
    have h := congrArg List.length hb
    rw [List.length_take, hbl] at h; omega
  have ht : b.take 256 = (Hd.bytes f l).take 256 := by rw [← hb, List.take_take, Nat.min_eq_left (by omega)]
  obtain ⟨hr, hs⟩ := Hd.read_bytes f l hok hin
  obtain ⟨_, hm⟩ := Msg.read_bytes f l hok hin h2
  have hd : (b.drop 256).take l.length = l := by rw [List.take_drop, hb, Hd.bytes_drop]
  have h2' : Hd.parse ((Hd.bytes f l).take 256) 2 = (l.length : Int) := by rw [hs 2 (by omega), h2]
  refine ⟨?_, by rw [ht]; exact hs, ht⟩
  unfold Slot.prep
  rw [if_neg (by omega), ht, if_neg (by rw [hr]; simp), if_neg (by rw [Slot.is_same hs, hi]; simp), h2', if_neg (by omega), Int.toNat_natCast, hb, if_neg (by rw [hm]; simp), hd]
/-- A prepare that is whole: what it is. -/
theorem Slot.prep_ok (b : List UInt8) (n : Int) (h : (Slot.prep b n).1 = true) : ∃ s : Nat, 256 + s ≤ b.length ∧ (Hd.read (b.take 256)).1 = 0 ∧ Hd.read (b.take 256) = (0, Hd.parse (b.take 256)) ∧ Hd.parse (b.take 256) 2 = (s : Int) ∧ Slot.is (Hd.parse (b.take 256)) n = true ∧
    Slot.prep b n = (true, Hd.parse (b.take 256), (b.drop 256).take s) ∧ Msg.read (b.take (256 + s)) = (0, Hd.parse (b.take 256), (b.drop 256).take s) ∧ Sha.sum ((b.drop 256).take s) = (b.drop 16).take 16 := by
  unfold Slot.prep at h ⊢
  by_cases h1 : b.length < 256
  · rw [if_pos h1] at h; simp [Slot.no] at h
  rw [if_neg h1] at h ⊢
  by_cases h2 : (Hd.read (b.take 256)).1 ≠ 0
  · rw [if_pos h2] at h; simp [Slot.no] at h
  rw [if_neg h2] at h ⊢
  by_cases h3 : Slot.is (Hd.parse (b.take 256)) n = false
  · rw [if_pos h3] at h; simp [Slot.no] at h
  rw [if_neg h3] at h ⊢
  by_cases h4 : ((b.length - 256 : Nat) : Int) < Hd.parse (b.take 256) 2
  · rw [if_pos h4] at h; simp [Slot.no] at h
  rw [if_neg h4] at h ⊢
  by_cases h5 : (Msg.read (b.take (256 + (Hd.parse (b.take 256) 2).toNat))).1 ≠ 0
  · rw [if_pos h5] at h; simp [Slot.no] at h
  rw [if_neg h5]
  have h2' : (Hd.read (b.take 256)).1 = 0 := by simpa using h2
  have h5' : (Msg.read (b.take (256 + (Hd.parse (b.take 256) 2).toNat))).1 = 0 := by simpa using h5
  have hrd : Hd.read (b.take 256) = (0, Hd.parse (b.take 256)) := by
    rcases Hd.read_cases (b.take 256) with (h | h) | ⟨h, -⟩
    · rw [h] at h2'; simp at h2'
    · rw [h] at h2'; simp at h2'
    · exact h
  have hok : 0 ≤ Hd.parse (b.take 256) 2 := by unfold Hd.parse; rw [if_pos (by omega)]; omega
  obtain ⟨s, hs⟩ : ∃ s : Nat, Hd.parse (b.take 256) 2 = (s : Int) := ⟨(Hd.parse (b.take 256) 2).toNat, by omega⟩
  rw [hs] at h4 h5' ⊢
  rw [Int.toNat_natCast] at h5' ⊢
  have hle : 256 + s ≤ b.length := by omega
  obtain ⟨_, hm, _, _, _, hb, _⟩ := Msg.read_ok _ h5'
  have e1 : (b.take (256 + s)).take 256 = b.take 256 := by rw [List.take_take, Nat.min_eq_left (by omega)]
  have e2 : (b.take (256 + s)).drop 256 = (b.drop 256).take s := by rw [List.drop_take, show 256 + s - 256 = s by omega]
  have e3 : ((b.take (256 + s)).drop 16).take 16 = (b.drop 16).take 16 := by rw [List.drop_take, List.take_take, Nat.min_eq_left (by omega)]
  rw [e1, e2] at hm
  rw [e2, e3] at hb
  exact ⟨s, hle, h2', hrd, rfl, by simpa using h3, rfl, hm, hb⟩
/-- The numbers a header's bytes say: where they may not be, it is not read. -/
theorem Hd.read_no (r : List UInt8) (h : Hd.ok (Hd.parse r) = false) : (Hd.read r).1 ≠ 0 := by
  rcases Hd.read_cases r with (hx | hx) | ⟨_, _, hx, _⟩
  · rw [hx]; simp
  · rw [hx]; simp
  · rw [h] at hx; cases hx
theorem Slot.kind_broken {b : List UInt8} {n : Int} (h : (Hd.read b).1 ≠ 0) : Slot.kind b n = (0, Hd.none_) := by unfold Slot.kind; rw [if_pos h]
theorem Slot.fU_bytes (n : Int) (h : 0 ≤ n ∧ n < 16) : (Hd.bytes (Slot.fU n) []).length = 256 ∧ Hd.read (Hd.bytes (Slot.fU n) []) = (0, Hd.parse (Hd.bytes (Slot.fU n) [])) ∧ Hd.same (Hd.parse (Hd.bytes (Slot.fU n) [])) (Slot.fU n) := by
  obtain ⟨h1, h2, _⟩ := Slot.fU_ok n h
  have hl : (Hd.bytes (Slot.fU n) []).length = 256 := Hd.bytes_length _ _
  obtain ⟨h3, h4⟩ := Hd.read_bytes (Slot.fU n) [] h1 h2
  rw [List.take_of_length_le (by omega)] at h3 h4
  exact ⟨hl, h3, h4⟩
theorem Slot.kind_unw (n : Int) (h : 0 ≤ n ∧ n < 16) : Slot.kind (Hd.bytes (Slot.fU n) []) n = (1, Hd.none_) := by
  obtain ⟨_, h1, _⟩ := Slot.fU_bytes n h
  unfold Slot.kind
  rw [if_neg (by rw [h1]; simp), if_pos rfl]
theorem Slot.is_two {f : HdF} {n : Int} (h : Slot.is f n = true) : f 0 = 2 ∧ 1 ≤ f 5 ∧ Slot.of (f 5) = n ∧ 0 ≤ n ∧ n < 16 := by
  unfold Slot.is at h
  simp only [Bool.and_eq_true, beq_iff_eq, decide_eq_true_eq] at h
  have := Slot.of_bounds (f 5)
  exact ⟨h.1, h.2.1, h.2.2, by omega, by omega⟩
theorem Slot.kind_written {b : List UInt8} {n : Int} (hr : Hd.read b = (0, Hd.parse b)) (hi : Slot.is (Hd.parse b) n = true) : Slot.kind b n = (2, Hd.parse b) := by
  obtain ⟨h0, _, _, hn⟩ := Slot.is_two hi
  unfold Slot.kind
  rw [if_neg (by rw [hr]; simp), if_neg ?_, if_pos hi]
  intro e
  have := (Slot.fU_bytes n hn).2.2 0 (by omega)
  rw [← e, h0] at this
  simp [Slot.fU] at this
theorem Slot.kind_bytes (f : HdF) (l : List UInt8) (n : Int) (hok : Hd.ok f = true) (hin : Hd.in_ f) (hi : Slot.is f n = true) : Slot.kind ((Hd.bytes f l).take 256) n = (2, Hd.parse ((Hd.bytes f l).take 256)) := by
  obtain ⟨hr, hs⟩ := Hd.read_bytes f l hok hin
  exact Slot.kind_written hr (by rw [Slot.is_same hs]; exact hi)
end Go.Proofs.YtfoegmjpfkmggaaDoor

/- What says that a slot is unwritten, and a slot's bytes of a prepare: the program's and the document's; bytes compared. Conditions: the bytes can be read; the numbers are what Go's types hold. -/
namespace Go.Proofs.YtfoegmjpfkmggaaDoor
open Go.RowKit
theorem bytesEqual_any (A B : Option Addr) (n m c d : Nat) (l l' : List UInt8) (hn : n = l.length) (hm : m = l'.length) (w : World) (h : Bytes w A l) (h' : Bytes w B l') :
    Calls Tryd.prog 61 #[.slice A n c, .slice B m d] w fun e w' => e = .returned (.bool (decide (l = l'))) ∧ w' = w := by
  subst hn hm
  go_enter Tryd.func61, Tryd.ntmps61
  go_wp2_with (first
    | ((with_reducible show wpList _ _ _ ((⟨some 6, _, _, _, _, _⟩ : Oper) :: _) _ _); refine wpList_convert_str (o := ⟨some 6, _, _, _, _, _⟩) (by rfl) 36 9 5 _ (by rfl) Tryd.underlying36 Tryd.underlying5 Tryd.underlying9 (A) l.length c (l) (by rfl) (by first | rfl | simp) (h) ?_)
    | ((with_reducible show wpList _ _ _ ((⟨some 8, _, _, _, _, _⟩ : Oper) :: _) _ _); refine wpList_convert_str (o := ⟨some 8, _, _, _, _, _⟩) (by rfl) 36 9 5 _ (by rfl) Tryd.underlying36 Tryd.underlying5 Tryd.underlying9 (B) l'.length d (l') (by rfl) (by first | rfl | simp) (h') ?_)
    | fail)
  refine bodyPost_ret (results_tmp rfl _ _ _) rfl ⟨?_, rfl⟩
  simp [str_beq]
theorem fU_cells (n : Int) : msgc (Slot.fU n) (.slice none 0 0) = #[.int .i64 1, .int .i64 0, .int .i64 0, .int .i64 0, .int .i64 0, .int .i64 0, .int .i64 0, .int .i64 0, .int .i64 0, .int .u64 0, .int .u64 0, .int .i64 0, .int .i64 0, .int .u64 0, .int .i64 n, .int .i64 0, .slice none 0 0] := by rfl
theorem nilBytes (w : World) : Bytes w none [] := Reads.nil w none
set_option maxHeartbeats 1000000 in
theorem sunw_any (n : Int) (w : World) : Calls Tryd.prog 36 #[.int .i64 n] w fun e w' => ∃ E : Ent, e = .returned (.tuple #[E.val, .int .i64 (Slot.unw n).1]) ∧ E.Is w' ∧ (∀ g, E.blk = some g → w.heap.size ≤ g) ∧ E.n = E.l.length ∧
      E.l = (Slot.unw n).2 ∧ Below w.heap.size w w' := by
  by_cases h1 : n < 0
  · rw [show Slot.unw n = (5, []) by unfold Slot.unw; rw [if_pos (.inl h1)]]
    go_enter Tryd.func36, Tryd.ntmps36
    go_wp2
    go_ret2
    exact ⟨⟨none, 0, []⟩, rfl, ⟨Nat.le_refl _, by simp, .inl ⟨rfl, rfl⟩⟩, fun g h => (by cases h), rfl, rfl, Below.refl _ _⟩
  · by_cases h2 : 16 ≤ n
    · rw [show Slot.unw n = (5, []) by unfold Slot.unw; rw [if_pos (.inr h2)]]
      go_enter Tryd.func36, Tryd.ntmps36
      go_wp2
      go_ret2
      exact ⟨⟨none, 0, []⟩, rfl, ⟨Nat.le_refl _, by simp, .inl ⟨rfl, rfl⟩⟩, fun g h => (by cases h), rfl, rfl, Below.refl _ _⟩
    · have hU : Hid (Slot.unw n = Msg.seal_ (Slot.fU n) []) := Lib.hid (by rw [Slot.unw_seal n (by omega)]; unfold Slot.unw; rw [if_neg (by omega)])
      have hin := (Slot.fU_ok n (by omega)).2.1
      rw [hU.out]
      clear hU
      go_enter Tryd.func36, Tryd.ntmps36
      go_wp2_with fail
      rw [← fU_cells]
      refine (hseal_any (Slot.fU n) none 0 0 [] w rfl (nilBytes w) ⟨Nat.le_refl _, by omega⟩ hin).mono ?_
      rintro e w2 ⟨E, rfl, hE, hEg, hEn, hEl, hB⟩
      have H := Lib.hid (And.intro hE (And.intro hEg (And.intro hEn (And.intro hEl hB))))
      clear hE hEg hEn hEl hB hin
      go_wp2
      go_ret2
      exact ⟨E, rfl, H.out⟩
end Go.Proofs.YtfoegmjpfkmggaaDoor

/- The prepare at the front of a slot's bytes: what the program tells. Condition: the bytes can be read. -/
namespace Go.Proofs.YtfoegmjpfkmggaaDoor
open Go.RowKit
set_option maxRecDepth 100000 in
set_option maxHeartbeats 4000000 in
theorem sprep_any (A : Option Addr) (n c : Nat) (raw : List UInt8) (k : Int) (hn : n = raw.length) (hc : n ≤ c) (hc2 : n ≤ 140737488351232 ∧ c ≤ 9223372036854775807) (w : World) (hby : Bytes w A raw) :
    Calls Tryd.prog 39 #[.slice A n c, .int .i64 k] w fun e w' => ∃ v, e = .returned (.tuple #[.agg (msgc (Slot.prep raw k).2.1 v), .bool (Slot.prep raw k).1]) ∧ (∃ sp, OwnB 5 w' w.heap.size v (Slot.prep raw k).2.2 sp) ∧ Below w.heap.size w w' := by
  have hg0 := (Blk.new w 38 #[.int .i64 0, .int .i64 0, .int .i64 0, .int .i64 0, .int .i64 0, .int .i64 0, .int .i64 0, .int .i64 0, .int .i64 0, .int .u64 0, .int .u64 0, .int .i64 0, .int .i64 0, .int .u64 0, .int .i64 0, .int .i64 0, .slice none 0 0]).sub zeroMsg_cells.symm
  have hB0 := Lib.hid ((Below.refl w.heap.size w).alloc (Nat.le_refl _) (.cells #[.int .i64 0, .int .i64 0, .int .i64 0, .int .i64 0, .int .i64 0, .int .i64 0, .int .i64 0, .int .i64 0, .int .i64 0, .int .u64 0, .int .u64 0, .int .i64 0, .int .i64 0, .int .u64 0, .int .i64 0, .int .i64 0, .slice none 0 0] 38))
  by_cases h1 : n < 256
  · have hrd : Hid (Slot.prep raw k = Slot.no) := Lib.hid (by unfold Slot.prep; rw [if_pos (by omega)])
    rw [hrd.out]
    clear hn hby hc2
    have H1 : decide ((n : Int) < 256) = true := by rw [decide_eq_true_eq]; omega
    go_enter Tryd.func39, Tryd.ntmps39
    go_wp2_with (first
      | ((with_reducible show wpList _ _ _ ((⟨none, _, _, _, _, _⟩ : Oper) :: _) _ _); refine wpList_store_blk (o := ⟨none, _, _, _, _, _⟩) (hg0) (by rfl) _ _ _ (by rfl) (by rfl) (msgc zeroHd (.slice none 0 0)) (by rfl) (sizeMsg) (msgc_size _ _) (msgc_size _ _) (msgc_one _ _ rfl) ?_; intro w2 h2 hu2)
      | fail)
    refine bodyPost_ret (results_row_tmp (by rfl) _ _ w.heap.size _ _ _ (by rfl) h2 Tryd.underlying38 (by rfl) (by rw [msgc_size]; exact sizeMsg)) rfl ⟨_, rfl, ⟨[], OwnsC.nil _ _ _ _⟩, hB0.out.upd hu2 (Nat.le_refl _)⟩
  have H1 : decide ((n : Int) < 256) = false := by rw [decide_eq_false_iff_not]; omega
  have hT := hby.take 256
  have hTl : (raw.take 256).length = 256 := by rw [List.length_take]; omega
  have hge256 : 256 ≤ n := by omega
  have HNN := Lib.hid (And.intro hn (And.intro hc hc2))
  obtain ⟨T, hTT⟩ : ∃ T, T = raw.take 256 := ⟨_, rfl⟩
  rw [← hTT] at hT hTl
  have HT := Lib.hid hTT
  have hcc : 256 ≤ c := by omega
  clear hTT hn hc hc2 h1
  go_enter Tryd.func39, Tryd.ntmps39
  go_wp2_with fail
  generalize hw1 : w.alloc (.cells #[.int .i64 0, .int .i64 0, .int .i64 0, .int .i64 0, .int .i64 0, .int .i64 0, .int .i64 0, .int .i64 0, .int .i64 0, .int .u64 0, .int .u64 0, .int .i64 0, .int .i64 0, .int .u64 0, .int .i64 0, .int .i64 0, .slice none 0 0] 38) = w1 at hg0 hB0 ⊢
  clear hw1
  obtain ⟨g0, hgn⟩ : ∃ g0, g0 = w.heap.size := ⟨_, rfl⟩
  have HGE : Hid (w.heap.size ≤ g0) := Lib.hid (by omega)
  rw [← hgn] at hg0 ⊢
  have HGN := Lib.hid hgn
  clear hgn
  have hTb := Bytes.below hT hB0.out
  refine (hhead_any A 256 c T hTl.symm (by omega) (by have := HNN.out; omega) w1 hTb).mono ?_
  rintro e w2 ⟨rfl, hbx⟩
  (replace hg0 := keep hbx hg0)
  have hB2 := Lib.hid (hB0.out.trans (hbx.mono hB0.out.size))
  clear hB0 hbx hTb H1
  have h2 := (Blk.new w2 35 #[.int .i64 0, .int .i64 0, .int .i64 0, .int .i64 0, .int .i64 0, .int .i64 0, .int .i64 0, .int .i64 0, .int .i64 0, .int .u64 0, .int .u64 0, .int .i64 0, .int .i64 0, .int .u64 0, .int .i64 0, .int .i64 0]).sub zeroHd_cells.symm
  have hbx := Lib.hid ((Below.refl w2.heap.size w2).alloc (Nat.le_refl _) (.cells #[.int .i64 0, .int .i64 0, .int .i64 0, .int .i64 0, .int .i64 0, .int .i64 0, .int .i64 0, .int .i64 0, .int .i64 0, .int .u64 0, .int .u64 0, .int .i64 0, .int .i64 0, .int .u64 0, .int .i64 0, .int .i64 0] 35))
  obtain ⟨hcells, hH⟩ : ∃ f, f = (Hd.read T).2 := ⟨_, rfl⟩
  obtain ⟨er, hE⟩ : ∃ f, f = (Hd.read T).1 := ⟨_, rfl⟩
  rw [← hH, ← hE]
  have HH := Lib.hid hH
  have HE := Lib.hid hE
  clear hH hE
  have hb2 := hB2.out.size
  have hgl := hg0.lt
  have hng := HNN.out.1
  rcases Hd.read_cases T with hx | ⟨hx, -, hok, hhead⟩
  · have her : er = 4 ∨ er = 12 := by rw [HE.out]; rcases hx with e | e <;> rw [e] <;> simp
    have hrd : Hid (Slot.prep raw k = Slot.no) := Lib.hid (by
      unfold Slot.prep
      rw [if_neg (by omega), ← HT.out, if_pos (by rw [← HE.out]; omega)])
    clear hx HH HE hng
    rcases her with rfl | rfl
    all_goals
      go_wp2_with (first
        | ((with_reducible show wpList _ _ _ ((⟨none, _, _, _, _, _⟩ : Oper) :: _) _ _); refine wpList_store_blk (o := ⟨none, _, _, _, _, _⟩) (h2) (by rfl) _ _ _ (by rfl) (by rfl) (hdc hcells) (by rfl) (sizeHd) (hdc_size _) (hdc_size _) (hdc_one _) ?_; intro w3 h3 hu3; have hx3 := hbx.out.upd hu3 (Nat.le_refl _); (replace hg0 := keep hx3 hg0); clear h2 hu3; have hB3 := Lib.hid (hB2.out.trans (hx3.mono hB2.out.size)); clear hx3 hbx hB2)
        | ((with_reducible show wpList _ _ _ ((⟨none, _, _, _, _, _⟩ : Oper) :: _) _ _); refine wpList_store_blk (o := ⟨none, _, _, _, _, _⟩) (hg0) (by rfl) _ _ _ (by rfl) (by rfl) (msgc zeroHd (.slice none 0 0)) (by rfl) (sizeMsg) (msgc_size _ _) (msgc_size _ _) (msgc_one _ _ rfl) ?_; intro w9 h9 hu9)
        | fail)
      refine bodyPost_ret (results_row_tmp (by rfl) _ _ g0 _ _ _ (by rfl) h9 Tryd.underlying38 (by rfl) (by rw [msgc_size]; exact sizeMsg)) rfl ⟨_, by rw [hrd.out]; rfl, ⟨[], by rw [hrd.out]; exact OwnsC.nil _ _ _ _⟩, hB3.out.upd hu9 HGE.out⟩
  · have hE0 : er = 0 := by rw [HE.out, hx]
    have hHp : Hid (hcells = Hd.parse T) := Lib.hid (by rw [HH.out, hx])
    have hr0 : Hid ((Hd.read T).1 = 0) := Lib.hid (by rw [hx])
    have HF2 : Hid (0 ≤ hcells 2 ∧ hcells 2 ≤ 1024) := Lib.hid (by have := (Hd.ok_spec hok).1; rw [hHp.out]; omega)
    subst hE0
    clear hx HH HE hok hhead hng
    go_wp2_with (first
      | ((with_reducible show wpList _ _ _ ((⟨none, _, _, _, _, _⟩ : Oper) :: _) _ _); refine wpList_store_blk (o := ⟨none, _, _, _, _, _⟩) (h2) (by rfl) _ _ _ (by rfl) (by rfl) (hdc hcells) (by rfl) (sizeHd) (hdc_size _) (hdc_size _) (hdc_one _) ?_; intro w3 h3 hu3; have hx3 := hbx.out.upd hu3 (Nat.le_refl _); (replace hg0 := keep hx3 hg0); clear h2 hu3; have hB3 := Lib.hid (hB2.out.trans (hx3.mono hB2.out.size)); clear hx3 hbx hB2)
      | ((with_reducible show wpList _ _ _ ((⟨some 22, _, _, _, _, _⟩ : Oper) :: _) _ _); refine wpList_want (by rfl) ?_; refine wpList_load_blk (o := ⟨some 22, _, _, _, _, _⟩) (h3) (by rfl) _ _ (by rfl) (by rfl) _ Tryd.underlying35 (by rfl) (sizeHd) (hdc_size _) ?_)
      | fail)
    refine (sis_any hcells k w3).mono ?_
    rintro e w4 ⟨rfl, hbx⟩
    (replace hg0 := keep hbx hg0; replace h3 := keep hbx h3)
    have hB4 := Lib.hid (hB3.out.trans (hbx.mono hB3.out.size))
    have hgl := hg0.lt
    clear hbx hB3 hb2
    obtain ⟨q, hq⟩ : ∃ q, q = Slot.is hcells k := ⟨_, rfl⟩
    rw [← hq]
    have HQ := Lib.hid hq
    clear hq
    have d2 := h3.at_ 2 (hdc_at _ 2 (by omega) (by omega) (by omega) (by omega))
    cases q
    · have hrd : Hid (Slot.prep raw k = Slot.no) := Lib.hid (by
        unfold Slot.prep
        have := HNN.out.1
        rw [if_neg (by omega), ← HT.out, if_neg (by rw [hr0.out]; simp), if_pos (by rw [← hHp.out, HQ.out])])
      clear h3 d2
      go_wp2_with (first
        | ((with_reducible show wpList _ _ _ ((⟨none, _, _, _, _, _⟩ : Oper) :: _) _ _); refine wpList_store_blk (o := ⟨none, _, _, _, _, _⟩) (hg0) (by rfl) _ _ _ (by rfl) (by rfl) (msgc zeroHd (.slice none 0 0)) (by rfl) (sizeMsg) (msgc_size _ _) (msgc_size _ _) (msgc_one _ _ rfl) ?_; intro w9 h9 hu9)
        | fail)
      refine bodyPost_ret (results_row_tmp (by rfl) _ _ g0 _ _ _ (by rfl) h9 Tryd.underlying38 (by rfl) (by rw [msgc_size]; exact sizeMsg)) rfl ⟨_, by rw [hrd.out]; rfl, ⟨[], by rw [hrd.out]; exact OwnsC.nil _ _ _ _⟩, hB4.out.upd hu9 HGE.out⟩
    · obtain ⟨s, hs⟩ : ∃ s : Nat, hcells 2 = (s : Int) := ⟨(hcells 2).toNat, by have := HF2.out; omega⟩
      have HSS := Lib.hid hs
      rw [hs] at d2
      have hs1024 : s ≤ 1024 := by have := HF2.out; omega
      have hnI : (n : Int) ≤ 140737488351232 := by have := HNN.out.2.2.1; omega
      clear hs
      by_cases hsz : n < 256 + s
      · have hrd : Hid (Slot.prep raw k = Slot.no) := Lib.hid (by
          unfold Slot.prep
          have := HNN.out.1
          rw [if_neg (by omega), ← HT.out, if_neg (by rw [hr0.out]; simp), if_neg (by rw [← hHp.out, ← HQ.out]; simp), if_pos (by rw [← hHp.out, HSS.out]; omega)])
        have hcm : decide ((n : Int) - 256 < (s : Int)) = true := by rw [decide_eq_true_eq]; omega
        clear h3 hsz
        go_wp2_with (first
          | ((with_reducible show wpList _ _ _ ((⟨none, _, _, _, _, _⟩ : Oper) :: _) _ _); refine wpList_store_blk (o := ⟨none, _, _, _, _, _⟩) (hg0) (by rfl) _ _ _ (by rfl) (by rfl) (msgc zeroHd (.slice none 0 0)) (by rfl) (sizeMsg) (msgc_size _ _) (msgc_size _ _) (msgc_one _ _ rfl) ?_; intro w9 h9 hu9)
          | fail)
        refine bodyPost_ret (results_row_tmp (by rfl) _ _ g0 _ _ _ (by rfl) h9 Tryd.underlying38 (by rfl) (by rw [msgc_size]; exact sizeMsg)) rfl ⟨_, by rw [hrd.out]; rfl, ⟨[], by rw [hrd.out]; exact OwnsC.nil _ _ _ _⟩, hB4.out.upd hu9 HGE.out⟩
      · have hcm : decide ((n : Int) - 256 < (s : Int)) = false := by rw [decide_eq_false_iff_not]; omega
        have hle : 256 + s ≤ n := by omega
        have hlec : 256 + s ≤ c := by have := HNN.out.2.1; omega
        clear hsz h3
        have hUb := (Bytes.below hby hB4.out).take (256 + s)
        have hUl : (raw.take (256 + s)).length = 256 + s := by have := HNN.out.1; rw [List.length_take]; omega
        obtain ⟨U, hU⟩ : ∃ U, U = raw.take (256 + s) := ⟨_, rfl⟩
        rw [← hU] at hUb hUl
        have HU := Lib.hid hU
        have hpre := Lib.hid (show Slot.prep raw k = if (Msg.read U).1 ≠ 0 then Slot.no else (true, hcells, (raw.drop 256).take s) by
          unfold Slot.prep
          have := HNN.out.1
          rw [if_neg (by omega), ← HT.out, if_neg (by rw [hr0.out]; simp), if_neg (by rw [← hHp.out, ← HQ.out]; simp), ← hHp.out, HSS.out, if_neg (by omega), Int.toNat_natCast, ← hU])
        clear hU
        go_wp2_with fail
        refine (hopen_any A (256 + s) c U hUl.symm hlec ⟨by omega, by have := HNN.out.2.2.2; omega⟩ w4 hUb).mono ?_
        rintro e w5 ⟨v5, rfl, ⟨sp5, ho5⟩, hbx⟩
        (replace hg0 := keep hbx hg0)
        have hB5 := Lib.hid (hB4.out.trans (hbx.mono hB4.out.size))
        have hsz5 := hbx.size
        have hgl := hg0.lt
        clear hbx hB4 hUb hcm d2
        obtain ⟨co, hco⟩ : ∃ x, x = (Msg.read U).1 := ⟨_, rfl⟩
        obtain ⟨G, hG⟩ : ∃ x, x = (Msg.read U).2.1 := ⟨_, rfl⟩
        obtain ⟨D, hD⟩ : ∃ x, x = (Msg.read U).2.2 := ⟨_, rfl⟩
        rw [← hD] at ho5
        rw [← hco, ← hG]
        have hW4 : w.heap.size ≤ w4.heap.size := by have := HGN.out; omega
        have HRC := Lib.hid (And.intro hco (And.intro hG (And.intro hD hW4)))
        have HO5 := Lib.hid ho5
        obtain ⟨A5, c5, rfl, -⟩ := OwnB.open_ ho5
        clear hco hG hD hW4
        by_cases h0 : co = 0
        · subst h0
          have hrd : Hid (Slot.prep raw k = (true, G, D)) := Lib.hid (by
            have h := HRC.out.1
            obtain ⟨_, hm, _⟩ := Msg.read_ok U h.symm
            have e1 : U.take 256 = T := by rw [HU.out, List.take_take, Nat.min_eq_left (by omega), HT.out]
            have e2 : U.drop 256 = (raw.drop 256).take s := by rw [HU.out, List.drop_take, show 256 + s - 256 = s by omega]
            rw [hpre.out, if_neg (by rw [← h]; simp), HRC.out.2.1, HRC.out.2.2.1, hm, e1, e2, hHp.out])
          go_wp2_with (first
            | ((with_reducible show wpList _ _ _ ((⟨none, _, _, _, _, _⟩ : Oper) :: _) _ _); refine wpList_store_blk (o := ⟨none, _, _, _, _, _⟩) ((Blk.new w5 38 #[.int .i64 0, .int .i64 0, .int .i64 0, .int .i64 0, .int .i64 0, .int .i64 0, .int .i64 0, .int .i64 0, .int .i64 0, .int .u64 0, .int .u64 0, .int .i64 0, .int .i64 0, .int .u64 0, .int .i64 0, .int .i64 0, .slice none 0 0])) (by rfl) _ _ _ (by rfl) (by rfl) (msgc G (.slice A5 D.length c5)) (by rfl) (sizeMsg) (by rfl) (msgc_size _ _) (msgc_one _ _ rfl) ?_; intro w6 h6 hu6; have hx6 := ((Below.refl w5.heap.size w5).alloc (Nat.le_refl _) (.cells #[.int .i64 0, .int .i64 0, .int .i64 0, .int .i64 0, .int .i64 0, .int .i64 0, .int .i64 0, .int .i64 0, .int .i64 0, .int .u64 0, .int .u64 0, .int .i64 0, .int .i64 0, .int .u64 0, .int .i64 0, .int .i64 0, .slice none 0 0] 38)).upd hu6 (Nat.le_refl _); (replace hg0 := keep hx6 hg0; replace ho5 := keep hx6 ho5); have hB6 := Lib.hid (hB5.out.trans (hx6.mono hB5.out.size)); clear hx6 hu6 hB5; have hgl6 := h6.lt)
            | ((with_reducible show wpList _ _ _ ((⟨some 48, _, _, _, _, _⟩ : Oper) :: _) _ _); refine wpList_load_blk (o := ⟨some 48, _, _, _, _, _⟩) (h6) (by rfl) _ _ (by rfl) (by rfl) _ Tryd.underlying38 (by rfl) (sizeMsg) (msgc_size _ _) ?_)
            | ((with_reducible show wpList _ _ _ ((⟨none, _, _, _, _, _⟩ : Oper) :: _) _ _); refine wpList_store_blk (o := ⟨none, _, _, _, _, _⟩) (hg0) (by rfl) _ _ _ (by rfl) (by rfl) (msgc G (.slice A5 D.length c5)) (by rfl) (sizeMsg) (msgc_size _ _) (msgc_size _ _) (msgc_one _ _ rfl) ?_; intro w9 h9 hu9)
            | fail)
          refine bodyPost_ret (results_row_tmp (by rfl) _ _ g0 _ _ _ (by rfl) h9 Tryd.underlying38 (by rfl) (by rw [msgc_size]; exact sizeMsg)) rfl ⟨_, by rw [hrd.out]; rfl, ⟨sp5, ?_⟩, hB6.out.upd hu9 HGE.out⟩
          rw [hrd.out]
          refine OwnsC.base_ (OwnB.upd ho5 hu9 ?_) HRC.out.2.2.2
          intro e
          have h : w4.heap.size ≤ g0 := (OwnsC.lt HO5.out g0 e).1
          have h2 := HGN.out
          omega
        · have hrd : Hid (Slot.prep raw k = Slot.no) := Lib.hid (by rw [hpre.out, if_pos (by rw [← HRC.out.1]; exact h0)])
          have hc0 : (co != 0) = true := by rw [bne_iff_ne]; exact h0
          clear h0 ho5
          go_wp2_with (first
            | ((with_reducible show wpList _ _ _ ((⟨none, _, _, _, _, _⟩ : Oper) :: _) _ _); refine wpList_store_blk (o := ⟨none, _, _, _, _, _⟩) ((Blk.new w5 38 #[.int .i64 0, .int .i64 0, .int .i64 0, .int .i64 0, .int .i64 0, .int .i64 0, .int .i64 0, .int .i64 0, .int .i64 0, .int .u64 0, .int .u64 0, .int .i64 0, .int .i64 0, .int .u64 0, .int .i64 0, .int .i64 0, .slice none 0 0])) (by rfl) _ _ _ (by rfl) (by rfl) (msgc G (.slice A5 D.length c5)) (by rfl) (sizeMsg) (by rfl) (msgc_size _ _) (msgc_one _ _ rfl) ?_; intro w6 h6 hu6; have hx6 := ((Below.refl w5.heap.size w5).alloc (Nat.le_refl _) (.cells #[.int .i64 0, .int .i64 0, .int .i64 0, .int .i64 0, .int .i64 0, .int .i64 0, .int .i64 0, .int .i64 0, .int .i64 0, .int .u64 0, .int .u64 0, .int .i64 0, .int .i64 0, .int .u64 0, .int .i64 0, .int .i64 0, .slice none 0 0] 38)).upd hu6 (Nat.le_refl _); (replace hg0 := keep hx6 hg0); have hB6 := Lib.hid (hB5.out.trans (hx6.mono hB5.out.size)); clear hx6 hu6 hB5 h6)
            | ((with_reducible show wpList _ _ _ ((⟨none, _, _, _, _, _⟩ : Oper) :: _) _ _); refine wpList_store_blk (o := ⟨none, _, _, _, _, _⟩) (hg0) (by rfl) _ _ _ (by rfl) (by rfl) (msgc zeroHd (.slice none 0 0)) (by rfl) (sizeMsg) (msgc_size _ _) (msgc_size _ _) (msgc_one _ _ rfl) ?_; intro w9 h9 hu9)
            | fail)
          refine bodyPost_ret (results_row_tmp (by rfl) _ _ g0 _ _ _ (by rfl) h9 Tryd.underlying38 (by rfl) (by rw [msgc_size]; exact sizeMsg)) rfl ⟨_, by rw [hrd.out]; rfl, ⟨[], by rw [hrd.out]; exact OwnsC.nil _ _ _ _⟩, hB6.out.upd hu9 HGE.out⟩
end Go.Proofs.YtfoegmjpfkmggaaDoor
