/- Fields laid as bytes, four each. Conditions: the list of bytes lies in a block of its own with room for all; the numbers are from 0 on and below 2^32. -/
import Derived.Test.YtfoegmjpfkmggaaGreatDoorMJournalTurned8
namespace Go.Proofs.YtfoegmjpfkmggaaGreatDoor
open Go.RowKit
theorem put4_app (Q R : List UInt8) (n : Nat) : put4 (Q ++ R) Q.length n = Q ++ (le4 n ++ R.drop 4) := by
  unfold put4; rw [List.take_left, List.drop_append]
  rw [List.drop_eq_nil_of_le (by omega), List.nil_append, Nat.add_sub_cancel_left]
theorem four_snoc (f : HdF) (l : List Nat) (i : Nat) : four_ f (l ++ [i]) = four_ f l ++ le4 (f i).toNat := by unfold four_; rw [List.flatMap_append]; simp
def midF (f : HdF) (P R : List UInt8) (idx : List Nat) (j : Nat) : List UInt8 := P ++ (four_ f (idx.take j) ++ R.drop (4 * j))
theorem midF_length (f : HdF) (P R : List UInt8) (idx : List Nat) (j : Nat) (hj : j ≤ idx.length) (hR : 4 * idx.length ≤ R.length) : (midF f P R idx j).length = P.length + R.length := by
  unfold midF; rw [List.length_append, List.length_append, four_length, List.length_take, List.length_drop]; omega
theorem midF_succ (f : HdF) (P R : List UInt8) (idx : List Nat) (j : Nat) (hj : j < idx.length) : put4 (midF f P R idx j) (P.length + 4 * j) (f (idx.getD j 0)).toNat = midF f P R idx (j + 1) := by
  have e : midF f P R idx j = (P ++ four_ f (idx.take j)) ++ R.drop (4 * j) := by unfold midF; rw [List.append_assoc]
  have hl : (P ++ four_ f (idx.take j)).length = P.length + 4 * j := by rw [List.length_append, four_length, List.length_take]; omega
  rw [e, ← hl, put4_app, List.drop_drop]
  unfold midF
  have hg : idx.getD j 0 = idx[j] := by rw [List.getD_eq_getElem?_getD, List.getElem?_eq_getElem hj]; rfl
  rw [List.take_succ_eq_append_getElem hj, ← hg, four_snoc, show 4 * j + 4 = 4 * (j + 1) by omega]
  simp only [List.append_assoc]
def FourO (w : World) (g : Nat) (t : TypeId) (f : HdF) (P R : List UInt8) (idx : List Nat) (v : Value) (wr : World) : Prop :=
  ∃ j : Nat, j ≤ idx.length ∧ v = .int .i64 (j : Int) ∧ Blk wr g t ((midF f P R idx j).map u8v).toArray ∧ Upd g w wr
def FourI (w : World) (g : Nat) (t : TypeId) (L : List UInt8) (off n : Nat) (v : Value) (wr : World) : Prop :=
  ∃ k : Nat, k ≤ 4 ∧ v = .int .i64 (k : Int) ∧ Blk wr g t ((put4r L off n k).map u8v).toArray ∧ Upd g w wr
set_option maxHeartbeats 1000000 in
theorem hfour_any (g len cap hb : Nat) (t : TypeId) (f : HdF) (P R : List UInt8) (idx : List Nat) (pb po pc : Nat) (h4 : 4 * idx.length ≤ len) (hR : 4 * idx.length ≤ R.length) (hlen : len ≤ 1000000) (w : World)
    (hg : Blk w g t ((P ++ R).map u8v).toArray) (hp : ∀ j, j < idx.length → w.cell? ⟨pb, po + j, none⟩ = some (.pointer (some ⟨hb, idx.getD j 0, none⟩)))
    (hf : ∀ j, j < idx.length → w.cell? ⟨hb, idx.getD j 0, none⟩ = some (.int .i64 (f (idx.getD j 0))) ∧ 0 ≤ f (idx.getD j 0) ∧ f (idx.getD j 0) < 4294967296) (hne : pb ≠ g ∧ hb ≠ g) :
    Calls Tryz.prog 155 #[.slice (some ⟨g, P.length, none⟩) len cap, .slice (some ⟨pb, po, none⟩) idx.length pc] w fun e w' =>
      e = .returned (.tuple #[]) ∧ Blk w' g t ((P ++ (four_ f idx ++ R.drop (4 * idx.length))).map u8v).toArray ∧ Upd g w w' := by
  go_enter Tryz.func155, Tryz.ntmps155
  go_wp2
  go_loopw [9] (fun v wr => FourO w g t f P R idx v wr) (fun v _ => idx.length - (intOf v).toNat)
  case atStart => exact ⟨0, by omega, rfl, by simpa [midF, four_] using hg, Upd.refl _ _⟩
  case round =>
    obtain ⟨j, hj, rfl, hgj, hu⟩ := hrel
    clear hg
    by_cases hjl : j < idx.length
    · have dp := (World.cell?_of_block (hu.block pb hne.1)).trans (hp j hjl)
      obtain ⟨hf1, hf2, hf3⟩ := hf j hjl
      have df := (World.cell?_of_block (hu.block hb hne.2)).trans hf1
      have hL := midF_length f P R idx j hj hR
      have hnx := midF_succ f P R idx j hjl
      obtain ⟨L, hLL⟩ : ∃ L, L = midF f P R idx j := ⟨_, rfl⟩
      rw [← hLL] at hgj hL hnx
      have HN := Lib.hid hnx
      obtain ⟨off, hoff⟩ : ∃ off, off = P.length := ⟨_, rfl⟩
      rw [← hoff] at HN ⊢
      have hroom : off + 4 * j + 4 ≤ L.length := by rw [hL, hoff]; omega
      generalize idx.getD j 0 = i at dp df hf1 hf2 hf3 HN
      obtain ⟨n, hn⟩ : ∃ n : Nat, f i = (n : Int) := ⟨(f i).toNat, by omega⟩
      have hn2 : n < 4294967296 := by omega
      rw [hn] at df HN
      rw [Int.toNat_natCast] at HN
      have HU := Lib.hid hu
      have HF := Lib.hid (And.intro hp hf)
      clear hL hLL hnx hoff hn hf1 hf2 hf3 hu hp hf
      generalize wr = w7 at hgj dp df HU ⊢
      go_wp2_with fail
      go_loopw [14] (fun v wr => FourI w7 g t L (off + 4 * j) n v wr) (fun v _ => 4 - (intOf v).toNat)
      case atStart => exact ⟨0, by omega, rfl, by rw [put4r_zero]; exact hgj, Upd.refl _ _⟩
      case round =>
        clear hgj dp
        obtain ⟨k, hk, rfl, hgk, hu2⟩ := hrel
        have dx := (World.cell?_of_block (hu2.block hb hne.2)).trans df
        by_cases hlt : k < 4
        · have fz := hgk.frozen (off + (4 * j + k))
          have hjl2 : off + 4 * j + k < (put4r L (off + 4 * j) n k).length := by rw [put4r_length L _ n k hroom (by omega)]; omega
          have dz : ∃ v, wr.cell? ⟨g, off + (4 * j + k), none⟩ = some v := ⟨_, (hgk.cell (off + (4 * j + k))).trans (by rw [← Nat.add_assoc, List.getElem?_toArray, List.getElem?_map, List.getElem?_eq_getElem hjl2]; rfl)⟩
          obtain ⟨v, dz⟩ := dz
          have hs := put4r_set L (off + 4 * j) n k hroom hlt _ rfl
          have ho := hgk.set_ (off + 4 * j + k) (.int .u8 (iu8 ((le4 n).getD k 0)))
          rw [hs] at ho
          have hu' := hu2.set (off + 4 * j + k) (.int .u8 (iu8 ((le4 n).getD k 0)))
          rw [Nat.add_assoc] at ho hu'
          have HO := Lib.hid (And.intro ho hu')
          clear hs ho hu' hjl2 hgk hu2 hroom
          have hcase : k = 0 ∨ k = 1 ∨ k = 2 ∨ k = 3 := by omega
          rcases hcase with rfl | rfl | rfl | rfl
          · rw [Nat.add_zero] at fz dz
            go_wp2
            rw [le4_v0]
            exact ⟨⟨1, by omega, rfl, HO.out⟩, by simp [intOf]⟩
          · go_wp2
            rw [le4_v1]
            exact ⟨⟨2, by omega, rfl, HO.out⟩, by simp [intOf]⟩
          · go_wp2
            rw [le4_v2]
            exact ⟨⟨3, by omega, rfl, HO.out⟩, by simp [intOf]⟩
          · go_wp2
            rw [le4_v3 n hn2]
            exact ⟨⟨4, by omega, rfl, HO.out⟩, by simp [intOf]⟩
        · obtain rfl : k = 4 := by omega
          rw [put4r_four, HN.out] at hgk
          have HE := Lib.hid (And.intro hgk (HU.out.trans hu2))
          clear hgk hu2 hroom
          go_wp2
          go_roundw
          case rel => exact ⟨j + 1, by omega, by go_num, HE.out⟩
          case measure => simp [intOf]; omega
    · obtain rfl : j = idx.length := by omega
      have e : midF f P R idx idx.length = P ++ (four_ f idx ++ R.drop (4 * idx.length)) := by unfold midF; rw [List.take_length]
      rw [e] at hgj
      have HG := Lib.hid (And.intro hgj hu)
      clear hgj hu hp hf e
      go_wp2
      refine bodyPost_end (v := .tuple #[]) (by simp [results]) rfl ⟨rfl, HG.out.1, HG.out.2⟩
end Go.Proofs.YtfoegmjpfkmggaaGreatDoor

/- copy(d, s), d in an own block of bytes from a place on. Plain facts over any program. No condition. -/
namespace Go
open Go.RowKit
/-- copy(d, s), d in an own block of bytes from a place on. -/
theorem wpList_copy_at {P : Program} {w : World} {ops : Array Oper} {rest : List Oper} {o : Oper} {a : Act} {Q : Exit → Act → World → Prop} (hgd : o.guard = none) (d s : Operand) (dT sT : TypeId)
    (ho : o.op = .call { callee := .builtin .copy, args := #[d, s], argTypes := #[dT, sT] }) (elem : TypeId) (hu : P.underlying dT = some (.slice elem)) (hsz : (P.info? elem).map (·.size) = some 1)
    (g off dLen dCap : Nat) (A : Option Addr) (sLen sCap : Nat) (hd : a.eval d = .slice (some ⟨g, off, none⟩) dLen dCap) (hs : a.eval s = .slice A sLen sCap)
    (cur l : List UInt8) (t : TypeId) (hg : Blk w g t (cur.map u8v).toArray) (hn : l.length = sLen) (hb : Bytes w A l) (hfit : off + l.length ≤ cur.length) (hfit2 : l.length ≤ dLen)
    (h : ∀ w', Blk w' g t ((cur.take off ++ (l ++ cur.drop (off + l.length))).map u8v).toArray → Upd g w w' → wpList P ops Q rest (a.put o.dst (goInt l.length)) w') : wpList P ops Q (o :: rest) a w := by
  by_cases h0 : l.length = 0
  · obtain rfl : l = [] := List.eq_nil_of_length_eq_zero h0
    simp at hn
    subst hn
    refine wpList_copy_nothing hgd d s dT sT ho elem hu hsz _ A dLen dCap 0 sCap hd hs (by simp) ?_
    exact h w (by simpa using hg) ⟨rfl, rfl, rfl, rfl, fun _ _ => rfl⟩
  · obtain ⟨b, soff, rfl, _, hc⟩ := hb.at_ (by omega)
    have := wpList_copy_own (Q := Q) (rest := rest) (ops := ops) (w := w) hgd d s dT sT ho elem hu hsz g off dLen dCap ⟨b, soff, none⟩ sLen sCap hd hs (cur.map u8v).toArray t hg (l.map u8v) (by rw [List.length_map, hn]; exact (Nat.min_eq_left (by omega)).symm)
      (fun j v hv => by
        have hj : j < l.length := by
          rcases Nat.lt_or_ge j l.length with h1 | h1
          · exact h1
          · simp [List.getElem?_eq_none h1] at hv
        have h2 := hc j hj
        simp [hj] at hv
        rw [Addr.add_lit, h2, ← hv]; simp [u8v, hj]) (by simpa using hfit) (u8v_one l)
    refine this ?_
    have e1 : ((((cur.map u8v).toArray.toList.take off) ++ (l.map u8v ++ (cur.map u8v).toArray.toList.drop (off + (l.map u8v).length))).toArray) = ((cur.take off ++ (l ++ cur.drop (off + l.length))).map u8v).toArray := by simp
    rw [e1]
    have e2 : ((l.map u8v).length : Int) = (l.length : Int) := by simp
    rw [e2]
    exact h _ (hg.setRow _) (Upd.setRow _ _ _)
end Go

/- A header's bytes, as the program lays them. Conditions: the numbers of four bytes are from 0 on and below 2^32, the others below 2^64. -/
namespace Go.Proofs.YtfoegmjpfkmggaaGreatDoor
open Go.RowKit
def zero256 : Array Value := arr 256 fun _ => .int .u8 0
theorem size256 : (Tryz.prog.info? 101).map (·.size) = some 256 := by kernel_rfl
theorem alloc256 (w : World) : (zeroValue 101).run Tryz.prog w = .ok (.agg zero256) w := by
  have h : (Tryz.prog.info? 101).map (fun i => (i.zero, i.size)) = some (some (.agg zero256), 256) := by kernel_rfl
  exact (zero_of_info h).1 w
/-- A list of 256 bytes of which the first are these, the others noughts. -/
def fill (P : List UInt8) : List UInt8 := P ++ List.replicate (256 - P.length) 0
theorem fill_length (P : List UInt8) (h : P.length ≤ 256) : (fill P).length = 256 := by unfold fill; rw [List.length_append, List.length_replicate]; omega
theorem fill_copy (P l : List UInt8) (h : P.length + l.length ≤ 256) : (fill P).take P.length ++ (l ++ (fill P).drop (P.length + l.length)) = fill (P ++ l) := by
  unfold fill
  rw [List.take_left, List.drop_append, List.drop_of_length_le (by omega), List.nil_append, List.drop_replicate, List.length_append, List.append_assoc]
  congr 3
  omega
theorem fill_four (P l : List UInt8) (n : Nat) (hl : l.length = n) (_ : P.length + n ≤ 256) : P ++ (l ++ (List.replicate (256 - P.length) (0 : UInt8)).drop n) = fill (P ++ l) := by
  unfold fill
  rw [List.drop_replicate, List.length_append, List.append_assoc, hl]
  congr 3
  omega
theorem fill_snoc (P : List UInt8) (b : UInt8) (h : P.length < 256) : (fill P).set P.length b = fill (P ++ [b]) := by
  unfold fill
  rw [List.set_append_right _ _ (Nat.le_refl _), Nat.sub_self, List.length_append, List.append_assoc]
  congr 1
  obtain ⟨n, hn⟩ : ∃ n, 256 - P.length = n + 1 := ⟨255 - P.length, by omega⟩
  rw [hn, List.replicate_succ, List.set_cons_zero, show 256 - (P.length + [b].length) = n by simp; omega]
  rfl
theorem fill_zero : List.replicate 256 (0 : UInt8) = fill (List.replicate 16 0) := by unfold fill; rw [List.length_replicate, List.replicate_append_replicate]
theorem arr_const' (n : Nat) (v : Value) : arr n (fun _ => v) = (List.replicate n v).toArray := by
  apply Array.ext_getElem?; intro i
  rw [arr_get, List.getElem?_toArray, List.getElem?_replicate]
theorem zero256_list : zero256 = ((fill (List.replicate 16 0)).map u8v).toArray := by
  rw [← fill_zero, List.map_replicate]; exact arr_const' 256 _
theorem set_u8 (L : List UInt8) (i : Nat) (b : UInt8) : ((L.map u8v).toArray).setIfInBounds i (.int .u8 (iu8 b)) = ((L.set i b).map u8v).toArray := by simp [List.map_set, u8v]
def thirteen : List Nat := [0, 1, 2, 3, 4, 5, 6, 7, 8, 11, 12, 14, 15]
def Hd.nat (f : HdF) : Prop := ∀ i ∈ thirteen, 0 ≤ f i ∧ f i < 4294967296
/-- What the call's own blocks hold: the header in its box, the seal in its, the result's noughts, the bytes so far. -/
structure HInv (w0 : World) (s0 : Nat) (f : HdF) (s L : List UInt8) (wr : World) : Prop where
  box : Blk wr s0 38 (hdc f)
  sl : Blk wr (s0 + 1) 150 (s.map u8v).toArray
  res : Blk wr (s0 + 1 + 1) 101 zero256
  raw : Blk wr (s0 + 1 + 1 + 1) 101 (L.map u8v).toArray
  bel : Below s0 w0 wr
theorem HInv.upd {w0 : World} {s0 : Nat} {f : HdF} {s L L' : List UInt8} {wr w' : World} (h : HInv w0 s0 f s L wr) (u : Upd (s0 + 1 + 1 + 1) wr w') (hg : Blk w' (s0 + 1 + 1 + 1) 101 (L'.map u8v).toArray) : HInv w0 s0 f s L' w' :=
  ⟨h.box.upd u (by omega), h.sl.upd u (by omega), h.res.upd u (by omega), hg, h.bel.upd u (by omega)⟩
theorem HInv.below {w0 : World} {s0 : Nat} {f : HdF} {s L : List UInt8} {wr w' : World} (h : HInv w0 s0 f s L wr) (hb : Below wr.heap.size wr w') : HInv w0 s0 f s L w' :=
  ⟨keep hb h.box, keep hb h.sl, keep hb h.res, keep hb h.raw, h.bel.trans (hb.mono (by have := h.box.lt; omega))⟩
theorem HInv.drew {w0 : World} {s0 : Nat} {f : HdF} {s L : List UInt8} {wr : World} (h : HInv w0 s0 f s L wr) : HInv w0 s0 f s L wr.drew := ⟨h.box, h.sl, h.res, h.raw, h.bel.drew⟩
instance {w0 : World} {s0 : Nat} {f : HdF} {s L : List UInt8} {w w' : World} : KeepsTo w w' (HInv w0 s0 f s L w) (HInv w0 s0 f s L w') := ⟨fun hb h => h.below hb⟩
theorem hfour_fill (g hb n len pb m : Nat) (t : TypeId) (f : HdF) (P : List UInt8) (idx : List Nat) (hn : P.length = n) (hm : idx.length = m) (h4 : n + len = 256) (hl : 4 * m ≤ len) (w : World) (hg : Blk w g t ((fill P).map u8v).toArray)
    (hp : Blk w pb t (pts hb idx) ∨ ∃ t', Blk w pb t' (pts hb idx)) (hbx : Blk w hb 38 (hdc f)) (hf : Hd.nat f) (hi : ∀ i ∈ idx, i ∈ thirteen) (hne : pb ≠ g ∧ hb ≠ g) :
    Calls Tryz.prog 155 #[.slice (some ⟨g, n, none⟩) len len, .slice (some ⟨pb, 0, none⟩) m m] w fun e w' =>
      e = .returned (.tuple #[]) ∧ Blk w' g t ((fill (P ++ four_ f idx)).map u8v).toArray ∧ Upd g w w' := by
  subst hn hm
  have hp' : ∀ j, j < idx.length → w.cell? ⟨pb, 0 + j, none⟩ = some (.pointer (some ⟨hb, idx.getD j 0, none⟩)) := fun j hj => by
    have hc : (pts hb idx)[0 + j]? = some (.pointer (some ⟨hb, idx.getD j 0, none⟩)) := by
      rw [Nat.zero_add]; unfold pts
      rw [List.getElem?_toArray, List.getElem?_map, List.getElem?_eq_getElem hj, List.getD_eq_getElem?_getD, List.getElem?_eq_getElem hj]; rfl
    rcases hp with h | ⟨t', h⟩
    · exact h.at_ _ hc
    · exact h.at_ _ hc
  have hmem : ∀ j, j < idx.length → idx.getD j 0 ∈ thirteen := fun j hj => by
    rw [List.getD_eq_getElem?_getD, List.getElem?_eq_getElem hj]; exact hi _ (List.getElem_mem hj)
  have h13 : ∀ i ∈ thirteen, i < 16 ∧ i ≠ 9 ∧ i ≠ 10 ∧ i ≠ 13 := by decide
  refine (hfour_any g len len hb t f P (List.replicate (256 - P.length) 0) idx pb 0 idx.length hl (by rw [List.length_replicate]; omega) (by omega) w hg hp' (fun j hj => ?_) hne).mono ?_
  · have hm := hmem j hj
    obtain ⟨h1, h2, h3, h5⟩ := h13 _ hm
    exact ⟨hbx.at_ _ (hdc_at f _ h1 h2 h3 h5), hf _ hm⟩
  · rintro e w' ⟨he, hg', hu⟩
    refine ⟨he, ?_, hu⟩
    rw [fill_four P (four_ f idx) (4 * idx.length) (four_length f idx) (by omega)] at hg'
    exact hg'
def TimeRel (w0 : World) (s0 : Nat) (f : HdF) (s P : List UInt8) (T g1 : Nat) (v : Value) (wr : World) : Prop :=
  ∃ j : Nat, j ≤ 8 ∧ v = .int .i64 (j : Int) ∧ HInv w0 s0 f s (fill (P ++ (le8 T).take j)) wr ∧ Blk wr (g1 + 1 + 1) 196 (pts s0 [14, 15])
theorem time_step (P : List UInt8) (T j : Nat) (hP : P.length = 92) (hj : j < 8) (b : UInt8) (hb : b = b8 T j) : (fill (P ++ (le8 T).take j)).set (92 + j) b = fill (P ++ (le8 T).take (j + 1)) := by
  subst hb
  have hl : (P ++ (le8 T).take j).length = 92 + j := by rw [List.length_append, List.length_take, le8_length]; omega
  have h := fill_snoc (P ++ (le8 T).take j) (b8 T j) (by omega)
  rw [hl] at h
  rw [h, List.append_assoc, List.take_succ_eq_append_getElem (by rw [le8_length]; omega)]
  congr 4
  have : j = 0 ∨ j = 1 ∨ j = 2 ∨ j = 3 ∨ j = 4 ∨ j = 5 ∨ j = 6 ∨ j = 7 := by omega
  rcases this with rfl | rfl | rfl | rfl | rfl | rfl | rfl | rfl <;> simp [le8_b8]
set_option maxRecDepth 100000 in
set_option maxHeartbeats 4000000 in
theorem hlaid_any (f : HdF) (s : List UInt8) (hs : s.length = 16) (hf : Hd.nat f) (hin : Hd.in_ f) (w : World) :
    Calls Tryz.prog 117 #[.agg (hdc f), .agg (s.map u8v).toArray] w fun e w' => e = .returned (.agg ((List.replicate 16 0 ++ Hd.rest f s).map u8v).toArray) ∧ Below w.heap.size w w' := by
  have a256 := alloc256
  obtain ⟨s0, hs0⟩ : ∃ s0, s0 = w.heap.size := ⟨_, rfl⟩
  have hI : HInv w s0 f s (fill (List.replicate 16 0)) ((((w.alloc (.cells (hdc f) 38)).alloc (.cells (s.map u8v).toArray 150)).alloc (.cells zero256 101)).alloc (.cells zero256 101)) := by
    subst hs0
    refine ⟨(((Blk.new _ _ _).alloc _).alloc _).alloc _, ((Blk.new' _ _ _ (by simp)).alloc _).alloc _, (Blk.new' _ _ _ (by simp)).alloc _, ?_, ((((Below.refl _ _).alloc (Nat.le_refl _) _).alloc (by simp) _).alloc (by simp; omega) _).alloc (by simp; omega) _⟩
    have := Blk.new' (((w.alloc (.cells (hdc f) 38)).alloc (.cells (s.map u8v).toArray 150)).alloc (.cells zero256 101)) 101 zero256 (n := w.heap.size + 1 + 1 + 1) (by simp)
    exact this.sub zero256_list
  go_enter Tryz.func117, Tryz.ntmps117
  go_wp2_with fail
  rw [← hs0]
  have HS0 := Lib.hid hs0
  clear hs0
  generalize (((w.alloc (.cells (hdc f) 38)).alloc (.cells (s.map u8v).toArray 150)).alloc (.cells zero256 101)).alloc (.cells zero256 101) = w1 at hI ⊢
  clear a256
  refine wp_region_planT (fun _ => True) [2] [(true, 0), (true, 1), (false, 2)] (by kernel_rfl) (by kernel_rfl) (trivial) ?_
  refine wpPlan_pure [0, 1] [(false, 2)] _ (by rfl) (by rfl) ?_
  dsimp only [List.filterMap, List.getElem?_cons_zero, List.getElem?_cons_succ]
  repeat (go_big_quiet_step (fail))
  refine wpQuiet_nil ?_
  refine wpPlan_forceL _ rfl ?_
  refine wpList_copy_at (by rfl) _ _ _ _ (by rfl) 5 Tryz.underlying39 size1 (s0 + 1 + 1 + 1) 16 240 240 (some ⟨s0 + 1, 0, none⟩) 16 16 (by rfl) (by rfl) _ s _ hI.drew.raw hs hI.drew.sl.bytes (by rw [fill_length _ (by simp), hs]; omega) (by omega) ?_
  intro w2 hg2 hu2
  have hI2 := hI.drew.upd hu2 hg2
  rw [show (fill (List.replicate 16 0)).take 16 ++ (s ++ (fill (List.replicate 16 0)).drop (16 + s.length)) = fill (List.replicate 16 0 ++ s) from fill_copy (List.replicate 16 0) s (by rw [List.length_replicate, hs]; omega)] at hI2
  clear hg2 hu2 hI
  have hP : (List.replicate 16 (0 : UInt8) ++ s).length = 32 := by rw [List.length_append, List.length_replicate, hs]
  have HREST : Hid (List.replicate 16 (0 : UInt8) ++ Hd.rest f s = (List.replicate 16 0 ++ s) ++ (Hd.mid f ++ List.replicate 148 0)) := Lib.hid (by unfold Hd.rest; rw [List.append_assoc])
  generalize List.replicate 16 (0 : UInt8) ++ s = P at hI2 hP HREST
  refine wpList_nil ?_
  refine PlanQ.out (by rfl) ?_
  refine wpPlan_tidy ?_
  simp only [Act.put, List.setIfInBounds_toArray, List.set_cons_zero, List.set_cons_succ]
  go_wp2_with fail
  refine (numbers_any s0 w2).mono ?_
  rintro e w3 ⟨rfl, hbx⟩
  (replace hI2 := keep hbx hI2; clear hbx)
  have b1 := Blk.new w3 195 (pts s0 [0, 1, 2, 3, 4, 5, 6, 7, 8])
  have b2 := Blk.new (w3.alloc (.cells (pts s0 [0, 1, 2, 3, 4, 5, 6, 7, 8]) 195)) 196 (pts s0 [11, 12])
  have b3 := Blk.new ((w3.alloc (.cells (pts s0 [0, 1, 2, 3, 4, 5, 6, 7, 8]) 195)).alloc (.cells (pts s0 [11, 12]) 196)) 196 (pts s0 [14, 15])
  replace b1 := (b1.alloc (.cells (pts s0 [11, 12]) 196)).alloc (.cells (pts s0 [14, 15]) 196)
  replace b2 := b2.alloc (.cells (pts s0 [14, 15]) 196)
  rw [show (w3.alloc (.cells (pts s0 [0, 1, 2, 3, 4, 5, 6, 7, 8]) 195)).heap.size = w3.heap.size + 1 by simp] at b2
  rw [show ((w3.alloc (.cells (pts s0 [0, 1, 2, 3, 4, 5, 6, 7, 8]) 195)).alloc (.cells (pts s0 [11, 12]) 196)).heap.size = w3.heap.size + 1 + 1 by simp] at b3
  have hB2 := (((Below.refl w3.heap.size w3).alloc (Nat.le_refl _) (.cells (pts s0 [0, 1, 2, 3, 4, 5, 6, 7, 8]) 195)).alloc (by simp) (.cells (pts s0 [11, 12]) 196)).alloc (by simp; omega) (.cells (pts s0 [14, 15]) 196)
  have hI3 := hI2.below hB2
  have hlt3 := hI2.raw.lt
  have H2 := Lib.hid (And.intro b1 (And.intro b2 (And.intro b3 (And.intro hI3 hlt3))))
  clear b1 b2 b3 hI2 hI3 hB2 hlt3
  simp only [pts, pt, List.map_cons, List.map_nil] at H2 ⊢
  go_wp2_with fail
  obtain ⟨b1, b2, b3, hI3, hlt3⟩ := H2.out
  clear H2
  generalize ((w3.alloc _).alloc _).alloc _ = w4 at b1 b2 b3 hI3 ⊢
  generalize w3.heap.size = g1 at b1 b2 b3 hlt3 ⊢
  refine wp_region_planT (fun w' => w' = w4.drew) [2] [(true, 0), (true, 1), (false, 2)] (by kernel_rfl) (by kernel_rfl) (rfl) ?_
  refine wpPlan_pure [0, 1] [(false, 2)] _ (by rfl) (by rfl) ?_
  dsimp only [List.filterMap, List.getElem?_cons_zero, List.getElem?_cons_succ]
  repeat (go_big_quiet_step (fail))
  refine wpQuiet_nil ?_
  refine wpPlan_forceL _ rfl ?_
  go_wp2_with fail
  refine (hfour_fill (s0 + 1 + 1 + 1) s0 32 224 g1 9 101 f P [0, 1, 2, 3, 4, 5, 6, 7, 8] hP rfl rfl (by omega) w4.drew hI3.drew.raw (.inr ⟨_, b1.drew⟩) hI3.drew.box hf (by decide) (by omega)).mono ?_
  rintro e w5 ⟨rfl, hg5, hu5⟩
  have hI5 := hI3.drew.upd hu5 hg5
  replace b2 := b2.drew.upd hu5 (by omega)
  replace b3 := b3.drew.upd hu5 (by omega)
  clear b1 hg5 hu5 hI3
  obtain ⟨P5, hP5⟩ : ∃ P5, P5 = P ++ four_ f [0, 1, 2, 3, 4, 5, 6, 7, 8] := ⟨_, rfl⟩
  have hl5 : P5.length = 68 := by rw [hP5, List.length_append, hP, four_length]; rfl
  rw [← hP5] at hI5
  have HP5 := Lib.hid hP5
  clear hP5
  go_wp2_with fail
  refine PlanQ.out (by rfl) ?_
  refine wpPlan_tidy ?_
  obtain ⟨hi, hhi⟩ : ∃ n : Nat, f 9 = (n : Int) := ⟨(f 9).toNat, by have := hin.1; omega⟩
  obtain ⟨lo, hlo⟩ : ∃ n : Nat, f 10 = (n : Int) := ⟨(f 10).toNat, by have := hin.2.2.1; omega⟩
  obtain ⟨T, hT⟩ : ∃ n : Nat, f 13 = (n : Int) := ⟨(f 13).toNat, by have := hin.2.2.2.2.1; omega⟩
  have d9 : w5.cell? ⟨s0, 9, none⟩ = some (.int .u64 (hi : Nat)) := (hI5.box.at_ 9 (hdc_u f 9 (by omega))).trans (by rw [hhi])
  have d10 : w5.cell? ⟨s0, 9 + 1, none⟩ = some (.int .u64 (lo : Nat)) := (hI5.box.at_ 10 (hdc_u f 10 (by omega))).trans (by rw [hlo])
  have HN := Lib.hid (And.intro hhi (And.intro hlo hT))
  have HF := Lib.hid (And.intro hf hin)
  clear hhi hlo hT hf hin
  go_wp2_with (first
    | ((with_reducible show wpList _ _ _ ((⟨some 23, _, _, _, _, _⟩ : Oper) :: _) _ _); refine wpList_load_mid (o := ⟨some 23, _, _, _, _, _⟩) (range2 (b := s0) (off := 9) (u := .int .u64 (hi : Nat)) (v := .int .u64 (lo : Nat)) (d9) (d10)) (by rfl) _ _ (by rfl) (by rfl) _ Tryz.underlying36 (by rfl) sizeU (by rfl) ?_)
    | fail)
  refine (id_any hi lo w5).mono ?_
  rintro e w6 ⟨rfl, hbx⟩
  (replace hI5 := keep hbx hI5; replace b2 := keep hbx b2; replace b3 := keep hbx b3; clear hbx d9 d10)
  rw [idv_all]
  have hid : (le8 lo ++ le8 hi).length = 16 := rfl
  obtain ⟨S, hS⟩ : ∃ S, S = le8 lo ++ le8 hi := ⟨_, rfl⟩
  rw [← hS] at hid ⊢
  have HS := Lib.hid hS
  clear hS
  have a16 := alloc16
  go_wp2_with (first
    | ((with_reducible show wpList _ _ _ ((⟨none, _, _, _, _, _⟩ : Oper) :: _) _ _); refine wpList_store_blk (o := ⟨none, _, _, _, _, _⟩) (Blk.new w6 150 zero16) (by rfl) _ _ _ (by rfl) (by rfl) (S.map u8v).toArray (by rfl) size16 (arr_size _ _) (by simp [hid]) (u8_all _) ?_; intro w7 h7 hux; have hbx := ((Below.refl _ _).alloc (Nat.le_refl _) (.cells zero16 150)).upd hux (Nat.le_refl w6.heap.size); replace hI5 := keep hbx hI5; replace b2 := keep hbx b2; replace b3 := keep hbx b3; clear hux hbx)
    | fail)
  clear a16
  simp only [Act.put]
  refine wp_region_planT (fun _ => True) [2] [(true, 0), (true, 1), (false, 2)] (by kernel_rfl) (by kernel_rfl) (trivial) ?_
  refine wpPlan_pure [0, 1] [(false, 2)] _ (by rfl) (by rfl) ?_
  dsimp only [List.filterMap, List.getElem?_cons_zero, List.getElem?_cons_succ]
  repeat (go_big_quiet_step (fail))
  refine wpQuiet_nil ?_
  refine wpPlan_forceL _ rfl ?_
  refine wpList_copy_at (by rfl) _ _ _ _ (by rfl) 5 Tryz.underlying39 size1 (s0 + 1 + 1 + 1) 68 188 188 (some ⟨w6.heap.size, 0, none⟩) 16 16 (by rfl) (by rfl) _ S _ hI5.drew.raw hid h7.drew.bytes (by rw [fill_length _ (by omega), hid]; omega) (by omega) ?_
  intro w8 hg8 hu8
  have hI8 := hI5.drew.upd hu8 hg8
  replace b2 := b2.drew.upd hu8 (by omega)
  replace b3 := b3.drew.upd hu8 (by omega)
  rw [show (fill P5).take 68 ++ (S ++ (fill P5).drop (68 + S.length)) = fill (P5 ++ S) by rw [← hl5]; exact fill_copy P5 S (by omega)] at hI8
  clear hg8 hu8 hI5 h7
  obtain ⟨P8, hP8⟩ : ∃ P8, P8 = P5 ++ S := ⟨_, rfl⟩
  have hl8 : P8.length = 84 := by rw [hP8, List.length_append, hl5, hid]
  rw [← hP8] at hI8
  have HP8 := Lib.hid hP8
  clear hP8 hid
  refine wpList_nil ?_
  refine PlanQ.out (by rfl) ?_
  refine wpPlan_tidy ?_
  simp only [Act.put, List.setIfInBounds_toArray, List.set_cons_zero, List.set_cons_succ]
  go_wp2_with fail
  refine wp_region_planT (fun w' => w' = w8.drew) [2] [(true, 0), (true, 1), (false, 2)] (by kernel_rfl) (by kernel_rfl) (rfl) ?_
  refine wpPlan_pure [0, 1] [(false, 2)] _ (by rfl) (by rfl) ?_
  dsimp only [List.filterMap, List.getElem?_cons_zero, List.getElem?_cons_succ]
  repeat (go_big_quiet_step (fail))
  refine wpQuiet_nil ?_
  refine wpPlan_forceL _ rfl ?_
  go_wp2_with fail
  refine (hfour_fill (s0 + 1 + 1 + 1) s0 84 172 (g1 + 1) 2 101 f P8 [11, 12] hl8 rfl rfl (by omega) w8.drew hI8.drew.raw (.inr ⟨_, b2.drew⟩) hI8.drew.box HF.out.1 (by decide) (by omega)).mono ?_
  rintro e w9 ⟨rfl, hg9, hu9⟩
  have hI9 := hI8.drew.upd hu9 hg9
  replace b3 := b3.drew.upd hu9 (by omega)
  clear b2 hg9 hu9 hI8
  obtain ⟨P9, hP9⟩ : ∃ P9, P9 = P8 ++ four_ f [11, 12] := ⟨_, rfl⟩
  have hl9 : P9.length = 92 := by rw [hP9, List.length_append, hl8, four_length]; rfl
  rw [← hP9] at hI9
  have HP9 := Lib.hid hP9
  clear hP9
  go_wp2_with fail
  refine PlanQ.out (by rfl) ?_
  refine wpPlan_tidy ?_
  go_wp2_with fail
  go_loopw [31] (fun v wr => TimeRel w s0 f s P9 T g1 v wr) (fun v _ => 8 - (intOf v).toNat)
  case atStart => exact ⟨0, by omega, rfl, by simpa using hI9, b3⟩
  case round =>
    obtain ⟨j, hj, rfl, hIj, hbj⟩ := hrel
    clear hI9 b3
    by_cases hlt : j < 8
    · have d13 : wr.cell? ⟨s0, 13, none⟩ = some (.int .u64 (T : Nat)) := (hIj.box.at_ 13 (hdc_u f 13 (by omega))).trans (by rw [HN.out.2.2])
      have fz := hIj.raw.frozen (92 + j)
      have hst := time_step P9 T j hl9 hlt _ rfl
      have HX : Hid (HInv w s0 f s (fill (P9 ++ (le8 T).take (j + 1))) (wr.setCell ⟨s0 + 1 + 1 + 1, 92 + j, none⟩ (.int .u8 (iu8 (b8 T j)))) ∧ Blk (wr.setCell ⟨s0 + 1 + 1 + 1, 92 + j, none⟩ (.int .u8 (iu8 (b8 T j)))) (g1 + 1 + 1) 196 (pts s0 [14, 15])) :=
        Lib.hid ⟨hIj.upd ((Upd.refl _ _).set _ _) ((hIj.raw.set_ (92 + j) (.int .u8 (iu8 (b8 T j)))).sub (by rw [set_u8, hst])), hbj.off (by omega) _⟩
      have dz : ∃ v, wr.cell? ⟨s0 + 1 + 1 + 1, 92 + j, none⟩ = some v := ⟨_, hIj.raw.at_ (92 + j) (by rw [List.getElem?_toArray, List.getElem?_map, List.getElem?_eq_getElem (by rw [fill_length _ (by rw [List.length_append, List.length_take, le8_length]; omega)]; omega)]; rfl)⟩
      obtain ⟨v, dz⟩ := dz
      clear hst hIj hbj
      have hcase : j = 0 ∨ j = 1 ∨ j = 2 ∨ j = 3 ∨ j = 4 ∨ j = 5 ∨ j = 6 ∨ j = 7 := by omega
      rcases hcase with rfl | rfl | rfl | rfl | rfl | rfl | rfl | rfl
      · go_wp2
        rw [b8_0]
        exact ⟨⟨1, by omega, rfl, HX.out⟩, by simp [intOf]⟩
      · go_wp2
        rw [b8_1]
        exact ⟨⟨2, by omega, rfl, HX.out⟩, by simp [intOf]⟩
      · go_wp2
        rw [b8_2]
        exact ⟨⟨3, by omega, rfl, HX.out⟩, by simp [intOf]⟩
      · go_wp2
        rw [b8_3]
        exact ⟨⟨4, by omega, rfl, HX.out⟩, by simp [intOf]⟩
      · go_wp2
        rw [b8_4]
        exact ⟨⟨5, by omega, rfl, HX.out⟩, by simp [intOf]⟩
      · go_wp2
        rw [b8_5]
        exact ⟨⟨6, by omega, rfl, HX.out⟩, by simp [intOf]⟩
      · go_wp2
        rw [b8_6]
        exact ⟨⟨7, by omega, rfl, HX.out⟩, by simp [intOf]⟩
      · go_wp2
        rw [b8_7]
        exact ⟨⟨8, by omega, rfl, HX.out⟩, by simp [intOf]⟩
    · obtain rfl : j = 8 := by omega
      rw [show (le8 T).take 8 = le8 T from rfl] at hIj
      obtain ⟨P10, hP10⟩ : ∃ P10, P10 = P9 ++ le8 T := ⟨_, rfl⟩
      have hl10 : P10.length = 100 := by rw [hP10, List.length_append, hl9, le8_length]
      rw [← hP10] at hIj
      have HP10 := Lib.hid hP10
      clear hP10 hj hlt
      rw [show ((8 : Nat) : Int) = 8 from rfl]
      go_wp2_with fail
      refine wp_region_planT (fun w' => w' = wr.drew) [2] [(true, 0), (true, 1), (false, 2)] (by kernel_rfl) (by kernel_rfl) (rfl) ?_
      refine wpPlan_pure [0, 1] [(false, 2)] _ (by rfl) (by rfl) ?_
      dsimp only [List.filterMap, List.getElem?_cons_zero, List.getElem?_cons_succ]
      repeat (go_big_quiet_step (fail))
      refine wpQuiet_nil ?_
      refine wpPlan_forceL _ rfl ?_
      go_wp2_with fail
      refine (hfour_fill (s0 + 1 + 1 + 1) s0 100 156 (g1 + 1 + 1) 2 101 f P10 [14, 15] hl10 rfl rfl (by omega) wr.drew hIj.drew.raw (.inr ⟨_, hbj.drew⟩) hIj.drew.box HF.out.1 (by decide) (by omega)).mono ?_
      rintro e w11 ⟨rfl, hg11, hu11⟩
      have hI11 := hIj.drew.upd hu11 hg11
      clear hg11 hu11 hIj hbj
      go_wp2_with fail
      refine PlanQ.out (by rfl) ?_
      refine wpPlan_tidy ?_
      have HZ : Hid (fill (P10 ++ four_ f [14, 15]) = List.replicate 16 0 ++ Hd.rest f s) := Lib.hid (by
        have hl : (P10 ++ four_ f [14, 15]).length = 108 := by rw [List.length_append, hl10, four_length]; rfl
        unfold fill
        rw [HREST.out, hl, HP10.out, HP9.out, HP8.out, HP5.out, HS.out]
        unfold Hd.mid
        rw [HN.out.1, HN.out.2.1, HN.out.2.2]
        simp only [List.append_assoc, Int.toNat_natCast])
      have HL : Hid ((List.replicate 16 (0 : UInt8) ++ Hd.rest f s).length = 256) := Lib.hid (by rw [List.length_append, Hd.rest_length f s hs, List.length_replicate])
      rw [HZ.out] at hI11
      obtain ⟨R, hR⟩ : ∃ R, R = List.replicate 16 (0 : UInt8) ++ Hd.rest f s := ⟨_, rfl⟩
      rw [← hR] at hI11 HL
      have HR := Lib.hid hR
      clear hR
      go_wp2_with (first
        | ((with_reducible show wpList _ _ _ ((⟨some 47, _, _, _, _, _⟩ : Oper) :: _) _ _); refine wpList_load_blk (o := ⟨some 47, _, _, _, _, _⟩) (hI11.raw) (by rfl) _ _ (by rfl) (by rfl) _ Tryz.underlying101 (by rfl) (size256) (by simpa using HL.out) ?_)
        | ((with_reducible show wpList _ _ _ ((⟨none, _, _, _, _, _⟩ : Oper) :: _) _ _); refine wpList_store_blk (o := ⟨none, _, _, _, _, _⟩) (hI11.res) (by rfl) _ _ _ (by rfl) (by rfl) ((R.map u8v).toArray) (by rfl) (size256) (arr_size _ _) (by simpa using HL.out) (u8_all _) ?_; intro w12 h12 hu12; have HB12 := Lib.hid (hI11.bel.upd hu12 (by omega)))
        | fail)
      refine bodyPost_ret (results_cell_row (by rfl) _ _ _ _ _ _ _ (by rfl) h12 Tryz.underlying101 (by rfl) (by rw [size256]; simpa using HL.out.symm)) rfl ⟨by rw [HR.out], by rw [← HS0.out]; exact HB12.out⟩
end Go.Proofs.YtfoegmjpfkmggaaGreatDoor

/- A message's bytes, as the program lays them: one whose header may not be, or whose body is too long. Conditions: the body can be read. -/
namespace Go.Proofs.YtfoegmjpfkmggaaGreatDoor
open Go.RowKit
def msgc (f : HdF) (v : Value) : Array Value := arr 17 fun i => if i < 16 then hdv f i else v
theorem msgc_16 (f : HdF) (v : Value) : (msgc f v)[16]? = some v := by unfold msgc; rw [arr_at _ (by omega), if_neg (by omega)]
theorem msgc_hd (f : HdF) (v : Value) (i : Nat) (h : i < 16) : (msgc f v)[i]? = (hdc f)[i]? := by unfold msgc hdc; rw [arr_at _ (by omega), arr_at _ h, if_pos h]
theorem sizeHd : (Tryz.prog.info? 38).map (·.size) = some 16 := by kernel_rfl
theorem sizeMsg : (Tryz.prog.info? 41).map (·.size) = some 17 := by kernel_rfl
theorem hdc_size (f : HdF) : (hdc f).size = 16 := arr_size _ _
theorem hdc_one (f : HdF) : (hdc f).all (·.oneCell') = true := by
  rw [Array.all_eq_true]
  intro i hi
  have h := hdc_size f
  have : (hdc f)[i]? = some (hdv f i) := arr_at _ (by omega)
  rw [Array.getElem?_eq_getElem hi] at this
  rw [Option.some.inj this]
  unfold hdv; split <;> rfl
theorem hd_range {w : World} {g : Nat} {t : TypeId} {f : HdF} {v : Value} (h : Blk w g t (msgc f v)) : w.rangeAt g 0 (hdc f).toList := Blk.range h 0 _ fun j u hu => by
  rw [Array.getElem?_toList] at hu
  have hj : j < 16 := by
    rcases Nat.lt_or_ge j 16 with h1 | h1
    · exact h1
    · rw [Array.getElem?_eq_none (by rw [hdc_size]; omega)] at hu; cases hu
  rw [Nat.zero_add, msgc_hd f v j hj]; exact hu
def zeroHd : HdF := fun _ => 0
theorem zeroHd_cells : hdc zeroHd = #[.int .i64 0, .int .i64 0, .int .i64 0, .int .i64 0, .int .i64 0, .int .i64 0, .int .i64 0, .int .i64 0, .int .i64 0, .int .u64 0, .int .u64 0, .int .i64 0, .int .i64 0, .int .u64 0, .int .i64 0, .int .i64 0] := by
  rfl
theorem hseal_long (f : HdF) (A : Option Addr) (c : Nat) (body : List UInt8) (w : World) (hlong : 1024 < body.length) :
    Calls Tryz.prog 77 #[.agg (msgc f (.slice A body.length c))] w fun e w' => e = .returned (.tuple #[.slice none 0 0, .int .i64 3]) ∧ Below w.heap.size w w' := by
  have hg := Blk.new w 41 (msgc f (.slice A body.length c))
  have hB := Lib.hid ((Below.refl w.heap.size w).alloc (Nat.le_refl _) (.cells (msgc f (.slice A body.length c)) 41))
  have d16 := hg.at_ 16 (msgc_16 f _)
  clear hg
  go_enter Tryz.func77, Tryz.ntmps77
  go_wp2
  go_ret2
  exact ⟨rfl, hB.out⟩
set_option maxHeartbeats 1000000 in
theorem hseal_no (f : HdF) (A : Option Addr) (c : Nat) (body : List UInt8) (w : World) (hlong : body.length ≤ 1024) (hno : Hd.ok (setF f 2 body.length) = false) :
    Calls Tryz.prog 77 #[.agg (msgc f (.slice A body.length c))] w fun e w' => e = .returned (.tuple #[.slice none 0 0, .int .i64 2]) ∧ Below w.heap.size w w' := by
  have hg := Blk.new w 41 (msgc f (.slice A body.length c))
  have hB := Lib.hid ((Below.refl w.heap.size w).alloc (Nat.le_refl _) (.cells (msgc f (.slice A body.length c)) 41))
  have d16 := hg.at_ 16 (msgc_16 f _)
  have HR := Lib.hid (hd_range hg)
  have HG := Lib.hid hg
  have HNO := Lib.hid hno
  clear hg hno
  go_enter Tryz.func77, Tryz.ntmps77
  go_wp2_with (first
    | (show wpList _ _ _ ((⟨some 14, _, _, _, _, _⟩ : Oper) :: _) _ _; refine wpList_load_mid (o := ⟨some 14, _, _, _, _, _⟩) HR.out (by rfl) _ _ (by rfl) (by rfl) _ Tryz.underlying38 (by rfl) sizeHd (by rw [Array.length_toList, hdc_size]) ?_; rw [Array.toArray_toList]; clear HR d16; generalize World.alloc w _ = w1 at HG hB ⊢; have hlt := HG.out.lt)
    | ((with_reducible show wpList _ _ _ ((⟨none, _, _, _, _, _⟩ : Oper) :: _) _ _); refine wpList_store_blk (o := ⟨none, _, _, _, _, _⟩) ((Blk.new w1 38 #[.int .i64 0, .int .i64 0, .int .i64 0, .int .i64 0, .int .i64 0, .int .i64 0, .int .i64 0, .int .i64 0, .int .i64 0, .int .u64 0, .int .u64 0, .int .i64 0, .int .i64 0, .int .u64 0, .int .i64 0, .int .i64 0]).sub zeroHd_cells.symm) (by rfl) _ _ _ (by rfl) (by rfl) (hdc f) (by rfl) (sizeHd) (hdc_size _) (hdc_size _) (hdc_one _) ?_; intro w2 h2 hu2; have hbx := ((Below.refl w1.heap.size w1).alloc (Nat.le_refl _) (.cells #[.int .i64 0, .int .i64 0, .int .i64 0, .int .i64 0, .int .i64 0, .int .i64 0, .int .i64 0, .int .i64 0, .int .i64 0, .int .u64 0, .int .u64 0, .int .i64 0, .int .i64 0, .int .u64 0, .int .i64 0, .int .i64 0] 38)).upd hu2 (Nat.le_refl _); have HG2 := Lib.hid (HG.out.below hbx hlt); have HB2 := Lib.hid (hB.out.trans (hbx.mono hB.out.size)); have d16 := HG2.out.at_ 16 (msgc_16 f _); have fz := h2.frozen 2; have dz := h2.at_ 2 (hdc_at f 2 (by omega) (by omega) (by omega) (by omega)); have HS := Lib.hid (And.intro ((h2.set_ 2 (.int .i64 (body.length : Nat))).sub (hdc_set f 2 _ (by omega) (by omega) (by omega))) (And.intro (HG2.out.off (c := w1.heap.size) (i := 2) (by omega) (.int .i64 (body.length : Nat))) (HB2.out.set_ (c := w1.heap.size) (i := 2) (by omega) (.int .i64 (body.length : Nat))))); clear hu2 hbx HG hB HG2 HB2 h2)
    | (show wpList _ _ _ ((⟨some 19, _, _, _, _, _⟩ : Oper) :: _) _ _; clear fz dz d16; generalize World.setCell w2 _ _ = w3 at HS ⊢; generalize w1.heap.size = hb at HS hlt ⊢; obtain ⟨hh, hG, hB⟩ := HS.out; clear HS; ((with_reducible show wpList _ _ _ ((⟨some 19, _, _, _, _, _⟩ : Oper) :: _) _ _); refine wpList_load_blk (o := ⟨some 19, _, _, _, _, _⟩) (hh) (by rfl) _ _ (by rfl) (by rfl) _ Tryz.underlying38 (by rfl) (sizeHd) (hdc_size _) ?_))
    | fail)
  refine (hcheck_any _ w3).mono ?_
  rintro e w4 ⟨rfl, hbx⟩
  (replace hB := hB.trans (hbx.mono hB.size); clear hbx hG hh)
  rw [show Hd.code (setF f 2 body.length) = 2 by unfold Hd.code; rw [HNO.out]; rfl]
  go_wp2
  go_ret2
  exact ⟨rfl, hB⟩
end Go.Proofs.YtfoegmjpfkmggaaGreatDoor

/- A message's bytes, as the program lays them. Conditions: the body can be read; the header may be. -/
namespace Go.Proofs.YtfoegmjpfkmggaaGreatDoor
open Go.RowKit
theorem Hd.ok_all {f : HdF} (h : Hd.ok f = true) : Hd.nat f := Hd.ok_nat h
theorem setF_in (f : HdF) (v : Int) (h : Hd.in_ f) : Hd.in_ (setF f 2 v) := by
  unfold Hd.in_ setF at *
  simp only [show ¬ (9 = 2) by omega, show ¬ (10 = 2) by omega, show ¬ (13 = 2) by omega, if_false]
  exact h
set_option maxRecDepth 100000 in
set_option maxHeartbeats 4000000 in
theorem hseal_ok (f : HdF) (A : Option Addr) (c : Nat) (body : List UInt8) (w : World) (hby : Bytes w A body) (hc : body.length ≤ c ∧ c ≤ 9223372036854775807) (hlong : body.length ≤ 1024) (hok : Hd.ok (setF f 2 body.length) = true) (hin : Hd.in_ f) :
    Calls Tryz.prog 77 #[.agg (msgc f (.slice A body.length c))] w fun e w' => ∃ g, e = .returned (.tuple #[.slice (some ⟨g, 0, none⟩) (256 + body.length) (256 + body.length), .int .i64 0]) ∧ w.heap.size ≤ g ∧
      Blk w' g 5 ((Hd.bytes (setF f 2 body.length) body).map u8v).toArray ∧ Below w.heap.size w w' := by
  have hg := Blk.new w 41 (msgc f (.slice A body.length c))
  have hB := Lib.hid ((Below.refl w.heap.size w).alloc (Nat.le_refl _) (.cells (msgc f (.slice A body.length c)) 41))
  have d16 := hg.at_ 16 (msgc_16 f _)
  have HR := Lib.hid (hd_range hg)
  have HG := Lib.hid hg
  have HOK := Lib.hid (And.intro hok (setF_in f body.length hin))
  have HC := Lib.hid hc
  clear hg hok hin hc
  go_enter Tryz.func77, Tryz.ntmps77
  go_wp2_with (first
    | (show wpList _ _ _ ((⟨some 14, _, _, _, _, _⟩ : Oper) :: _) _ _; refine wpList_load_mid (o := ⟨some 14, _, _, _, _, _⟩) HR.out (by rfl) _ _ (by rfl) (by rfl) _ Tryz.underlying38 (by rfl) sizeHd (by rw [Array.length_toList, hdc_size]) ?_; rw [Array.toArray_toList]; clear HR d16; generalize World.alloc w _ = w1 at HG hB ⊢; have hlt := HG.out.lt)
    | ((with_reducible show wpList _ _ _ ((⟨none, _, _, _, _, _⟩ : Oper) :: _) _ _); refine wpList_store_blk (o := ⟨none, _, _, _, _, _⟩) ((Blk.new w1 38 #[.int .i64 0, .int .i64 0, .int .i64 0, .int .i64 0, .int .i64 0, .int .i64 0, .int .i64 0, .int .i64 0, .int .i64 0, .int .u64 0, .int .u64 0, .int .i64 0, .int .i64 0, .int .u64 0, .int .i64 0, .int .i64 0]).sub zeroHd_cells.symm) (by rfl) _ _ _ (by rfl) (by rfl) (hdc f) (by rfl) (sizeHd) (hdc_size _) (hdc_size _) (hdc_one _) ?_; intro w2 h2 hu2; have hbx := ((Below.refl w1.heap.size w1).alloc (Nat.le_refl _) (.cells #[.int .i64 0, .int .i64 0, .int .i64 0, .int .i64 0, .int .i64 0, .int .i64 0, .int .i64 0, .int .i64 0, .int .i64 0, .int .u64 0, .int .u64 0, .int .i64 0, .int .i64 0, .int .u64 0, .int .i64 0, .int .i64 0] 38)).upd hu2 (Nat.le_refl _); have HG2 := Lib.hid (HG.out.below hbx hlt); have HB2 := Lib.hid (hB.out.trans (hbx.mono hB.out.size)); have d16 := HG2.out.at_ 16 (msgc_16 f _); have fz := h2.frozen 2; have dz := h2.at_ 2 (hdc_at f 2 (by omega) (by omega) (by omega) (by omega)); have HS := Lib.hid (And.intro ((h2.set_ 2 (.int .i64 (body.length : Nat))).sub (hdc_set f 2 _ (by omega) (by omega) (by omega))) (And.intro (HG2.out.off (c := w1.heap.size) (i := 2) (by omega) (.int .i64 (body.length : Nat))) (HB2.out.set_ (c := w1.heap.size) (i := 2) (by omega) (.int .i64 (body.length : Nat))))); clear hu2 hbx HG hB HG2 HB2 h2)
    | (show wpList _ _ _ ((⟨some 19, _, _, _, _, _⟩ : Oper) :: _) _ _; clear fz dz d16; generalize World.setCell w2 _ _ = w3 at HS ⊢; generalize w1.heap.size = hb at HS hlt ⊢; obtain ⟨hh, hG, hB⟩ := HS.out; clear HS; ((with_reducible show wpList _ _ _ ((⟨some 19, _, _, _, _, _⟩ : Oper) :: _) _ _); refine wpList_load_blk (o := ⟨some 19, _, _, _, _, _⟩) (hh) (by rfl) _ _ (by rfl) (by rfl) _ Tryz.underlying38 (by rfl) (sizeHd) (hdc_size _) ?_))
    | fail)
  have HBY := Lib.hid hby
  replace hby := Bytes.below hby hB
  refine (hcheck_any _ w3).mono ?_
  rintro e w4 ⟨rfl, hbx⟩
  (replace hby := keep hbx hby; replace hh := keep hbx hh; replace hG := keep hbx hG; replace hB := hB.trans (hbx.mono hB.size); clear hbx)
  rw [show Hd.code (setF f 2 body.length) = 0 by unfold Hd.code; rw [HOK.out.1]; rfl]
  have hs16 := Sha.sum_length body
  obtain ⟨fx, hfx⟩ : ∃ fx, fx = setF f 2 body.length := ⟨_, rfl⟩
  rw [← hfx] at hh HOK ⊢
  have HFX := Lib.hid hfx
  have HSS := Lib.hid hs16
  clear hfx hs16
  obtain ⟨L, hL⟩ : ∃ L, L = List.replicate 16 (0 : UInt8) ++ Hd.rest fx (Sha.sum body) := ⟨_, rfl⟩
  have HL := Lib.hid hL
  clear hL
  have hcSum : ∀ w', Below w4.heap.size w4 w' → Calls Tryz.prog 118 #[.slice A body.length c] w' fun e w'' => e = .returned (.agg ((Sha.sum body).map u8v).toArray) ∧ Below w'.heap.size w' w'' := fun w' hw' =>
    sum_any A c body HC.out.1 ⟨by omega, HC.out.2⟩ w' (Bytes.below hby hw')
  have hcLaid : ∀ w', Calls Tryz.prog 117 #[.agg (hdc fx), .agg ((Sha.sum body).map u8v).toArray] w' fun e w'' => e = .returned (.agg (L.map u8v).toArray) ∧ Below w'.heap.size w' w'' := fun w' => by
    rw [HL.out]
    exact hlaid_any fx (Sha.sum body) HSS.out (Hd.ok_all HOK.out.1) HOK.out.2 w'
  have HLL : Hid (L.length = 256) := Lib.hid (by rw [HL.out, List.length_append, Hd.rest_length fx _ HSS.out, List.length_replicate])
  have a256 := alloc256
  go_wp2_with fail
  refine wp_region_tree (Below w4.heap.size w4) [] (PlanT.takes [1] (PlanT.takes [0, 2] (.opt 3 (.opt 4 (.opt 5 (.opt 6 .done .no) .no) (.opt 5 (.opt 4 (.opt 6 .done .no) .no) .no)) (.opt 5 (.opt 3 (.opt 4 (.opt 6 .done .no) .no) .no) .no)))) (by kernel_rfl) (by kernel_rfl) ((Below.refl _ _).drew) ?_
  refine wpTree_pure _ _ _ (by rfl) (by rfl) ?_
  dsimp only [List.filterMap, List.getElem?_cons_zero, List.getElem?_cons_succ]
  repeat (go_big_quiet_step (fail))
  refine wpQuiet_nil ?_
  refine wpTree_takeL _ _ _ (by rfl) (by rfl) ((Below.refl _ _).drew) ?_
  dsimp only [List.filterMap, List.getElem?_cons_zero, List.getElem?_cons_succ]
  (refine wpQuiet_load_blk (fun w' hw' => hh.below hw' hh.lt) (by rfl) _ _ (by rfl) (by rfl) _ Tryz.underlying38 (by rfl) (sizeHd) (hdc_size _) ?_; simp only [Act.put, List.setIfInBounds_toArray, List.set_cons_zero, List.set_cons_succ])
  (refine wpQuiet_load_cell (fun w' hw' => (hG.below hw' hG.lt).at_ 16 (msgc_16 f _)) (by rfl) _ _ (by rfl) (by rfl) _ Tryz.underlying39 (by rfl) ?_; simp only [Act.put, List.setIfInBounds_toArray, List.set_cons_zero, List.set_cons_succ])
  refine wpQuiet_nil ?_
  apply share (α := Nat) (F := fun gb wZ => Blk wZ gb 101 (L.map u8v).toArray ∧ Below w4.heap.size w4 wZ ∧ w4.heap.size ≤ gb)
  · intro KK
    refine wpTree_opt _ rfl ?_ (wpTree_one _ rfl ?_)
    · go_wp2_with fail
      refine (hcSum _ (Below.refl _ _).drew).mono ?_
      rintro e w5 ⟨rfl, hb5⟩
      have hc5 : Below w4.heap.size w4 w5 := (Below.refl _ _).drew.trans (hb5.mono (Nat.le_refl _))
      go_wp2_with fail
      refine TreeQ.in_ hc5 ?_
      refine wpTree_opt _ rfl ?_ (wpTree_one _ rfl ?_)
      · go_wp2_with fail
        refine (hcLaid w5).mono ?_
        rintro e w6 ⟨rfl, hb6⟩
        have hc6 := hc5.trans (hb6.mono hc5.size)
        go_wp2_with fail
        refine TreeQ.in_ hc6 ?_
        refine wpTree_one _ rfl ?_
        go_wp2_with fail
        refine TreeQ.in_ (hc6.alloc hc6.size _) ?_
        refine wpTree_one _ rfl ?_
        go_wp2_with (first
          | ((with_reducible show wpList _ _ _ ((⟨none, _, _, _, _, _⟩ : Oper) :: _) _ _); refine wpList_store_blk (o := ⟨none, _, _, _, _, _⟩) (Blk.new w6 101 zero256) (by rfl) _ _ _ (by rfl) (by rfl) ((L.map u8v).toArray) (by rfl) (size256) (arr_size _ _) (by simpa using HLL.out) (u8_all _) ?_; intro w7 h7 hu7)
          | fail)
        have hc7 := (hc6.alloc hc6.size _).upd hu7 hc6.size
        refine TreeQ.in_ hc7 ?_
        refine wpTree_done ?_
        have hge := hc6.size
        generalize w6.heap.size = gb at *
        exact KK gb w7 ⟨h7, hc7, hge⟩
      · go_wp2_with fail
        have hc6 := hc5.alloc hc5.size (.cells zero256 101)
        have h6 := Blk.new w5 101 zero256
        have hge := hc5.size
        generalize hwx : w5.alloc (.cells zero256 101) = wx at hc6 h6 ⊢
        clear hwx
        generalize w5.heap.size = gb at *
        refine TreeQ.in_ hc6 ?_
        refine wpTree_one _ rfl ?_
        go_wp2_with fail
        refine (hcLaid wx).mono ?_
        rintro e w6 ⟨rfl, hb6⟩
        have h7 := keep hb6 h6
        have hc7 := hc6.trans (hb6.mono hc6.size)
        go_wp2_with fail
        refine TreeQ.in_ hc7 ?_
        refine wpTree_one _ rfl ?_
        go_wp2_with (first
          | ((with_reducible show wpList _ _ _ ((⟨none, _, _, _, _, _⟩ : Oper) :: _) _ _); refine wpList_store_blk (o := ⟨none, _, _, _, _, _⟩) (h7) (by rfl) _ _ _ (by rfl) (by rfl) ((L.map u8v).toArray) (by rfl) (size256) (arr_size _ _) (by simpa using HLL.out) (u8_all _) ?_; intro w8 h8 hu8)
          | fail)
        have hc8 := hc7.upd hu8 hge
        refine TreeQ.in_ hc8 ?_
        refine wpTree_done ?_
        exact KK gb w8 ⟨h8, hc8, hge⟩
    · go_wp2_with fail
      have hc6 : Below w4.heap.size w4 (w4.alloc (.cells zero256 101)).drew := ((Below.refl _ _).alloc (Nat.le_refl _) _).drew
      have h6 : Blk (w4.alloc (.cells zero256 101)).drew w4.heap.size 101 zero256 := (Blk.new w4 _ _).drew
      have hge : w4.heap.size ≤ w4.heap.size := Nat.le_refl _
      generalize hwx : (w4.alloc (.cells zero256 101)).drew = wx at hc6 h6 ⊢
      clear hwx
      refine TreeQ.in_ hc6 ?_
      refine wpTree_one _ rfl ?_
      go_wp2_with fail
      refine (hcSum _ hc6).mono ?_
      rintro e w5 ⟨rfl, hb5⟩
      replace h6 := keep hb5 h6
      have hc5 := hc6.trans (hb5.mono hc6.size)
      go_wp2_with fail
      refine TreeQ.in_ hc5 ?_
      refine wpTree_one _ rfl ?_
      go_wp2_with fail
      refine (hcLaid w5).mono ?_
      rintro e w6 ⟨rfl, hb6⟩
      have h7 := keep hb6 h6
      have hc7 := hc5.trans (hb6.mono hc5.size)
      go_wp2_with fail
      refine TreeQ.in_ hc7 ?_
      refine wpTree_one _ rfl ?_
      go_wp2_with (first
        | ((with_reducible show wpList _ _ _ ((⟨none, _, _, _, _, _⟩ : Oper) :: _) _ _); refine wpList_store_blk (o := ⟨none, _, _, _, _, _⟩) (h7) (by rfl) _ _ _ (by rfl) (by rfl) ((L.map u8v).toArray) (by rfl) (size256) (arr_size _ _) (by simpa using HLL.out) (u8_all _) ?_; intro w8 h8 hu8)
        | fail)
      have hc8 := hc7.upd hu8 hge
      refine TreeQ.in_ hc8 ?_
      refine wpTree_done ?_
      exact KK w4.heap.size w8 ⟨h8, hc8, hge⟩
  · clear hcSum hcLaid a256
    rintro gb wZ ⟨hgb, hbx, hge⟩
    have hBZ := hB.trans (hbx.mono hB.size)
    have hmb := hG.lt
    have hsz := hB.size
    (replace hG := keep hbx hG)
    clear hbx hh hB hby
    have hR : Bytes wZ (some ⟨gb, 16, none⟩) (Hd.rest fx (Sha.sum body)) := by
      have h := hgb.bytes.drop (k := 16) (cap := 256) (.inl (by omega))
      rw [if_neg (by omega)] at h
      rw [HL.out, show (List.replicate 16 (0 : UInt8) ++ Hd.rest fx (Sha.sum body)).drop 16 = Hd.rest fx (Sha.sum body) from List.drop_left (l₁ := List.replicate 16 (0 : UInt8))] at h
      simpa [Addr.add_lit] using h
    obtain ⟨R, hRR⟩ : ∃ R, R = Hd.rest fx (Sha.sum body) := ⟨_, rfl⟩
    have hRl : R.length = 240 := by rw [hRR, Hd.rest_length fx _ HSS.out]
    have HRL := Lib.hid hRl
    have HLR : Hid (L = List.replicate 16 0 ++ R) := Lib.hid (by rw [HL.out, hRR])
    have HRR := Lib.hid hRR
    rw [← hRR] at hR
    have hcs := sum_any (some ⟨gb, 16, none⟩) 240 R (by omega) ⟨by omega, by omega⟩ wZ hR
    rw [hRl] at hcs
    clear hRR hRl hR
    go_wp2_with fail
    refine hcs.mono ?_
    clear hcs
    rintro e w5 ⟨rfl, hb5⟩
    (replace hG := keep hb5 hG; replace hgb := keep hb5 hgb; replace hBZ := hBZ.trans (hb5.mono hBZ.size); clear hb5)
    have hs16 := Sha.sum_length R
    obtain ⟨S, hS⟩ : ∃ S, S = Sha.sum R := ⟨_, rfl⟩
    rw [← hS] at hs16 ⊢
    have HS := Lib.hid hS
    clear hS
    have a16 := alloc16
    go_wp2_with (first
      | ((with_reducible show wpList _ _ _ ((⟨none, _, _, _, _, _⟩ : Oper) :: _) _ _); refine wpList_store_blk (o := ⟨none, _, _, _, _, _⟩) (Blk.new w5 150 zero16) (by rfl) _ _ _ (by rfl) (by rfl) (S.map u8v).toArray (by rfl) size16 (arr_size _ _) (by simp [hs16]) (u8_all _) ?_; intro w6 h6 hux; have hbx := ((Below.refl _ _).alloc (Nat.le_refl _) (.cells zero16 150)).upd hux (Nat.le_refl w5.heap.size); replace hG := keep hbx hG; replace hgb := keep hbx hgb; replace hBZ := hBZ.trans (hbx.mono hBZ.size); clear hux hbx)
      | fail)
    simp only [Act.put]
    clear a16
    refine wp_region_planT (fun _ => True) [2] [(true, 0), (true, 1), (false, 2)] (by kernel_rfl) (by kernel_rfl) (trivial) ?_
    refine wpPlan_pure [0, 1] [(false, 2)] _ (by rfl) (by rfl) ?_
    dsimp only [List.filterMap, List.getElem?_cons_zero, List.getElem?_cons_succ]
    repeat (go_big_quiet_step (fail))
    refine wpQuiet_nil ?_
    refine wpPlan_forceL _ rfl ?_
    refine wpList_copy_at (by rfl) _ _ _ _ (by rfl) 5 Tryz.underlying39 size1 gb 0 256 256 (some ⟨w5.heap.size, 0, none⟩) 16 16 (by rfl) (by rfl) _ S _ hgb.drew hs16 h6.drew.bytes (by rw [HLL.out, hs16]; omega) (by omega) ?_
    intro w7 hg7 hu7
    have hX : Hid (L.take 0 ++ (S ++ L.drop (0 + S.length)) = Hd.head fx (Sha.sum body)) := Lib.hid (by
      rw [List.take_zero, List.nil_append, Nat.zero_add, hs16, HLR.out, HS.out, HRR.out]
      unfold Hd.head
      congr 1)
    rw [hX.out] at hg7
    have hHl : Hid ((Hd.head fx (Sha.sum body)).length = 256) := Lib.hid (Hd.head_length fx _ HSS.out)
    obtain ⟨D, hD⟩ : ∃ D, D = Hd.head fx (Sha.sum body) := ⟨_, rfl⟩
    rw [← hD] at hg7 hHl
    have HD := Lib.hid hD
    have hne : w.heap.size ≠ gb := by omega
    have hBw : w.heap.size ≤ gb := by omega
    replace hBZ := hBZ.drew.upd hu7 hBw
    replace hG := hG.drew.upd hu7 hne
    have hby := Bytes.below HBY.out hBZ
    have d16 := hG.at_ 16 (msgc_16 f _)
    clear hD hne hBw hu7 h6 hgb hX
    refine wpList_nil ?_
    refine PlanQ.out (by rfl) ?_
    refine wpPlan_tidy ?_
    simp only [Act.put, List.setIfInBounds_toArray, List.set_cons_zero, List.set_cons_succ]
    go_wp2_with (first
      | ((with_reducible show wpList _ _ _ ((⟨some 38, _, _, _, _, _⟩ : Oper) :: _) _ _); refine wpList_make_bytes (o := ⟨some 38, _, _, _, _, _⟩) _ (by rfl) _ _ _ (by rfl) _ Tryz.underlying39 u8info .i64 .i64 _ _ (0) (256 + body.length) (by rfl) (by rfl) (by first | rfl | omega) (by first | rfl | omega) (by omega) (by omega) ?_; intro w8 h8 hb8 hs8)
      | fail)
    replace hg7 := keep hb8 hg7
    replace hG := keep hb8 hG
    replace hBZ := hBZ.trans (hb8.mono hBZ.size)
    have hgo : w.heap.size ≤ w7.heap.size := by have := hmb; have := h8.lt; have := hG.lt; omega
    have hmo : w.heap.size ≠ w7.heap.size := by have := hmb; intro e; have h1 := hG; rw [e] at h1; have h2 := h1.symm.trans h8; simp at h2
    have hgo2 : gb ≠ w7.heap.size := by intro e; have h1 := hg7; rw [e] at h1; have h2 := h1.symm.trans h8; simp at h2
    generalize w7.heap.size = go at *
    have d16 := hG.at_ 16 (msgc_16 f _)
    have hby := Bytes.below HBY.out hBZ
    clear hb8 hs8 HRL HLR HRR HS hs16 HLL HL hge hsz hlt
    refine wp_region_planT (fun w' => w'.cell? ⟨w.heap.size, 16, none⟩ = some (.slice A body.length c)) [] [(true, 0), (true, 1), (true, 3), (true, 4), (false, 2), (false, 5), (true, 6), (true, 7)] (by kernel_rfl) (by kernel_rfl) (d16) ?_
    refine wpPlan_pure [0, 1, 3] [(true, 4), (false, 2), (false, 5), (true, 6), (true, 7)] _ (by rfl) (by rfl) ?_
    dsimp only [List.filterMap, List.getElem?_cons_zero, List.getElem?_cons_succ]
    repeat (go_big_quiet_step (fail))
    refine wpQuiet_nil ?_
    refine wpPlan_takeL [4] [(false, 2), (false, 5), (true, 6), (true, 7)] _ (by rfl) (by rfl) (d16) ?_
    dsimp only [List.filterMap, List.getElem?_cons_zero, List.getElem?_cons_succ]
    (refine wpQuiet_load_cell (fun w' hw' => hw') (by rfl) _ _ (by rfl) (by rfl) _ Tryz.underlying39 (by rfl) ?_; simp only [Act.put, List.setIfInBounds_toArray, List.set_cons_zero, List.set_cons_succ])
    refine wpQuiet_nil ?_
    refine wpPlan_forceL _ rfl ?_
    refine wpList_append_room (by rfl) _ _ _ (by rfl) _ Tryz.underlying39 u8info go 0 (256 + body.length) [] (List.replicate (256 + body.length) 0) rfl (by rfl) h8.drew (by rw [List.length_replicate, Nat.zero_add]) (some ⟨gb, 0, none⟩) 256 256 D hHl.out (by rfl) hg7.drew.bytes (by rw [List.length_replicate]; omega) ?_
    intro w9 h9 hu9
    have hG9 := hG.drew.upd hu9 hmo
    have hB9 := hBZ.drew.upd hu9 hgo
    have e9 : Hid (([] : List UInt8) ++ (D ++ (List.replicate (256 + body.length) (0 : UInt8)).drop 256) = D ++ List.replicate body.length 0) := Lib.hid (by rw [List.nil_append, List.drop_replicate, Nat.add_sub_cancel_left])
    rw [e9.out] at h9
    have hby9 := Bytes.below HBY.out hB9
    have d16 := hG9.at_ 16 (msgc_16 f _)
    clear e9 hu9 h8 hG hBZ hg7
    refine wpList_nil ?_
    refine PlanQ.in_ d16 ?_
    simp only [Act.put, List.setIfInBounds_toArray, List.set_cons_zero, List.set_cons_succ]
    refine wpPlan_forceL _ rfl ?_
    refine wpList_append_room (by rfl) _ _ _ (by rfl) _ Tryz.underlying39 u8info go (0 + 256) (256 + body.length) D (List.replicate body.length 0) (by rw [hHl.out]) (by rfl) h9 (by rw [List.length_replicate, Nat.zero_add]) A body.length c body rfl (by rfl) hby9 (by rw [List.length_replicate]; omega) ?_
    intro w10 h10 hu10
    have hG10 := hG9.upd hu10 hmo
    have hB10 := hB9.upd hu10 hgo
    rw [show body ++ (List.replicate body.length (0 : UInt8)).drop body.length = body by rw [List.drop_replicate, Nat.sub_self]; simp] at h10
    have d16 := hG10.at_ 16 (msgc_16 f _)
    clear hu10 h9 hG9 hB9 hby9
    refine wpList_nil ?_
    refine PlanQ.in_ d16 ?_
    simp only [Act.put, List.setIfInBounds_toArray, List.set_cons_zero, List.set_cons_succ]
    refine wpPlan_pure [6, 7] [] _ (by rfl) (by rfl) ?_
    dsimp only [List.filterMap, List.getElem?_cons_zero, List.getElem?_cons_succ]
    repeat (go_big_quiet_step (fail))
    refine wpQuiet_nil ?_
    refine wpPlan_tidy ?_
    have HX := Lib.hid (And.intro h10 hB10)
    clear h10 hB10 hG10 d16 hby
    go_wp2
    go_ret2
    refine ⟨go, ?_, hgo, ?_, HX.out.2⟩
    · simp
    · refine HX.out.1.sub ?_
      rw [HD.out, HFX.out]; rfl
end Go.Proofs.YtfoegmjpfkmggaaGreatDoor

/- The fields that a header's bytes say, as the program reads them one run behind the other. Plain facts. No condition. -/
namespace Go.Proofs.YtfoegmjpfkmggaaGreatDoor
open Go.RowKit
theorem getD_drop (l : List UInt8) (k p : Nat) : (l.drop k).getD p 0 = l.getD (k + p) 0 := by
  simp [List.getD_eq_getElem?_getD, List.getElem?_drop]
theorem getD_take (l : List UInt8) (k p : Nat) (h : p < k) : (l.take k).getD p 0 = l.getD p 0 := by
  simp [List.getD_eq_getElem?_getD, h]
theorem at4_drop (l : List UInt8) (k p : Nat) : at4 (l.drop k) p = at4 l (k + p) := by
  unfold at4; rw [getD_drop, getD_drop, getD_drop, getD_drop]; simp only [Nat.add_assoc]
theorem at8_drop (l : List UInt8) (k p : Nat) : at8 (l.drop k) p = at8 l (k + p) := by
  unfold at8; rw [at4_drop, at4_drop]; simp only [Nat.add_assoc]
theorem at4_take (l : List UInt8) (k p : Nat) (h : p + 3 < k) : at4 (l.take k) p = at4 l p := by
  unfold at4; rw [getD_take _ _ _ (by omega), getD_take _ _ _ (by omega), getD_take _ _ _ (by omega), getD_take _ _ _ (by omega)]
theorem at8_take (l : List UInt8) (k p : Nat) (h : p + 7 < k) : at8 (l.take k) p = at8 l p := by
  unfold at8; rw [at4_take _ _ _ (by omega), at4_take _ _ _ (by omega)]
theorem hdc_setU (f : HdF) (i : Nat) (v : Int) (h : i = 9 ∨ i = 10 ∨ i = 13) : (hdc f).setIfInBounds i (.int .u64 v) = hdc (setF f i v) := by
  unfold hdc
  rw [arr_set]
  refine arr_congr fun j _ => ?_
  unfold hdv setF
  by_cases e : j = i
  · subst e; rw [if_pos rfl, if_pos h, if_pos rfl]
  · rw [if_neg e, if_neg e]
theorem hdc_congr {f g : HdF} (h : ∀ i, i < 16 → f i = g i) : hdc f = hdc g := arr_congr fun i hi => by unfold hdv; rw [h i hi]
def Hd.f1 (raw : List UInt8) : HdF := stepsF zeroHd (raw.drop 32) [0, 1, 2, 3, 4, 5, 6, 7, 8] 9
def Hd.f2 (raw : List UInt8) : HdF := setF (setF (Hd.f1 raw) 9 (at8 raw 76)) 10 (at8 raw 68)
def Hd.f3 (raw : List UInt8) : HdF := stepsF (Hd.f2 raw) (raw.drop 84) [11, 12] 2
def Hd.f4 (raw : List UInt8) : HdF := setF (Hd.f3 raw) 13 (at8 raw 92)
def Hd.f5 (raw : List UInt8) : HdF := stepsF (Hd.f4 raw) (raw.drop 100) [14, 15] 2
theorem Hd.f5_parse (raw : List UInt8) : hdc (Hd.f5 raw) = hdc (Hd.parse raw) := hdc_congr fun i hi => by
  have : i = 0 ∨ i = 1 ∨ i = 2 ∨ i = 3 ∨ i = 4 ∨ i = 5 ∨ i = 6 ∨ i = 7 ∨ i = 8 ∨ i = 9 ∨ i = 10 ∨ i = 11 ∨ i = 12 ∨ i = 13 ∨ i = 14 ∨ i = 15 := by omega
  rcases this with rfl | rfl | rfl | rfl | rfl | rfl | rfl | rfl | rfl | rfl | rfl | rfl | rfl | rfl | rfl | rfl <;>
    simp [Hd.f5, Hd.f4, Hd.f3, Hd.f2, Hd.f1, stepsF, setF, Hd.parse, at4_drop]
theorem Hd.f3_13 (raw : List UInt8) : Hd.f3 raw 13 = 0 := by simp [Hd.f3, Hd.f2, Hd.f1, stepsF, setF, zeroHd]
theorem Hd.parse_nat (raw : List UInt8) : Hd.nat (Hd.parse raw) := by
  intro i hi
  have h : ∀ p, (0 : Int) ≤ (at4 raw p : Int) ∧ (at4 raw p : Int) < 4294967296 := fun p => by have := at4_lt raw p; omega
  simp only [thirteen, List.mem_cons, List.not_mem_nil, or_false] at hi
  rcases hi with rfl | rfl | rfl | rfl | rfl | rfl | rfl | rfl | rfl | rfl | rfl | rfl | rfl <;> (simp only [Hd.parse]; exact h _)
/-- A run of fields read. -/
theorem hfours_at (b bo cap hb n pb m o : Nat) (f : HdF) (raw : List UInt8) (idx : List Nat) (hr : raw.length = n + o) (hm : idx.length = m) (h4 : 4 * m ≤ n) (hlen : n ≤ 1000000) (w : World)
    (hraw : Bytes w (some ⟨b, bo, none⟩) (raw.drop o)) (hg : Blk w hb 38 (hdc f)) (hp : ∃ t, Blk w pb t (pts hb idx)) (hi : ∀ i ∈ idx, i ∈ thirteen) (hne : pb ≠ hb ∧ b ≠ hb) (hm0 : 0 < m) :
    Calls Tryz.prog 136 #[.slice (some ⟨b, bo, none⟩) n cap, .slice (some ⟨pb, 0, none⟩) m m] w fun e w' =>
      e = .returned (.tuple #[]) ∧ Blk w' hb 38 (hdc (stepsF f (raw.drop o) idx m)) ∧ Upd hb w w' := by
  obtain ⟨t, hp⟩ := hp
  have hl : (raw.drop o).length = n := by rw [List.length_drop]; omega
  subst hl hm
  obtain ⟨b2, bo2, e, hlt, hc⟩ := hraw.at_ (by omega)
  simp only [Option.some.injEq, Addr.mk.injEq, and_true] at e
  obtain ⟨rfl, rfl⟩ := e
  have h13 : ∀ i ∈ thirteen, i < 16 ∧ i ≠ 9 ∧ i ≠ 10 ∧ i ≠ 13 := by decide
  refine hfours_any b bo cap hb f (raw.drop o) idx pb 0 idx.length h4 hlen w hc hg (fun j hj => ?_) (fun j hj => ?_) hne
  · refine hp.at_ (0 + j) ?_
    rw [Nat.zero_add]; unfold pts
    rw [List.getElem?_toArray, List.getElem?_map, List.getElem?_eq_getElem hj, List.getD_eq_getElem?_getD, List.getElem?_eq_getElem hj]; rfl
  · have : idx.getD j 0 ∈ idx := by rw [List.getD_eq_getElem?_getD, List.getElem?_eq_getElem hj]; exact List.getElem_mem hj
    exact h13 _ (hi _ this)
end Go.Proofs.YtfoegmjpfkmggaaGreatDoor
