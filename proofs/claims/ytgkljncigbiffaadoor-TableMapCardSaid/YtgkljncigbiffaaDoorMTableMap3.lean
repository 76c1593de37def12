/- The bytes of a data block and of an index block, read. Plain facts. No condition. -/
import Derived.Test.YtgkljncigbiffaaDoorMTableMap2
import Derived.Lib.BytesEntry
import Derived.Laws.Externs
import Derived.Deep.MidRow
import Derived.OrdersIn
import Derived.Test.YtgkljncigbiffaaDoorRows
namespace Go
/-! ### A data block's bytes, read -/
def pval (k : List UInt8) : List UInt8 → Option (PairT × List UInt8)
  | [] => none
  | m :: s => if m = 255 then some ((k, [], true, ()), s) else if s.length < m.toNat then none else some ((k, s.take m.toNat, false, ()), s.drop m.toNat)
def ptake : List UInt8 → Option (PairT × List UInt8)
  | [] => none
  | n :: r => if r.length ≤ n.toNat then none else pval (r.take n.toNat) (r.drop n.toNat)
theorem ptake_cons (n : UInt8) (r : List UInt8) : ptake (n :: r) = if r.length ≤ n.toNat then none else pval (r.take n.toNat) (r.drop n.toNat) := rfl
theorem pval_cons (k : List UInt8) (m : UInt8) (s : List UInt8) : pval k (m :: s) = if m = 255 then some ((k, [], true, ()), s) else if s.length < m.toNat then none else some ((k, s.take m.toNat, false, ()), s.drop m.toNat) := rfl
theorem pval_len {k b s : List UInt8} {p : PairT} (h : pval k b = some (p, s)) : s.length < b.length := by
  cases b with
  | nil => cases h
  | cons m r =>
    rw [pval_cons] at h
    split at h
    · injection h with h; injection h with h1 h2; subst h2; simp
    · split at h
      · cases h
      · injection h with h; injection h with h1 h2; subst h2; rw [List.length_cons, List.length_drop]; omega
theorem ptake_len {b s : List UInt8} {p : PairT} (h : ptake b = some (p, s)) : s.length < b.length := by
  cases b with
  | nil => cases h
  | cons n r =>
    rw [ptake_cons] at h
    split at h
    · cases h
    · have := pval_len h
      rw [List.length_drop] at this
      rw [List.length_cons]; omega
/-- The pairs of bytes. -/
def pparse : Nat → List UInt8 → Option (List PairT)
  | _, [] => some []
  | 0, _ :: _ => none
  | f + 1, n :: r => match ptake (n :: r) with
    | none => none
    | some (p, s) => if pok p = true then (match pparse f s with | none => none | some l => some (p :: l)) else none
theorem pparse_fuel : ∀ (f f' : Nat) (b : List UInt8), b.length ≤ f → b.length ≤ f' → pparse f b = pparse f' b
  | f, f', [], _, _ => by cases f <;> cases f' <;> rfl
  | 0, _, _ :: _, h, _ => by simp at h
  | _ + 1, 0, _ :: _, _, h => by simp at h
  | f + 1, f' + 1, n :: r, h, h' => by
    unfold pparse
    cases ht : ptake (n :: r) with
    | none => rfl
    | some x =>
      obtain ⟨p, s⟩ := x
      have hl := ptake_len ht
      simp only
      rw [pparse_fuel f f' s (by omega) (by omega)]
def parse (b : List UInt8) : Option (List PairT) := pparse b.length b
theorem parse_nil : parse [] = some [] := rfl
theorem parse_none {b : List UInt8} (hb : b ≠ []) (h : ptake b = none) : parse b = none := by
  cases b with
  | nil => exact absurd rfl hb
  | cons n r =>
    unfold parse
    rw [List.length_cons]
    unfold pparse
    rw [h]
theorem parse_bad {b s : List UInt8} {p : PairT} (h : ptake b = some (p, s)) (hp : pok p = false) : parse b = none := by
  cases b with
  | nil => cases h
  | cons n r =>
    unfold parse
    rw [List.length_cons]
    unfold pparse
    rw [h]
    simp only
    rw [if_neg (by rw [hp]; simp)]
theorem parse_some {b s : List UInt8} {p : PairT} (h : ptake b = some (p, s)) (hp : pok p = true) : parse b = (parse s).map (p :: ·) := by
  cases b with
  | nil => cases h
  | cons n r =>
    have hl := ptake_len h
    show pparse (r.length + 1) (n :: r) = (pparse s.length s).map (p :: ·)
    rw [show pparse (r.length + 1) (n :: r) = (match ptake (n :: r) with | none => none | some (p, s) => if pok p = true then (match pparse r.length s with | none => none | some l => some (p :: l)) else none) from rfl, h]
    simp only
    rw [if_pos hp, pparse_fuel r.length s.length s (by rw [List.length_cons] at hl; omega) (Nat.le_refl _)]
    generalize pparse s.length s = x
    cases x <;> rfl
/-- What has been taken, and what is left: what it comes to. -/
def pfin (o : List PairT) (s : List UInt8) : Int × List PairT :=
  match parse s with
  | none => (13, [])
  | some l => if o ++ l = [] ∨ psorted (o ++ l) = false then (13, []) else (0, o ++ l)
def punpack (b : List UInt8) : Int × List PairT := pfin [] b
theorem pfin_none {o : List PairT} {s : List UInt8} (h : parse s = none) : pfin o s = (13, []) := by unfold pfin; rw [h]
theorem pfin_step {o : List PairT} {s s' : List UInt8} {p : PairT} (h : ptake s = some (p, s')) (hp : pok p = true) : pfin o s = pfin (o ++ [p]) s' := by
  unfold pfin
  rw [parse_some h hp]
  cases parse s' with
  | none => rfl
  | some l => simp only [Option.map_some, List.append_assoc, List.singleton_append]
theorem pfin_end (o : List PairT) : pfin o [] = if o = [] ∨ psorted o = false then (13, []) else (0, o) := by
  unfold pfin
  rw [parse_nil]
  simp only [List.append_nil]
theorem ofNat_toNat {n : Nat} (h : n < 256) : (UInt8.ofNat n).toNat = n := by simp [UInt8.toNat_ofNat']; omega
theorem ptake_pbytes {p : PairT} (h : pok p = true) (s : List UInt8) : ptake (pbytes p ++ s) = some (p, s) := by
  obtain ⟨h1, h2, h3, h4⟩ := pok_spec h
  obtain ⟨k, v, g, u⟩ := p
  simp only at h1 h2 h3 h4
  unfold pbytes
  simp only [List.cons_append]
  rw [ptake_cons, ofNat_toNat (by omega)]
  cases g
  · simp only [Bool.false_eq_true, if_false, List.append_assoc, List.cons_append]
    rw [if_neg (by simp), List.drop_left, List.take_left, pval_cons, if_neg (by intro e; have := congrArg UInt8.toNat e; rw [ofNat_toNat (by omega)] at this; have : v.length = 255 := this; omega), ofNat_toNat (by omega), if_neg (by simp), List.take_left, List.drop_left]
  · have := h4 rfl
    subst this
    simp only [if_true, List.append_assoc, List.cons_append, List.nil_append]
    rw [if_neg (by simp), List.drop_left, List.take_left, pval_cons, if_pos rfl]
theorem parse_gbody : ∀ (g : List PairT), g.all pok = true → parse (gbody g) = some g
  | [], _ => rfl
  | p :: g, h => by
    rw [List.all_cons, Bool.and_eq_true] at h
    rw [show p :: g = [p] ++ g from rfl, gbody_append, gbody_one, parse_some (ptake_pbytes h.1 _) h.1, parse_gbody g h.2]
    rfl
theorem punpack_gbody {g : List PairT} (h : g.all pok = true) (hs : psorted g = true) (hne : g ≠ []) : punpack (gbody g) = (0, g) := by
  unfold punpack pfin
  rw [parse_gbody g h]
  simp only [List.nil_append]
  rw [if_neg (by rw [hs]; simp [hne])]
/-! ### An index block's bytes, read -/
def kbytes (ks : List (List UInt8)) : List UInt8 := ks.flatMap fun k => UInt8.ofNat k.length :: k
def kparseF : Nat → List UInt8 → Option (List (List UInt8))
  | _, [] => some []
  | 0, _ :: _ => none
  | f + 1, n :: r => if r.length < n.toNat then none else (match kparseF f (r.drop n.toNat) with | none => none | some l => some (r.take n.toNat :: l))
theorem kparse_fuel : ∀ (f f' : Nat) (b : List UInt8), b.length ≤ f → b.length ≤ f' → kparseF f b = kparseF f' b
  | f, f', [], _, _ => by cases f <;> cases f' <;> rfl
  | 0, _, _ :: _, h, _ => by simp at h
  | _ + 1, 0, _ :: _, _, h => by simp at h
  | f + 1, f' + 1, n :: r, h, h' => by
    unfold kparseF
    simp only [List.length_cons] at h h'
    rw [kparse_fuel f f' (r.drop n.toNat) (by rw [List.length_drop]; omega) (by rw [List.length_drop]; omega)]
def kparse (b : List UInt8) : Option (List (List UInt8)) := kparseF b.length b
theorem kparse_nil : kparse [] = some [] := rfl
theorem kparse_none {n : UInt8} {r : List UInt8} (h : r.length < n.toNat) : kparse (n :: r) = none := by
  unfold kparse
  rw [List.length_cons]
  unfold kparseF
  rw [if_pos h]
theorem kparse_some {n : UInt8} {r : List UInt8} (h : n.toNat ≤ r.length) : kparse (n :: r) = (kparse (r.drop n.toNat)).map (r.take n.toNat :: ·) := by
  unfold kparse
  rw [List.length_cons]
  conv => lhs; unfold kparseF
  rw [if_neg (by omega), kparse_fuel r.length (r.drop n.toNat).length _ (by rw [List.length_drop]; omega) (Nat.le_refl _)]
  cases kparseF (r.drop n.toNat).length (r.drop n.toNat) <;> rfl
theorem kparse_kbytes : ∀ (ks : List (List UInt8)), (∀ k ∈ ks, k.length < 256) → kparse (kbytes ks) = some ks
  | [], _ => rfl
  | k :: ks, h => by
    have hk := h k (by simp)
    have e : kbytes (k :: ks) = UInt8.ofNat k.length :: (k ++ kbytes ks) := by unfold kbytes; simp
    rw [e, kparse_some (by rw [ofNat_toNat hk]; simp), ofNat_toNat hk]
    simp only [List.drop_left, List.take_left]
    rw [kparse_kbytes ks (fun x hx => h x (by simp [hx]))]
    rfl
/-- What has been taken of an index, and what is left. -/
def kfin (o : List (List UInt8)) (s : List UInt8) : Option (List (List UInt8)) := (kparse s).map (o ++ ·)
theorem kfin_step {o : List (List UInt8)} {n : UInt8} {r : List UInt8} (h : n.toNat ≤ r.length) : kfin o (n :: r) = kfin (o ++ [r.take n.toNat]) (r.drop n.toNat) := by
  unfold kfin
  rw [kparse_some h]
  cases kparse (r.drop n.toNat) <;> simp
end Go

/- Sorted pairs in groups: a key is looked for, what lies between two keys. Plain facts. No condition. -/
namespace Go
/-! ### A sorted list in groups -/
/-- How many of the keys are not behind this one. -/
def kbef (ks : List (List UInt8)) (key : List UInt8) : Nat := ks.countP fun k => !decide (key < k)
def pfind (l : List PairT) (key : List UInt8) : Option PairT := l.find? fun p => decide (p.1 = key)
theorem countP_at {ks : List (List UInt8)} {key : List UInt8} {j : Nat} (hj : j < ks.length) (h1 : ∀ i (h : i < ks.length), i ≤ j → ¬ key < ks[i]) (h2 : ∀ i (h : i < ks.length), j < i → key < ks[i]) : kbef ks key = j + 1 := by
  unfold kbef
  rw [← List.take_append_drop (j + 1) ks, List.countP_append]
  have e1 : (ks.take (j + 1)).countP (fun k => !decide (key < k)) = (ks.take (j + 1)).length := by
    rw [List.countP_eq_length]
    intro k hk
    obtain ⟨i, hi, rfl⟩ := List.mem_iff_getElem.1 hk
    rw [List.length_take] at hi
    rw [List.getElem_take]
    have := h1 i (by omega) (by omega)
    simpa using this
  have e2 : (ks.drop (j + 1)).countP (fun k => !decide (key < k)) = 0 := by
    rw [List.countP_eq_zero]
    intro k hk
    obtain ⟨i, hi, rfl⟩ := List.mem_iff_getElem.1 hk
    rw [List.length_drop] at hi
    rw [List.getElem_drop]
    have := h2 (j + 1 + i) (by omega) (by omega)
    simpa using this
  rw [e1, e2, List.length_take]; omega
/-- Sorted pairs in groups, none of which is empty. -/
structure GrSo (G : List (List PairT)) : Prop where
  so : G.flatten.Pairwise (fun a b => a.1 < b.1)
  ne : ∀ g ∈ G, g ≠ []
theorem GrSo.tail {g : List PairT} {G : List (List PairT)} (h : GrSo (g :: G)) : GrSo G :=
  ⟨by have := h.so; rw [List.flatten_cons] at this; exact (List.pairwise_append.1 this).2.1, fun x hx => h.ne x (by simp [hx])⟩
theorem GrSo.group {G : List (List PairT)} (h : GrSo G) : ∀ g ∈ G, g.Pairwise (fun a b => a.1 < b.1) := fun g hg => (List.pairwise_flatten.1 h.so).1 g hg
theorem GrSo.apart {G : List (List PairT)} (h : GrSo G) {i j : Nat} (hi : i < j) (hj : j < G.length) : ∀ a ∈ G[i]'(by omega), ∀ b ∈ G[j], a.1 < b.1 := by
  have := (List.pairwise_flatten.1 h.so).2
  exact List.pairwise_iff_getElem.1 this i j (by omega) hj hi
theorem gkey_mem {g : List PairT} (h : g ≠ []) : ∃ a ∈ g, gkey g = a.1 := by
  cases g with
  | nil => exact absurd rfl h
  | cons a g => exact ⟨a, by simp, rfl⟩
theorem gkey_least {g : List PairT} (h : g.Pairwise (fun a b => a.1 < b.1)) {a : PairT} (ha : a ∈ g) : ¬ a.1 < gkey g := by
  cases g with
  | nil => cases ha
  | cons b g =>
    rcases List.mem_cons.1 ha with rfl | ha
    · exact bl_irrefl _
    · exact bl_asymm (List.rel_of_pairwise_cons h ha)
theorem GrSo.keys {G : List (List PairT)} (h : GrSo G) {i j : Nat} (hi : i < j) (hj : j < G.length) : gkey (G[i]'(by omega)) < gkey G[j] := by
  obtain ⟨a, ha, ea⟩ := gkey_mem (h.ne _ (List.getElem_mem (show i < G.length by omega)))
  obtain ⟨b, hb, eb⟩ := gkey_mem (h.ne _ (List.getElem_mem hj))
  rw [ea, eb]
  exact h.apart hi hj a ha b hb
theorem GrSo.mono {G : List (List PairT)} (h : GrSo G) (key : List UInt8) {a b : Nat} (hab : a ≤ b) (hb : b < G.length) (hk : key < gkey (G[a]'(by omega))) : key < gkey G[b] := by
  rcases Nat.eq_or_lt_of_le hab with e | e
  · subst e; exact hk
  · exact bl_trans hk (h.keys e hb)
theorem pfind_none {l : List PairT} {key : List UInt8} (h : ∀ p ∈ l, p.1 ≠ key) : pfind l key = none := by
  unfold pfind
  rw [List.find?_eq_none]
  intro p hp
  simpa using h p hp
theorem pfind_some {l : List PairT} {key : List UInt8} (hs : l.Pairwise (fun a b => a.1 < b.1)) {p : PairT} (hp : p ∈ l) (hk : p.1 = key) : pfind l key = some p := by
  induction l with
  | nil => cases hp
  | cons a l ih =>
    unfold pfind
    rw [List.find?_cons]
    rcases List.mem_cons.1 hp with rfl | hm
    · rw [hk]; simp
    · have := List.rel_of_pairwise_cons hs hm
      rw [decide_eq_false (by intro e; rw [e, ← hk] at this; exact bl_irrefl _ this)]
      exact ih (List.pairwise_cons.1 hs).2 hm
theorem kbef_at {G : List (List PairT)} (h : GrSo G) {j : Nat} (hj : j < G.length) {x : PairT} (hx : x ∈ G[j]) : kbef (G.map gkey) x.1 = j + 1 := by
  refine countP_at (by rw [List.length_map]; exact hj) (fun i hi hij => ?_) (fun i hi hij => ?_)
  · rw [List.getElem_map]
    rw [List.length_map] at hi
    rcases Nat.eq_or_lt_of_le hij with e | e
    · subst e; exact gkey_least (h.group _ (List.getElem_mem hi)) hx
    · intro hk
      obtain ⟨a, ha, ea⟩ := gkey_mem (h.ne _ (List.getElem_mem hi))
      rw [ea] at hk
      exact bl_asymm hk (h.apart e hj a ha x hx)
  · rw [List.getElem_map]
    rw [List.length_map] at hi
    obtain ⟨b, hb, eb⟩ := gkey_mem (h.ne _ (List.getElem_mem hi))
    rw [eb]
    exact h.apart hij hi x hx b hb
theorem kbef_le (ks : List (List UInt8)) (key : List UInt8) : kbef ks key ≤ ks.length := List.countP_le_length
/-- A key's pair, looked for in the group that alone may have it. -/
theorem find_groups {G : List (List PairT)} (h : GrSo G) (key : List UInt8) : pfind G.flatten key = if kbef (G.map gkey) key = 0 then none else pfind (G.getD (kbef (G.map gkey) key - 1) []) key := by
  by_cases hx : ∃ x ∈ G.flatten, x.1 = key
  · obtain ⟨x, hx, rfl⟩ := hx
    obtain ⟨g, hg, hxg⟩ := List.mem_flatten.1 hx
    obtain ⟨j, hj, rfl⟩ := List.mem_iff_getElem.1 hg
    rw [kbef_at h hj hxg, if_neg (by omega), Nat.add_sub_cancel, pfind_some h.so hx rfl, List.getD_eq_getElem?_getD, List.getElem?_eq_getElem hj, Option.getD_some, pfind_some (h.group _ hg) hxg rfl]
  · have hn : ∀ p ∈ G.flatten, p.1 ≠ key := fun p hp e => hx ⟨p, hp, e⟩
    rw [pfind_none hn]
    split
    · rfl
    · rename_i h0
      refine (pfind_none fun p hp => hn p ?_).symm
      have := kbef_le (G.map gkey) key
      rw [List.length_map] at this
      rw [List.getD_eq_getElem?_getD, List.getElem?_eq_getElem (by omega), Option.getD_some] at hp
      exact List.mem_flatten.2 ⟨_, List.getElem_mem (by omega), hp⟩
/-- Between two keys. -/
def pbelow (to key : List UInt8) : Bool := decide (to = []) || decide (key < to)
def inside (fr to : List UInt8) (p : PairT) : Bool := !decide (p.1 < fr) && pbelow to p.1
def used (ks : List (List UInt8)) (fr to : List UInt8) (i : Nat) : Bool := pbelow to (ks.getD i []) && (decide (i + 1 = ks.length) || decide (fr < ks.getD (i + 1) []))
theorem unused {G : List (List PairT)} (h : GrSo G) {fr to : List UInt8} {i : Nat} (hi : i < G.length) (hu : used (G.map gkey) fr to i = false) : (G[i]).filter (inside fr to) = [] := by
  rw [List.filter_eq_nil_iff]
  intro x hx
  unfold used at hu
  rw [Bool.and_eq_false_iff] at hu
  unfold inside
  rcases hu with hu | hu
  · rw [List.getD_eq_getElem?_getD, List.getElem?_map, List.getElem?_eq_getElem hi, Option.map_some, Option.getD_some] at hu
    unfold pbelow at hu ⊢
    rw [Bool.or_eq_false_iff, decide_eq_false_iff_not, decide_eq_false_iff_not] at hu
    have hb := gkey_least (h.group _ (List.getElem_mem hi)) hx
    have : ¬ x.1 < to := fun e => by
      rcases bl_total hb with e1 | e1
      · rw [e1] at e; exact hu.2 e
      · exact hu.2 (bl_trans e1 e)
    rw [decide_eq_false hu.1, decide_eq_false this]
    simp
  · rw [Bool.or_eq_false_iff, decide_eq_false_iff_not, decide_eq_false_iff_not] at hu
    obtain ⟨h1, h2⟩ := hu
    rw [List.length_map] at h1
    have hj : i + 1 < G.length := by omega
    rw [List.getD_eq_getElem?_getD, List.getElem?_map, List.getElem?_eq_getElem hj, Option.map_some, Option.getD_some] at h2
    obtain ⟨b, hb, eb⟩ := gkey_mem (h.ne _ (List.getElem_mem hj))
    have hxb := h.apart (Nat.lt_succ_self i) hj x hx b hb
    rw [← eb] at hxb
    have : x.1 < fr := by
      rcases bl_total h2 with e1 | e1
      · rw [e1]; exact hxb
      · exact bl_trans hxb e1
    rw [decide_eq_true this]
    simp
theorem flatMap_getD {α β : Type} (f : List α → List β) : ∀ (G : List (List α)), (List.range G.length).flatMap (fun i => f (G.getD i [])) = G.flatMap f
  | [] => rfl
  | g :: G => by
    rw [List.length_cons, List.range_succ_eq_map, List.flatMap_cons, List.flatMap_cons, List.flatMap_map]
    congr 1
    exact flatMap_getD f G
theorem between_groups {G : List (List PairT)} (h : GrSo G) (fr to : List UInt8) : (List.range G.length).flatMap (fun i => if used (G.map gkey) fr to i = true then (G.getD i []).filter (inside fr to) else []) = G.flatten.filter (inside fr to) := by
  rw [List.filter_flatten, ← List.flatMap_def, ← flatMap_getD (fun g => g.filter (inside fr to)) G]
  unfold List.flatMap
  congr 1
  refine List.map_congr_left fun i hi => ?_
  have hi := List.mem_range.1 hi
  split
  · rfl
  · rename_i hu
    rw [List.getD_eq_getElem?_getD, List.getElem?_eq_getElem hi, Option.getD_some]
    exact (unused h hi (by simpa using hu)).symm
end Go

/- bytes.Compare: two lists of bytes in order. Conditions: the bytes can be read. -/
namespace Go
open Go.RowKit
theorem bytesOf_iu8 (l : List UInt8) : Lib.bytesOf (l.map iu8) = l := by
  unfold Lib.bytesOf
  rw [List.map_map]
  refine (List.map_congr_left fun b _ => ?_).trans (List.map_id l)
  simp [iu8]
theorem run_bytesOf {P : Program} {w : World} {A : Option Addr} {l : List UInt8} (n c : Nat) (hn : n = l.length) (h : Bytes w A l) : (Extern.Bytes.bytesOf (.slice A n c)).run P w = .ok (str l) w := by
  subst hn
  cases A with
  | none =>
    cases l with
    | nil => rfl
    | cons x t => obtain ⟨b, off, e, _⟩ := h.at_ (by simp); cases e
  | some a =>
    unfold Extern.Bytes.bytesOf
    have hl := Lib.run_loadBytesX (P := P) w (l.map iu8) a .empty (fun j x hj => by
      have hj2 : j < l.length := by
        have := (List.getElem?_eq_some_iff.1 hj).1
        simpa using this
      obtain ⟨b, off, e, _, hc⟩ := h.at_ (by omega)
      injection e with e
      subst e
      rw [Addr.add_lit, hc j hj2]
      rw [List.getElem?_map, List.getElem?_eq_getElem hj2, Option.map_some] at hj
      injection hj with hj
      rw [← hj, List.getD_eq_getElem?_getD, List.getElem?_eq_getElem hj2, Option.getD_some])
    rw [List.length_map] at hl
    rw [hl, bytesOf_iu8]
    congr 1
    apply ByteArray.ext
    show (#[] : Array UInt8) ++ l.toArray = l.toArray
    simp
theorem cmp_neg : ∀ (a b : List UInt8), (Lib.compareBytes a b < 0) ↔ a < b
  | [], [] => by simp [Lib.compareBytes]
  | [], _ :: _ => by simp [Lib.compareBytes]
  | _ :: _, [] => by simp [Lib.compareBytes]
  | a :: x, b :: y => by
    unfold Lib.compareBytes
    rw [List.cons_lt_cons_iff]
    by_cases h1 : a < b
    · simp [h1]
    · by_cases h2 : b < a
      · have : a ≠ b := fun e => by subst e; exact h1 h2
        simp [h1, h2, this]
      · have : a = b := by
          apply UInt8.toNat_inj.1
          rw [UInt8.lt_iff_toNat_lt] at h1 h2
          omega
        subst this
        simp [h1, cmp_neg x y]
theorem cmp_pos : ∀ (a b : List UInt8), (0 < Lib.compareBytes a b) ↔ b < a
  | [], [] => by simp [Lib.compareBytes]
  | [], _ :: _ => by simp [Lib.compareBytes]
  | _ :: _, [] => by simp [Lib.compareBytes]
  | a :: x, b :: y => by
    unfold Lib.compareBytes
    rw [List.cons_lt_cons_iff]
    by_cases h1 : a < b
    · have : ¬ b < a := by rw [UInt8.lt_iff_toNat_lt] at h1 ⊢; omega
      have h3 : b ≠ a := fun e => by subst e; exact this h1
      simp [h1, this, h3]
    · by_cases h2 : b < a
      · simp [h1, h2]
      · have : a = b := by
          apply UInt8.toNat_inj.1
          rw [UInt8.lt_iff_toNat_lt] at h1 h2
          omega
        subst this
        simp [h1, cmp_pos x y]
theorem cmp_lt0 (a b : List UInt8) : decide (Lib.compareBytes a b < 0) = decide (a < b) := decide_eq_decide.2 (cmp_neg a b)
theorem cmp_gt0 (a b : List UInt8) : decide (Lib.compareBytes a b > 0) = decide (b < a) := decide_eq_decide.2 (cmp_pos a b)
theorem cmp_ge0 (a b : List UInt8) : decide (Lib.compareBytes a b ≥ 0) = !decide (a < b) := by
  rw [← cmp_lt0]
  by_cases h : Lib.compareBytes a b < 0
  · rw [decide_eq_true h, decide_eq_false (by omega)]; rfl
  · rw [decide_eq_false h, decide_eq_true (by omega)]; rfl
theorem bytes_less : ∀ (x y : List UInt8), Op.bytesLess x y = decide (x < y)
  | [], [] => by simp [Op.bytesLess]
  | _ :: _, [] => by simp [Op.bytesLess]
  | [], _ :: _ => by simp [Op.bytesLess]
  | a :: x, b :: y => by
    unfold Op.bytesLess
    rw [bytes_less x y]
    by_cases h1 : a < b
    · simp [h1, List.cons_lt_cons_iff]
    · by_cases h2 : a = b
      · subst h2; simp
      · simp [h1, h2, List.cons_lt_cons_iff]
theorem str_less (l l' : List UInt8) : Op.bytesLess (str l).toList (str l').toList = decide (l < l') := by
  rw [ByteArray.toList_eq, ByteArray.toList_eq]
  exact bytes_less _ _
namespace Proofs.YtgkljncigbiffaaDoor
set_option maxRecDepth 100000 in
set_option maxHeartbeats 1000000 in
theorem compare_any (A B : Option Addr) (n m c d : Nat) (l l' : List UInt8) (hn : n = l.length) (hm : m = l'.length) (w : World) (h : Bytes w A l) (h' : Bytes w B l') :
    Calls Tryd.prog 56 #[.slice A n c, .slice B m d] w fun e w' => e = .returned (.int .i64 (Lib.compareBytes l l')) ∧ w' = w := by
  subst hn hm
  have H := Lib.hid (And.intro h h')
  clear h h'
  go_enter Tryd.func56, Tryd.ntmps56
  go_wp2
  have hr : (Extern.BytealgCompare.compare #[.slice A l.length c, .slice B l'.length d]).run Tryd.prog w = .ok (.int .i64 (Lib.compareBytes l l')) w := by
    change Sem.run Tryd.prog (do pure (goInt (Extern.BytealgCompare.cmp (← Extern.Bytes.bytesOf (.slice A l.length c)) (← Extern.Bytes.bytesOf (.slice B l'.length d))))) w = _
    simp only [Sem.run_bind, Sem.run_pure, run_bytesOf (P := Tryd.prog) l.length c rfl H.out.1, run_bytesOf (P := Tryd.prog) l'.length d rfl H.out.2, Result.andThen_ok, Lib.cmp_eq]
    rfl
  rw [run_callFunc_extern Tryd.func105 (by kernel_rfl) (by kernel_rfl) (by kernel_rfl) (e := Extern.BytealgCompare.compare) (by kernel_rfl), hr]
  simp only [Result.andThen]
  rw [Oper.upon_value]
  go_wp2
  go_ret
  exact ⟨rfl, rfl⟩
end Proofs.YtgkljncigbiffaaDoor
end Go

/- A region that draws its order, taken by a plan: operations that leave the world alone are taken first wherever they may come, the others come up in one forced order. Plain facts over any program. No condition. -/
namespace Go
section
variable {P : Program} {ops : Array Oper} {md : Region.Mode} {C : World → Prop} {Z : List Nat} {Q : Exit → Act → World → Prop}
/-- In state 'a', in every world of the class, the operation leaves v in its temporary, and that very world. -/
def YieldsC (P : Program) (ops : Array Oper) (C : World → Prop) (o : Oper) (v : Value) (a : Act) : Prop :=
  (Region.wanted o (yielded ops a.tmps) = true ∧ ∀ w, C w → o.quietAt P a (fun w' => w' = w) w v) ∨
  (Region.wanted o (yielded ops a.tmps) = false ∧ v = undef)
theorem YieldsC.of_same {o : Oper} {v : Value} {a a' : Act} (hy : YieldsC P ops C o v a) (he : execOp a'.eval o = execOp a.eval o)
    (hw : Region.wanted o (yielded ops a'.tmps) = Region.wanted o (yielded ops a.tmps)) : YieldsC P ops C o v a' := by
  unfold YieldsC Oper.quietAt at *
  rw [he, hw]
  exact hy
theorem YieldsC.wpOp {i : Nat} {o : Oper} {v : Value} {a : Act} (hi : ops[i]? = some o) (hy : YieldsC P ops C o v a) {K : Act → World → Prop} {w : World} (hC : C w) (h : K (a.put o.dst v) w) : wpOp P ops Q i K a w := by
  unfold Go.wpOp
  simp only [hi]
  rcases hy with ⟨hw, hv⟩ | ⟨hw, rfl⟩
  · simp only [hw, if_true]
    have h1 := hv w hC
    refine .inl ?_
    unfold Oper.quietAt at h1
    unfold Oper.wp
    generalize (execOp a.eval o).run P w = r at *
    cases r with
    | ok n w' =>
      cases n <;> simp only [Oper.quietUpon] at h1 <;> simp only [Oper.upon]
      case value u => obtain ⟨e1, e2⟩ := h1; rw [e1, e2]; exact h
      case skip => obtain ⟨e1, e2⟩ := h1; rw [e1, ← e2]; exact h
      case enter f args =>
        obtain ⟨e1, hc⟩ := h1
        rw [e1]
        exact hc.mono fun e w'' ⟨he, hw''⟩ => by subst he; rw [hw'']; exact h
    | halt x w' => simp only [Oper.quietUpon] at h1
  · simp only [hw, Bool.false_eq_true, if_false]; exact h
theorem wpOp_putC {j : Nat} {oi oj : Oper} {v : Value} (hj : ops[j]? = some oj) (hap : oi.apart ops oj = true)
    (hsi : ∀ cs b, oi.op ≠ .select cs b) (hsj : ∀ cs b, oj.op ≠ .select cs b)
    (hQ : ∀ c a a' w, a'.defers = a.defers → Q (.panic c) a' w → Q (.panic c) a w) {K : Act → World → Prop} {a : Act} {w : World}
    (hy : YieldsC P ops C oi v a) (h : wpOp P ops Q j K (a.put oi.dst v) w) :
    wpOp P ops Q j (fun a' w' => YieldsC P ops C oi v a' ∧ K (a'.put oi.dst v) w') a w := by
  obtain ⟨h1, h2, h3⟩ := Oper.apart_spec hap
  have hdef : ∀ (a : Act) (d : Option Tmp) (v : Value), (a.put d v).defers = a.defers := fun a d v => by cases d <;> rfl
  have keep : ∀ (a : Act), YieldsC P ops C oi v a → ∀ u, YieldsC P ops C oi v (a.put oj.dst u) := fun a hy u =>
    hy.of_same (execOp_put oi hsi a oj.dst u h3) (wanted_put oi a oj.dst u h3)
  have keepD : ∀ d, YieldsC P ops C oi v { a with defers := d :: a.defers } := fun d => hy.of_same rfl rfl
  unfold wpOp at *
  simp only [hj] at *
  rw [wanted_put oj a oi.dst v h1] at h
  split
  · rename_i hw
    simp only [hw, if_true] at h
    rcases h with h | ⟨hasks, hlets⟩
    case inr => exact .inr ⟨by unfold Oper.asks at *; rw [execOp_put oj hsj a oi.dst v h1] at hasks; exact hasks, hlets⟩
    refine .inl ?_
    unfold Oper.wp at *
    rw [execOp_put oj hsj a oi.dst v h1] at h
    generalize (execOp a.eval oj).run P w = r at *
    cases r with
    | ok n w' =>
      cases n <;> simp only [Oper.upon] at h ⊢
      case value u => exact ⟨keep a hy u, by rw [← Act.put_comm a v u h2]; exact h⟩
      case skip => exact ⟨keep a hy _, by rw [← Act.put_comm a v undef h2]; exact h⟩
      case defer d =>
        refine ⟨keep _ (keepD d) _, ?_⟩
        rw [← Act.put_comm _ v undef h2, ← Act.put_defers]
        exact h
      case enter f args =>
        refine Calls.mono h fun e w'' he => ?_
        cases e with
        | returned u => exact ⟨keep a hy u, by rw [← Act.put_comm a v u h2]; exact he⟩
        | panicked c => exact hQ _ _ _ _ (hdef _ _ _) he
        | outgrown => exact he
      case row row args => exact Rows.mono h fun u w'' he => ⟨keep a hy u, by rw [← Act.put_comm a v u h2]; exact he⟩
    | halt x w' =>
      cases x <;> simp only [Oper.upon] at h ⊢
      case panic u => exact hQ _ _ _ _ (hdef _ _ _) h
  · rename_i hw
    simp only [hw] at h
    exact ⟨keep a hy _, by rw [← Act.put_comm a v undef h2]; exact h⟩

/-- Whatever order is picked from here on; behind each operation but those of Z the world is of the class. -/
def wpAnyC (P : Program) (md : Region.Mode) (ops : Array Oper) (C : World → Prop) (Z : List Nat) (Q : Exit → Act → World → Prop) : Nat → Array Bool → Act → World → Prop
  | 0, listed, a, w => Region.ready md ops listed = [] ∧ Q .normal a w
  | fuel + 1, listed, a, w =>
    (Region.ready md ops listed = [] → Q .normal a w) ∧
    ∀ i ∈ Region.ready md ops listed, wpOp P ops Q i (fun a' w' => (i ∈ Z ∨ C w') ∧ wpAnyC P md ops C Z Q fuel (listed.setIfInBounds i true) a' w') a w
theorem wpAny_of_C : ∀ (fuel : Nat) (s : Array Bool) (a : Act) (w : World), wpAnyC P md ops C Z Q fuel s a w → wpAny P md ops Q fuel s a w
  | 0, _, _, _, h => h
  | fuel + 1, _, _, _, h => ⟨h.1, fun i hi => wpOp_mono (fun a' w' h' => wpAny_of_C fuel _ a' w' h'.2) (h.2 i hi)⟩
theorem wpAnyC_first {i : Nat} {oi : Oper} {v : Value} (hi : ops[i]? = some oi) (hns : Region.noSelect ops = true)
    (hQ : ∀ c a a' w, a'.defers = a.defers → Q (.panic c) a' w → Q (.panic c) a w) (hZ : ∀ z ∈ Z, Region.waitsFor md ops z i = true) :
    ∀ (fuel : Nat) (s : Array Bool) (a : Act) (w : World),
      (∀ j oj, ops[j]? = some oj → j ≠ i → s.getD j true = false → (∀ e ∈ oj.after, Region.binds md e = true → e.on ≠ i) → oi.apart ops oj = true) →
      i ∈ Region.ready md ops s → YieldsC P ops C oi v a → C w →
      wpAnyC P md ops C Z Q fuel (s.setIfInBounds i true) (a.put oi.dst v) w → wpAnyC P md ops C Z Q (fuel + 1) s a w := by
  have sel := fun (j : Nat) (o : Oper) cs b => Region.noSelect_spec hns j o cs b
  intro fuel
  induction fuel with
  | zero =>
    intro s a w _ hr hy hC H
    refine ⟨fun h => (by rw [h] at hr; cases hr), fun j hj => ?_⟩
    by_cases hji : j = i
    · subst hji; exact hy.wpOp hi hC ⟨.inr hC, H⟩
    · have := ready_mono hj hji
      rw [H.1] at this
      cases this
  | succ fuel ih =>
    intro s a w hfree hr hy hC H
    refine ⟨fun h => (by rw [h] at hr; cases hr), fun j hj => ?_⟩
    by_cases hji : j = i
    · subst hji; exact hy.wpOp hi hC ⟨.inr hC, H⟩
    · have h1 := H.2 j (ready_mono hj hji)
      obtain ⟨hjun, oj, hoj, hall⟩ := mem_ready.1 hj
      have hiun := (mem_ready.1 hr).1
      have hnot : ∀ e ∈ oj.after, Region.binds md e = true → e.on ≠ i := fun e he hb heq => by
        have h2 := hall e he hb
        rw [heq, getD_both hiun] at h2
        cases h2
      have hjZ : j ∉ Z := fun hz => by
        obtain ⟨ot, hot, e, he, hb, hon⟩ := Region.waitsFor_spec (hZ j hz)
        have : ot = oj := Option.some.inj (hot.symm.trans hoj)
        rw [this] at he
        exact hnot e he hb hon
      have h2 := wpOp_putC hoj (hfree j oj hoj hji hjun hnot) (fun cs b => sel i oi cs b hi) (fun cs b => sel j oj cs b hoj) hQ hy h1
      have hfree' : ∀ k ok, ops[k]? = some ok → k ≠ i → (s.setIfInBounds j true).getD k true = false →
          (∀ e ∈ ok.after, Region.binds md e = true → e.on ≠ i) → oi.apart ops ok = true := fun k ok hk hki hun hno => by
        refine hfree k ok hk hki ?_ hno
        by_cases hjk : j = k
        · subst hjk; exact hjun
        · rw [getD_set_ne true hjk] at hun; exact hun
      refine wpOp_mono (fun a' w' h3 => ?_) h2
      have hC' : C w' := h3.2.1.resolve_left hjZ
      refine ⟨.inr hC', ih (s.setIfInBounds j true) a' w' hfree' (ready_mono hr (Ne.symm hji)) h3.1 hC' ?_⟩
      rw [Array.setIfInBounds_comm _ _ hji]
      exact h3.2.2
/-- Operations that leave the world as it is. -/
def Op.stillB : Op → Bool
  | .load .. | .pick .. | .makeInterface .. | .nilCheck .. => true
  | o => o.valued
theorem still_run {o : Oper} (h : o.op.stillB = true) (ρ : Operand → Value) (w w' : World) (n : Next) (hr : (execOp ρ o).run P w = .ok n w') : ∃ v, n = .value v := by
  have key : ∀ (m : Sem Value), (do let x ← m; pure (Next.value x) : Sem Next).run P w = .ok n w' → ∃ v, n = .value v := by
    intro m hm
    rw [Sem.run_bind] at hm
    generalize m.run P w = r at hm
    cases r with
    | ok x w2 => simp only [Result.andThen_ok, Sem.run_pure, Result.ok.injEq] at hm; exact ⟨x, hm.1.symm⟩
    | halt x w2 => simp [Result.andThen] at hm
  by_cases hv : o.op.valued = true
  · exact valued_run hv ρ w w' n hr
  obtain ⟨dst, op, type, pos, after, guard⟩ := o
  cases op
  case load => exact key _ hr
  case makeInterface => exact key _ hr
  case nilCheck x =>
    have hno : ∀ {e : RuntimeError}, e = .nilDeref → (runtimePanic e : Sem Next).run P w ≠ .ok n w' := fun he hh => by subst he; cases hh
    have hp : ∀ y : Value, (pure (Next.value y) : Sem Next).run P w = .ok n w' → ∃ v, n = .value v := fun y hy => by rw [Sem.run_pure, Result.ok.injEq] at hy; exact ⟨_, hy.1.symm⟩
    simp only [execOp] at hr
    split at hr
    · exact absurd hr (hno rfl)
    · exact absurd hr (hno rfl)
    · exact absurd hr (hno rfl)
    · split at hr
      · exact absurd hr (hno rfl)
      · rw [Sem.run_bind] at hr
        generalize (program).run P w = r0 at hr
        cases r0 with
        | halt y w2 => simp [Result.andThen] at hr
        | ok pp w1 =>
          rw [Result.andThen_ok, Sem.run_bind] at hr
          generalize (nilAhead _ _ _ _).run P w1 = r1 at hr
          cases r1 with
          | halt y w2 => simp [Result.andThen] at hr
          | ok bb w2 =>
            rw [Result.andThen_ok] at hr
            split at hr
            · simp [Result.andThen] at hr
            · rw [Sem.run_pure, Result.ok.injEq] at hr; exact ⟨_, hr.1.symm⟩
      · exact hp _ hr
    · exact hp _ hr
  case pick c a b =>
    simp only [execOp, Sem.run_bind] at hr
    generalize (asBool (ρ c)).run P w = r at hr
    cases r with
    | ok x w2 => simp only [Result.andThen_ok, Sem.run_pure, Result.ok.injEq] at hr; exact ⟨_, hr.1.symm⟩
    | halt x w2 => simp [Result.andThen] at hr
  all_goals first
    | (simp [Op.stillB] at h; exact absurd h hv)
    | (simp [Op.stillB] at h; done)
    | (simp [Op.valued] at hv; done)
/-- Such operations, walked in a class of worlds, yield in each of them and leave it. -/
theorem yieldsC_of {o : Oper} {a : Act} {v : Value} (h : o.op.stillB = true) (hy : YieldsIn P ops C o v a) : YieldsC P ops C o v a := by
  rcases hy with ⟨h1, h2⟩ | h1
  · refine .inl ⟨h1, fun w hw => ?_⟩
    have h3 := h2 w hw
    unfold Oper.quietAt at h3 ⊢
    cases hr : (execOp a.eval o).run P w with
    | ok n w' =>
      obtain ⟨u, rfl⟩ := still_run h _ _ _ _ hr
      rw [hr] at h3
      exact h3
    | halt x w' => rw [hr] at h3; exact h3
  · exact .inr h1

/-! The plan: (true, i): i is taken first; (false, i): i is the only one that may come. -/
def Region.planB (md : Region.Mode) (ops : Array Oper) (Z : List Nat) : List (Bool × Nat) → Array Bool → Bool
  | [], s => (Region.ready md ops s).isEmpty
  | (true, i) :: r, s => (Region.ready md ops s).contains i && Region.free md ops s i && (Z.all fun z => Region.waitsFor md ops z i) && Region.planB md ops Z r (s.setIfInBounds i true)
  | (false, i) :: r, s => decide (Region.ready md ops s = [i]) && Region.planB md ops Z r (s.setIfInBounds i true)
def wpPlan (P : Program) (ops : Array Oper) (C : World → Prop) (Z : List Nat) (Q : Exit → Act → World → Prop) : List (Bool × Nat) → Act → World → Prop
  | [], a, w => Q .normal a w
  | (true, i) :: r, a, w => match ops[i]? with
    | some o => ∃ v, YieldsC P ops C o v a ∧ (C w → wpPlan P ops C Z Q r (a.put o.dst v) w)
    | none => False
  | (false, i) :: r, a, w => wpOp P ops Q i (fun a' w' => (i ∈ Z ∨ C w') ∧ wpPlan P ops C Z Q r a' w') a w
/-- Is it known, at each place of the plan where something is taken first, that the world is of the class? (No place of Z stands ahead of it.) -/
def Region.planZ (Z : List Nat) : List (Bool × Nat) → Bool → Bool
  | [], _ => true
  | (true, _) :: r, c => c && Region.planZ Z r c
  | (false, i) :: r, c => Region.planZ Z r (c && !Z.contains i)
theorem anyC_of_plan (hns : Region.noSelect ops = true) (hQ : ∀ c a a' w, a'.defers = a.defers → Q (.panic c) a' w → Q (.panic c) a w) :
    ∀ (pl : List (Bool × Nat)) (c : Bool) (s : Array Bool) (a : Act) (w : World), Region.planB md ops Z pl s = true → Region.planZ Z pl c = true → (c = true → C w) → wpPlan P ops C Z Q pl a w → wpAnyC P md ops C Z Q pl.length s a w := by
  intro pl
  induction pl with
  | nil => intro c s a w hB _ _ h; exact ⟨by simpa [Region.planB] using hB, h⟩
  | cons x r ih =>
    obtain ⟨b, i⟩ := x
    intro c s a w hB hz hC h
    cases b with
    | true =>
      simp only [Region.planB, Bool.and_eq_true] at hB
      simp only [Region.planZ, Bool.and_eq_true] at hz
      obtain ⟨⟨⟨h1, h2⟩, h3⟩, h4⟩ := hB
      have hr : i ∈ Region.ready md ops s := by simpa using h1
      obtain ⟨_, oi, hoi, _⟩ := mem_ready.1 hr
      simp only [wpPlan, hoi] at h
      obtain ⟨v, hy, hn⟩ := h
      exact wpAnyC_first hoi hns hQ (fun z hz => List.all_eq_true.1 h3 z hz) r.length s a w (Region.free_spec hoi h2) hr hy (hC hz.1) (ih c _ _ _ h4 hz.2 hC (hn (hC hz.1)))
    | false =>
      simp only [Region.planB, Bool.and_eq_true, decide_eq_true_eq] at hB
      simp only [Region.planZ] at hz
      refine ⟨fun h0 => (by rw [hB.1] at h0; cases h0), fun j hj => ?_⟩
      rw [hB.1] at hj
      have hji : j = i := by simpa using hj
      rw [hji]
      refine wpOp_mono (fun a' w' h' => ⟨h'.1, ih (c && !Z.contains i) _ a' w' hB.2 hz (fun hc => ?_) h'.2⟩) h
      simp only [Bool.and_eq_true, Bool.not_eq_true'] at hc
      refine h'.1.resolve_left fun hm => ?_
      rw [List.contains_iff_mem.2 hm] at hc
      cases hc.2
/-- **THE REGION, BY A PLAN.** -/
theorem wp_region_plan {id : Nat} {a : Act} {w : World} {l : List Oper} (C : World → Prop) (Z : List Nat) (pl : List (Bool × Nat)) (hm : P.follows .mixedOrders = true)
    (hB : (Region.noSelect l.toArray && Region.planB .any l.toArray Z pl (Array.replicate l.toArray.size false) && Region.planZ Z pl true && decide (pl.length = l.toArray.size)) = true)
    (hQ : ∀ c a a' w, a'.defers = a.defers → Q (.panic c) a' w → Q (.panic c) a w) (hC : C w.drew) (h : wpPlan P l.toArray C Z Q pl a w.drew) : (Code.region id l.toArray true).wp P Q a w := by
  simp only [Bool.and_eq_true, decide_eq_true_eq] at hB
  obtain ⟨⟨⟨h1, h2⟩, h3⟩, h4⟩ := hB
  refine wp_region_any hm ?_
  rw [← h4]
  exact wpAny_of_C _ _ _ _ (anyC_of_plan h1 hQ pl true _ a w.drew (by rw [h4]; exact h2) h3 (fun _ => hC) h)
/-- Operations that are taken first, walked as quiet ones. -/
theorem wpPlan_take {w : World} (is : List Nat) (r : List (Bool × Nat)) : ∀ (a : Act), ((is.filterMap fun i => ops[i]?).all fun o => o.op.stillB) = true → (is.all fun i => decide (i < ops.size)) = true →
    C w → wpQuiet P ops C (fun a' => wpPlan P ops C Z Q r a' w) (is.filterMap fun i => ops[i]?) a → wpPlan P ops C Z Q (is.map (fun i => (true, i)) ++ r) a w := by
  induction is with
  | nil => intro a _ _ _ h; exact h
  | cons i is ih =>
    intro a hs hlt hC h
    simp only [List.all_cons, Bool.and_eq_true, decide_eq_true_eq] at hlt
    have hi : ops[i]? = some ops[i] := Array.getElem?_eq_getElem hlt.1
    simp only [List.filterMap_cons, hi, List.all_cons, Bool.and_eq_true] at hs h
    have hq : qOp P ops C i (wpQuiet P ops C (fun a' => wpPlan P ops C Z Q r a' w) (is.filterMap fun i => ops[i]?)) a := by unfold qOp; simp only [hi]; exact h
    obtain ⟨v, hy, hK⟩ := yieldsIn_of_qOp hi hq
    simp only [List.map_cons, List.cons_append, wpPlan, hi]
    exact ⟨v, yieldsC_of hs.1 hy, fun _ => ih _ hs.2 hlt.2 hC hK⟩
theorem wpPlan_takeL {l : List Oper} {w : World} (is : List Nat) (r : List (Bool × Nat)) (a : Act) (hs : ((is.filterMap fun i => l[i]?).all fun o => o.op.stillB) = true) (hlt : (is.all fun i => decide (i < l.length)) = true)
    (hC : C w) (h : wpQuiet P l.toArray C (fun a' => wpPlan P l.toArray C Z Q r a' w) (is.filterMap fun i => l[i]?) a) : wpPlan P l.toArray C Z Q (is.map (fun i => (true, i)) ++ r) a w := by
  have e : (is.filterMap fun i => l.toArray[i]?) = is.filterMap fun i => l[i]? := by congr 1; funext i; exact List.getElem?_toArray ..
  exact wpPlan_take is r a (by rw [e]; exact hs) (by simpa using hlt) hC (by rw [e]; exact h)
/-- .. operations that hang on no world. -/
theorem wpPlan_pure {l : List Oper} {w : World} (is : List Nat) (r : List (Bool × Nat)) : ∀ (a : Act), ((is.filterMap fun i => l[i]?).all fun o => o.op.stillB) = true → (is.all fun i => decide (i < l.length)) = true →
    wpQuiet P l.toArray (fun _ => True) (fun a' => wpPlan P l.toArray C Z Q r a' w) (is.filterMap fun i => l[i]?) a → wpPlan P l.toArray C Z Q (is.map (fun i => (true, i)) ++ r) a w := by
  induction is with
  | nil => intro a _ _ h; exact h
  | cons i is ih =>
    intro a hs hlt h
    simp only [List.all_cons, Bool.and_eq_true, decide_eq_true_eq] at hlt
    have hi : l[i]? = some l[i] := List.getElem?_eq_getElem hlt.1
    have hi' : l.toArray[i]? = some l[i] := by rw [List.getElem?_toArray]; exact hi
    simp only [List.filterMap_cons, hi, List.all_cons, Bool.and_eq_true] at hs h
    have hq : qOp P l.toArray (fun _ => True) i (wpQuiet P l.toArray (fun _ => True) (fun a' => wpPlan P l.toArray C Z Q r a' w) (is.filterMap fun i => l[i]?)) a := by unfold qOp; simp only [hi']; exact h
    obtain ⟨v, hy, hK⟩ := yieldsIn_of_qOp hi' hq
    have hy' := yieldsC_of hs.1 hy
    simp only [List.map_cons, List.cons_append, wpPlan, hi']
    refine ⟨v, ?_, fun _ => ih _ hs.2 hlt.2 hK⟩
    rcases hy' with ⟨h1, h2⟩ | h1
    · exact .inl ⟨h1, fun w _ => h2 w trivial⟩
    · exact .inr h1
/-- What is asked behind an operation that had to come. -/
def PlanQ (P : Program) (ops : Array Oper) (C : World → Prop) (Z : List Nat) (Q : Exit → Act → World → Prop) (i : Nat) (r : List (Bool × Nat)) : Exit → Act → World → Prop
  | .normal, a, w => (i ∈ Z ∨ C w) ∧ wpPlan P ops C Z Q r a w
  | e, a, w => Q e a w
theorem wpPlan_force {a : Act} {w : World} {i : Nat} {r : List (Bool × Nat)} (o : Oper) (ho : ops[i]? = some o) (h : wpList P ops (PlanQ P ops C Z Q i r) [o] a w) : wpPlan P ops C Z Q ((false, i) :: r) a w := by
  simp only [wpPlan]
  unfold wpOp
  simp only [ho]
  unfold wpList at h
  have hmono : ∀ {a : Act} {w : World}, o.wp P a w (wpList P ops (PlanQ P ops C Z Q i r) []) (PlanQ P ops C Z Q i r) → o.wp P a w (fun a' w' => (i ∈ Z ∨ C w') ∧ wpPlan P ops C Z Q r a' w') Q := by
    intro a w h
    unfold Oper.wp at h ⊢
    generalize (execOp a.eval o).run P w = rr at *
    cases rr with
    | ok n w' =>
      cases n <;> simp only [Oper.upon] at h ⊢
      case value u => exact h
      case skip => exact h
      case defer d => exact h
      case enter f args =>
        refine Calls.mono h fun e w'' he => ?_
        cases e <;> exact he
      case row row args => exact Rows.mono h fun u w'' he => he
    | halt x w' => cases x <;> simp only [Oper.upon] at h ⊢; exact h
  split
  · rename_i hw
    rw [if_pos hw] at h
    rcases h with h | ⟨h1, h2⟩
    · exact .inl (hmono h)
    · exact .inr ⟨h1, h2⟩
  · rename_i hw
    rw [if_neg hw] at h
    exact h
theorem wpPlan_forceL {l : List Oper} {a : Act} {w : World} {i : Nat} {r : List (Bool × Nat)} (o : Oper) (ho : l[i]? = some o) (h : wpList P l.toArray (PlanQ P l.toArray C Z Q i r) [o] a w) : wpPlan P l.toArray C Z Q ((false, i) :: r) a w :=
  wpPlan_force o (by rw [List.getElem?_toArray]; exact ho) h
theorem wpPlan_nil {a : Act} {w : World} (h : Q .normal a w) : wpPlan P ops C Z Q [] a w := h
theorem PlanQ.in_ {a : Act} {w : World} {i : Nat} {r : List (Bool × Nat)} (hC : C w) (h : wpPlan P ops C Z Q r a w) : PlanQ P ops C Z Q i r .normal a w := ⟨.inr hC, h⟩
theorem PlanQ.out {a : Act} {w : World} {i : Nat} {r : List (Bool × Nat)} (hz : Z.contains i = true) (h : wpPlan P ops C Z Q r a w) : PlanQ P ops C Z Q i r .normal a w := ⟨.inl (by simpa using hz), h⟩
theorem run_isAgg_cell {t : TypeId} {d : TypeDesc} (hu : P.underlying t = some d) (hd : d.isRow = false) (w : World) : (isAgg t).run P w = .ok false w := by
  unfold isAgg
  cases d <;> first | (simp [TypeDesc.isRow] at hd; done) | simp [run_underlying hu]
/-- A load of one cell that every world of the class has. -/
theorem wpQuiet_load_cell {R : Act → Prop} {rest : List Oper} {o : Oper} {a : Act} {b off : Nat} {v : Value} (hb : ∀ w, C w → w.cell? ⟨b, off, none⟩ = some v) (hgd : o.guard = none) (ty : TypeId) (x : Operand) (ho : o.op = .load ty x)
    (hx : a.eval x = .pointer (some ⟨b, off, none⟩)) (d : TypeDesc) (hu : P.underlying ty = some d) (hd : d.isRow = false)
    (h : wpQuiet P ops C R rest (a.put o.dst v)) : wpQuiet P ops C R (o :: rest) a := by
  refine wpQuiet_step fun K hK => ?_
  rw [if_pos (by simp [Region.wanted, hgd])]
  refine ⟨v, fun w hw => ?_, hK _ h⟩
  have hc := hb w hw
  unfold Oper.quietAt execOp
  simp only [ho, hx, Instr.loadAt, Instr.sureAddr, Sem.run_bind, Sem.run_pure, Result.andThen_ok, loadVar, run_isAgg_cell hu hd w, Bool.false_eq_true, if_false]
  simp [hc, Oper.quietUpon]
end
end Go

/- A region that draws its order, by a plan, inside a fence (the round of a loop over an iterator, too): operations that call nothing. Plain facts over any program. No condition. -/
namespace Go
section
variable {P : Program} {ops : Array Oper} {md : Region.Mode} {F : Fence} {n : Nat}
/-- An operation that yields a value or nothing, and calls nothing. -/
def Op.calmB : Op → Bool
  | .store .. | .entryStore .. | .mapUpdate .. | .insert .. => true
  | .lookup .. | .mapEntry .. | .alloc _ | .box .. | .build .. | .buildSlice .. | .makeMap .. | .makeSlice .. | .sliceToArrayPointer .. => true
  | .call _ => false
  | o => o.stillB
theorem calm_about {o : Oper} (h : o.op.calmB = true) (w : World) (ρ : Operand → Value) : o.about P w ρ = none := by
  unfold Oper.about
  cases ho : o.op <;> first | rfl | skip
  rw [ho] at h
  simp [Op.calmB] at h
theorem calm_semAt {o : Oper} (h : o.op.calmB = true) (ρ : Operand → Value) (ro : Option Nat) : Oper.semAt ro ρ o = execOp ρ o :=
  Oper.semAt_eq ro ρ o fun c hc => by rw [hc] at h; simp [Op.calmB, Op.stillB, Op.valued] at h
theorem calm_run {o : Oper} (h : o.op.calmB = true) (ρ : Operand → Value) (w w' : World) (x : Next) (hr : (execOp ρ o).run P w = .ok x w') : (∃ v, x = .value v) ∨ x = .skip := by
  by_cases hs : o.op.stillB = true
  · exact .inl (still_run hs ρ w w' x hr)
  · obtain ⟨dst, op, type, pos, after, guard⟩ := o
    have one : ∀ m : Sem Value, (do let x ← m; pure (Next.value x) : Sem Next).run P w = .ok x w' → (∃ v, x = .value v) ∨ x = .skip := fun m hm => by
      rw [Sem.run_bind] at hm
      generalize m.run P w = r at hm
      cases r with
      | ok y w2 => simp only [Result.andThen_ok, Sem.run_pure, Result.ok.injEq] at hm; exact .inl ⟨y, hm.1.symm⟩
      | halt y w2 => simp [Result.andThen] at hm
    have none' : ∀ m : Sem Unit, (do m; pure Next.skip : Sem Next).run P w = .ok x w' → (∃ v, x = .value v) ∨ x = .skip := fun m hm => by
      rw [Sem.run_bind] at hm
      generalize m.run P w = r at hm
      cases r with
      | ok y w2 => simp only [Result.andThen_ok, Sem.run_pure, Result.ok.injEq] at hm; exact .inr hm.1.symm
      | halt y w2 => simp [Result.andThen] at hm
    cases op
    all_goals first
      | exact absurd h hs
      | exact one _ hr
      | exact none' _ hr
      | (simp [Op.calmB] at h; done)
/-- The same ends but the machine's outgrowing. -/
def strict (Q : Exit → Act → World → Prop) : Exit → Act → World → Prop
  | .outgrown, _, _ => False
  | e, a, w => Q e a w
@[go_sem] theorem strict_normal (Q : Exit → Act → World → Prop) (a : Act) (w : World) : strict Q .normal a w = Q .normal a w := rfl
theorem opIn_of_op {Q : Exit → Act → World → Prop} {i : Nat} {K K' : Act → World → Prop} {a : Act} {w : World} (hc : (ops.all fun o => o.op.calmB) = true) (hk : ∀ a w, K a w → K' a w)
    (h : wpOp P ops (strict Q) i K a w) : wpOpIn F n P ops Q i K' a w := by
  unfold wpOp at h
  unfold wpOpIn
  cases ho : ops[i]? with
  | none => rw [ho] at h; exact hk _ _ h
  | some o =>
    rw [ho] at h
    have hco : o.op.calmB = true := by
      have := Array.all_eq_true'.1 hc o (Array.mem_of_getElem? ho)
      simpa using this
    simp only at h ⊢
    split
    · rename_i hw
      rw [if_pos hw] at h
      have hlet : ¬ LetsOut (strict Q) := fun ⟨_, _, hq⟩ => hq
      have h1 := h.resolve_right fun hh => hlet hh.2
      unfold Oper.wp at h1
      unfold Oper.wpIn
      refine ⟨fun f hf => (by rw [calm_about hco] at hf; cases hf), ?_⟩
      rw [calm_semAt hco]
      cases hr : (execOp a.eval o).run P w with
      | ok x w' =>
        rw [hr] at h1
        rcases calm_run hco _ _ _ _ hr with ⟨v, rfl⟩ | rfl
        · exact hk _ _ h1
        · exact hk _ _ h1
      | halt x w' =>
        rw [hr] at h1
        cases x <;> first | exact h1 | exact h1.elim
    · rename_i hw
      rw [if_neg hw] at h
      exact ⟨fun f hf => (by rw [calm_about hco] at hf; cases hf), hk _ _ h⟩
/-- The plain end alone. -/
def tidy (Q : Exit → Act → World → Prop) : Exit → Act → World → Prop
  | .normal, a, w => Q .normal a w
  | _, _, _ => False
theorem tidy_le (Q : Exit → Act → World → Prop) (e : Exit) (a : Act) (w : World) (h : tidy Q e a w) : Q e a w := by
  cases e <;> first | exact h | exact h.elim
@[go_sem] theorem tidy_normal (Q : Exit → Act → World → Prop) (a : Act) (w : World) : tidy Q .normal a w = Q .normal a w := rfl
theorem wpPlan_tidy {C : World → Prop} {Z : List Nat} {Q : Exit → Act → World → Prop} {a : Act} {w : World} (h : Q .normal a w) : wpPlan P ops C Z (tidy Q) [] a w := h
/-- **THE REGION, BY A PLAN, where it neither panics nor outgrows the machine.** -/
theorem wp_region_planT {id : Nat} {a : Act} {w : World} {l : List Oper} {Q : Exit → Act → World → Prop} (C : World → Prop) (Z : List Nat) (pl : List (Bool × Nat)) (hm : P.follows .mixedOrders = true)
    (hB : (Region.noSelect l.toArray && Region.planB .any l.toArray Z pl (Array.replicate l.toArray.size false) && Region.planZ Z pl true && decide (pl.length = l.toArray.size)) = true)
    (hC : C w.drew) (h : wpPlan P l.toArray C Z (tidy Q) pl a w.drew) : (Code.region id l.toArray true).wp P Q a w :=
  wp_mono (wp_region_plan C Z pl hm hB (fun _ _ _ _ _ q => q.elim) hC h) (tidy_le Q)
end
end Go

/- The first 16 bytes of SHA-256, as plain Lean functions over UInt32 and lists of bytes, with no program in sight. No condition. -/
namespace Sha

structure St where
  a : UInt32
  b : UInt32
  c : UInt32
  d : UInt32
  e : UInt32
  f : UInt32
  g : UInt32
  h : UInt32
  deriving DecidableEq

def rotr (x : UInt32) (n : Nat) : UInt32 := (x >>> UInt32.ofNat n) ||| (x <<< UInt32.ofNat (32 - n))
def s0 (x : UInt32) : UInt32 := rotr x 7 ^^^ rotr x 18 ^^^ (x >>> 3)
def s1 (x : UInt32) : UInt32 := rotr x 17 ^^^ rotr x 19 ^^^ (x >>> 10)
/-- the next word, the words so far standing in a list, the newest first -/
def next (l : List UInt32) : UInt32 := s1 (l.getD 1 0) + l.getD 6 0 + s0 (l.getD 14 0) + l.getD 15 0
def step (m : Nat → UInt32) (t : Nat) (l : List UInt32) : List UInt32 := (if t < 16 then m t else next l) :: l
def ws (m : Nat → UInt32) : Nat → List UInt32
  | 0 => []
  | t + 1 => step m t (ws m t)
/-- word number t -/
def wd (m : Nat → UInt32) (t : Nat) : UInt32 := (ws m (t + 1)).getD 0 0

theorem ws_get (m : Nat → UInt32) : ∀ (t i : Nat), i < t → (ws m t).getD (t - 1 - i) 0 = wd m i
  | 0, i, h => by omega
  | t + 1, i, h => by
    by_cases e : i = t
    · subst e
      simp [wd]
    · have := ws_get m t i (by omega)
      have e2 : t + 1 - 1 - i = (t - 1 - i) + 1 := by omega
      rw [e2]
      simp only [ws, step, List.getD_cons_succ]
      exact this
theorem wd_lo (m : Nat → UInt32) {t : Nat} (h : t < 16) : wd m t = m t := by simp [wd, ws, step, h]
theorem wd_hi (m : Nat → UInt32) {t : Nat} (h : 16 ≤ t) : wd m t = s1 (wd m (t - 2)) + wd m (t - 7) + s0 (wd m (t - 15)) + wd m (t - 16) := by
  have h1 := ws_get m t (t - 2) (by omega)
  have h2 := ws_get m t (t - 7) (by omega)
  have h3 := ws_get m t (t - 15) (by omega)
  have h4 := ws_get m t (t - 16) (by omega)
  rw [show t - 1 - (t - 2) = 1 by omega] at h1
  rw [show t - 1 - (t - 7) = 6 by omega] at h2
  rw [show t - 1 - (t - 15) = 14 by omega] at h3
  rw [show t - 1 - (t - 16) = 15 by omega] at h4
  rw [← h1, ← h2, ← h3, ← h4]
  simp [wd, ws, step, next, show ¬ t < 16 by omega]

def t1 (k w : UInt32) (s : St) : UInt32 := s.h + (rotr s.e 6 ^^^ rotr s.e 11 ^^^ rotr s.e 25) + ((s.e &&& s.f) ^^^ (~~~s.e &&& s.g)) + k + w
def t2 (s : St) : UInt32 := (rotr s.a 2 ^^^ rotr s.a 13 ^^^ rotr s.a 22) + ((s.a &&& s.b) ^^^ (s.a &&& s.c) ^^^ (s.b &&& s.c))
def round (k w : UInt32) (s : St) : St := ⟨t1 k w s + t2 s, s.a, s.b, s.c, s.d + t1 k w s, s.e, s.f, s.g⟩

def kl : List UInt32 := [
  0x428a2f98, 0x71374491, 0xb5c0fbcf, 0xe9b5dba5, 0x3956c25b, 0x59f111f1, 0x923f82a4, 0xab1c5ed5,
  0xd807aa98, 0x12835b01, 0x243185be, 0x550c7dc3, 0x72be5d74, 0x80deb1fe, 0x9bdc06a7, 0xc19bf174,
  0xe49b69c1, 0xefbe4786, 0x0fc19dc6, 0x240ca1cc, 0x2de92c6f, 0x4a7484aa, 0x5cb0a9dc, 0x76f988da,
  0x983e5152, 0xa831c66d, 0xb00327c8, 0xbf597fc7, 0xc6e00bf3, 0xd5a79147, 0x06ca6351, 0x14292967,
  0x27b70a85, 0x2e1b2138, 0x4d2c6dfc, 0x53380d13, 0x650a7354, 0x766a0abb, 0x81c2c92e, 0x92722c85,
  0xa2bfe8a1, 0xa81a664b, 0xc24b8b70, 0xc76c51a3, 0xd192e819, 0xd6990624, 0xf40e3585, 0x106aa070,
  0x19a4c116, 0x1e376c08, 0x2748774c, 0x34b0bcb5, 0x391c0cb3, 0x4ed8aa4a, 0x5b9cca4f, 0x682e6ff3,
  0x748f82ee, 0x78a5636f, 0x84c87814, 0x8cc70208, 0x90befffa, 0xa4506ceb, 0xbef9a3f7, 0xc67178f2]
def kt (t : Nat) : UInt32 := kl.getD t 0
def init : St := ⟨0x6a09e667, 0xbb67ae85, 0x3c6ef372, 0xa54ff53a, 0x510e527f, 0x9b05688c, 0x1f83d9ab, 0x5be0cd19⟩

/-- behind t rounds -/
def rounds (m : Nat → UInt32) (s : St) : Nat → St
  | 0 => s
  | t + 1 => round (kt t) (wd m t) (rounds m s t)
def add (s x : St) : St := ⟨s.a + x.a, s.b + x.b, s.c + x.c, s.d + x.d, s.e + x.e, s.f + x.f, s.g + x.g, s.h + x.h⟩
def be (a b c d : UInt8) : UInt32 := (a.toUInt32 <<< 24) ||| (b.toUInt32 <<< 16) ||| (c.toUInt32 <<< 8) ||| d.toUInt32
/-- word number t of bytes, from a place on -/
def word (l : List UInt8) (at_ t : Nat) : UInt32 := be (l.getD (at_ + 4 * t) 0) (l.getD (at_ + 4 * t + 1) 0) (l.getD (at_ + 4 * t + 2) 0) (l.getD (at_ + 4 * t + 3) 0)
/-- a block mixed in: the 64 bytes from a place on -/
def blk (s : St) (l : List UInt8) (at_ : Nat) : St := add s (rounds (word l at_) s 64)
/-- n blocks from a place on -/
def blks (l : List UInt8) (s : St) : Nat → St
  | 0 => s
  | n + 1 => blk (blks l s n) l (64 * n)

/-- the first k bytes of a word -/
def part (l : List UInt8) (at_ t : Nat) : Nat → UInt32
  | 0 => 0
  | k + 1 => (part l at_ t k <<< 8) ||| (l.getD (at_ + 4 * t + k) 0).toUInt32
theorem word_drop (l : List UInt8) (k at_ t : Nat) : word (l.drop k) at_ t = word l (k + at_) t := by
  simp [word, List.getD_eq_getElem?_getD, List.getElem?_drop, Nat.add_assoc]
theorem blk_drop (s : St) (l : List UInt8) (k at_ : Nat) : blk s (l.drop k) at_ = blk s l (k + at_) := by
  have : word (l.drop k) at_ = word l (k + at_) := funext (word_drop l k at_)
  rw [blk, blk, this]

def get (s : St) : Nat → UInt32
  | 0 => s.a
  | 1 => s.b
  | 2 => s.c
  | 3 => s.d
  | 4 => s.e
  | 5 => s.f
  | 6 => s.g
  | _ => s.h
def byte (x : UInt32) (i : Nat) : UInt8 := UInt8.ofNat (x.toNat / 2 ^ (24 - 8 * i) % 256)
def zeros (n : Nat) : Nat := (119 - n % 64) % 64
/-- a number's eight bytes, the highest first -/
def eight (n : Nat) : List UInt8 := (List.range 8).map fun k => UInt8.ofNat (n / 2 ^ (56 - 8 * k) % 256)
theorem eight_length (n : Nat) : (eight n).length = 8 := by simp [eight]
theorem eight_take (n k : Nat) (h : k < 8) : (eight n).take (k + 1) = (eight n).take k ++ [UInt8.ofNat (n / 2 ^ (56 - 8 * k) % 256)] := by
  rw [List.take_succ_eq_append_getElem (by rw [eight_length]; exact h)]
  simp [eight]
def tail (n : Nat) : List UInt8 := 128 :: (List.replicate (zeros n) 0 ++ eight (n * 8))
def pad (l : List UInt8) : List UInt8 := l ++ tail l.length
/-- byte number k of what comes out -/
def outAt (s : St) (k : Nat) : UInt8 := byte (get s (k / 4)) (k % 4)
def out (s : St) : List UInt8 := (List.range 16).map (outAt s)
def sum (l : List UInt8) : List UInt8 := out (blks (pad l) init ((pad l).length / 64))

theorem sum_length (l : List UInt8) : (sum l).length = 16 := by simp [sum, out]
theorem zeros_add (n t : Nat) : zeros (n + 64 * t) = zeros n := by unfold zeros; rw [Nat.add_mul_mod_self_left]
theorem zeros_not {n i : Nat} (hn : n < 64) (h : i < zeros n) : (n + 1 + i) % 64 ≠ 56 := by
  unfold zeros at h
  have : n % 64 = n := Nat.mod_eq_of_lt hn
  rw [this] at h
  omega
theorem zeros_is {n : Nat} (hn : n < 64) : (n + 1 + zeros n) % 64 = 56 := by
  unfold zeros
  have : n % 64 = n := Nat.mod_eq_of_lt hn
  rw [this]
  omega
theorem zeros_lt (n : Nat) : zeros n < 64 := Nat.mod_lt _ (by omega)
theorem tail_length (n : Nat) : (tail n).length = zeros n + 9 := by simp [tail, eight_length]
theorem pad_length (l : List UInt8) : (pad l).length = l.length + zeros l.length + 9 := by simp [pad, tail_length]; omega
theorem pad_mod (l : List UInt8) : (pad l).length % 64 = 0 := by rw [pad_length]; unfold zeros; omega


theorem ws_congr {m m' : Nat → UInt32} (h : ∀ t, t < 16 → m t = m' t) : ∀ t, ws m t = ws m' t
  | 0 => rfl
  | t + 1 => by
    simp only [ws, step, ws_congr h t]
    by_cases e : t < 16
    · rw [if_pos e, if_pos e, h t e]
    · rw [if_neg e, if_neg e]
theorem rounds_congr {m m' : Nat → UInt32} (h : ∀ t, t < 16 → m t = m' t) (s : St) : ∀ t, rounds m s t = rounds m' s t
  | 0 => rfl
  | t + 1 => by
    have e : wd m t = wd m' t := by unfold wd; rw [ws_congr h]
    simp only [rounds, e, rounds_congr h s t]
theorem word_append (l x : List UInt8) (at_ t : Nat) (h : at_ + 4 * t + 4 ≤ l.length) : word (l ++ x) at_ t = word l at_ t := by
  have e : ∀ i, i < l.length → (l ++ x).getD i 0 = l.getD i 0 := fun i hi => by
    rw [List.getD_eq_getElem?_getD, List.getD_eq_getElem?_getD, List.getElem?_append_left hi]
  unfold word
  rw [e _ (by omega), e _ (by omega), e _ (by omega), e _ (by omega)]
theorem blk_append (s : St) (l x : List UInt8) (at_ : Nat) (h : at_ + 64 ≤ l.length) : blk s (l ++ x) at_ = blk s l at_ := by
  unfold blk
  rw [rounds_congr (fun t ht => word_append l x at_ t (by omega)) s 64]
theorem blks_append (l x : List UInt8) (s : St) : ∀ n, 64 * n ≤ l.length → blks (l ++ x) s n = blks l s n
  | 0, _ => rfl
  | n + 1, h => by
    simp only [blks, blks_append l x s n (by omega)]
    exact blk_append _ _ _ _ (by omega)
end Sha

/- The functions that turn a word right, and the tables of constants, answer what the plain functions say. Condition: the count is from 1 to 31. -/
namespace Go.Proofs.YtgkljncigbiffaaDoor
open Go.RowKit
theorem u64_and31 (n : Nat) (h1 : 1 ≤ n) (h2 : n ≤ 31) : bits .and .u64 (IntKind.u64.wrap (-(n : Int))) 31 = ((32 - n : Nat) : Int) := by
  have e : IntKind.u64.wrap (-(n : Int)) = ((18446744073709551616 - n : Nat) : Int) := by
    have : IntKind.u64.wrap (-(n : Int)) = (-(n : Int)) % 18446744073709551616 := by simp [IntKind.wrap, IntKind.bits, IntKind.signed]
    rw [this]; omega
  rw [e]
  have := u64_and_nat (18446744073709551616 - n) 31 (by omega) (by omega)
  have e2 : (18446744073709551616 - n) &&& 31 = 32 - n := by
    have := Nat.and_two_pow_sub_one_eq_mod (18446744073709551616 - n) 5
    simp only [Nat.reducePow, Nat.reduceSub] at this
    rw [this]; omega
  rw [e2] at this
  exact this
set_option maxHeartbeats 400000 in
theorem rot_any (x: UInt32) (n : Int) (h1 : 1 ≤ n) (h2 : n ≤ 31) (w : World) :
    Calls Tryd.prog 161 #[.int .u32 (iu32 x), .int .i64 (-n)] w fun e w' => e = .returned (.int .u32 (iu32 (Sha.rotr x n.toNat))) ∧ w = w' := by
  obtain ⟨n, rfl⟩ := Int.eq_ofNat_of_zero_le (show 0 ≤ n by omega)
  have e1 := u32_shr_w x n (by omega)
  have e2 := u32_shl_w x (32 - n) (by omega)
  have e3 : (32 - (n : Int)).toNat = 32 - n := by omega
  have e5 : 32 - (32 - n) = n := by omega
  have e6 : (32 : Int) - ((32 - n : Nat) : Int) = (n : Int) := by omega
  have e4 := u64_and31 n (by omega) (by omega)
  go_enter Tryd.func161, Tryd.ntmps161
  go_wp2
  go_ret
  exact ⟨ret_int (by rw [UInt32.or_comm]; rfl), rfl⟩
set_option maxHeartbeats 400000 in
theorem turned_any (x: UInt32) (n : Int) (h1 : 1 ≤ n) (h2 : n ≤ 31) (w : World) :
    Calls Tryd.prog 158 #[.int .u32 (iu32 x), .int .i64 n] w fun e w' => e = .returned (.int .u32 (iu32 (Sha.rotr x n.toNat))) ∧ w = w' := by
  go_enter Tryd.func158, Tryd.ntmps158
  go_wp2_with fail
  refine (rot_any x n h1 h2 _).mono ?_
  rintro e w' ⟨rfl, rfl⟩
  go_wp2
  go_ret
  exact ⟨rfl, rfl⟩
end Go.Proofs.YtgkljncigbiffaaDoor

/- What the blocks hold in which both texts mix 64 bytes in: plain facts on worlds. No condition. -/
namespace Go.Proofs.YtgkljncigbiffaaDoor
open Go.RowKit
def wcell (m : Nat → UInt32) (t i : Nat) : Value := .int .u32 (if i < t then iu32 (Sha.wd m i) else 0)
def zero64 : Array Value := arr 64 fun _ => .int .u32 0
def zero8 : Array Value := arr 8 fun _ => .int .u32 0
def karr : Array Value := arr 64 fun i => .int .u32 (iu32 (Sha.kt i))
def st8 (s : Sha.St) : Array Value := #[.int .u32 (iu32 s.a), .int .u32 (iu32 s.b), .int .u32 (iu32 s.c), .int .u32 (iu32 s.d), .int .u32 (iu32 s.e), .int .u32 (iu32 s.f), .int .u32 (iu32 s.g), .int .u32 (iu32 s.h)]
theorem st8_arr (s : Sha.St) : st8 s = arr 8 fun i => .int .u32 (iu32 (Sha.get s i)) := rfl
/-- The eight words, of which the first t have been added to. -/
def sum8 (s x : Sha.St) (t : Nat) : Array Value := arr 8 fun i => .int .u32 (iu32 (if i < t then Sha.get s i + Sha.get x i else Sha.get s i))
theorem sum8_zero (s x : Sha.St) : st8 s = sum8 s x 0 := by rw [st8_arr]; exact arr_congr fun i _ => by simp
theorem sum8_get (s x : Sha.St) (t : Nat) (h : t < 8) : (sum8 s x t)[t]? = some (.int .u32 (iu32 (Sha.get s t))) := by rw [sum8, arr_at _ h]; simp
theorem st8_get (x : Sha.St) (t : Nat) (h : t < 8) : (st8 x)[t]? = some (.int .u32 (iu32 (Sha.get x t))) := by rw [st8_arr, arr_at _ h]
theorem sum8_set (s x : Sha.St) (t : Nat) : (sum8 s x t).setIfInBounds t (.int .u32 (iu32 (Sha.get s t + Sha.get x t))) = sum8 s x (t + 1) := by
  unfold sum8
  rw [arr_set]
  refine arr_congr fun i _ => ?_
  by_cases e : i = t
  · subst e; simp
  · rw [if_neg e]
    by_cases e2 : i < t
    · rw [if_pos e2, if_pos (by omega)]
    · rw [if_neg e2, if_neg (by omega)]
theorem sum8_all (s x : Sha.St) : sum8 s x 8 = st8 (Sha.add s x) := by
  rw [st8_arr]
  refine arr_congr fun i hi => ?_
  rw [if_pos hi]
  match i, hi with
  | 0, _ => rfl
  | 1, _ => rfl
  | 2, _ => rfl
  | 3, _ => rfl
  | 4, _ => rfl
  | 5, _ => rfl
  | 6, _ => rfl
  | 7, _ => rfl
theorem st8_size (s : Sha.St) : (st8 s).size = 8 := rfl
theorem karr_size : karr.size = 64 := arr_size _ _
theorem zero8_size : zero8.size = 8 := arr_size _ _
theorem zero64_size : zero64.size = 64 := arr_size _ _
theorem st8_one (s : Sha.St) : (st8 s).all (·.oneCell') = true := by simp [st8, Value.oneCell']
theorem size8 : (Tryd.prog.info? 221).map (·.size) = some 8 := by kernel_rfl
theorem alloc64 (w : World) : (zeroValue 222).run Tryd.prog w = .ok (.agg zero64) w := by
  have h : (Tryd.prog.info? 222).map (fun i => (i.zero, i.size)) = some (some (.agg zero64), 64) := by kernel_rfl
  exact (zero_of_info h).1 w
/-- What the function's own blocks hold: the words, the constants, the result's place, the schedule. -/
structure BInv (T : TypeId) (w0 wr : World) (hs : Sha.St) (m : Nat → UInt32) (t : Nat) : Prop where
  ww : Blk wr (w0.heap.size + 1 + 1 + 1) 222 (arr 64 (wcell m t))
  hh : Blk wr w0.heap.size T (st8 hs)
  kk : Blk wr (w0.heap.size + 1) 222 karr
  zz : Blk wr (w0.heap.size + 1 + 1) T zero8
  bel : Below w0.heap.size w0 wr
theorem BInv.drewN {T : TypeId} {w0 wr : World} {hs : Sha.St} {m : Nat → UInt32} {t : Nat} (h : BInv T w0 wr hs m t) (k : Nat) : BInv T w0 (wr.drewN k) hs m t :=
  ⟨h.ww, h.hh, h.kk, h.zz, ⟨h.bel.os, h.bel.tape, h.bel.output, h.bel.size, h.bel.block⟩⟩
theorem BInv.store {T : TypeId} {w0 wr : World} {hs : Sha.St} {m : Nat → UInt32} {t : Nat} (h : BInv T w0 wr hs m t) (x : UInt32) (hx : Sha.wd m t = x) :
    BInv T w0 (wr.setCell ⟨w0.heap.size + 1 + 1 + 1, t, none⟩ (.int .u32 (iu32 x))).drew hs m (t + 1) := by
  refine ⟨?_, h.hh.off (by omega) _, h.kk.off (by omega) _, h.zz.off (by omega) _, (h.bel.set_ (by omega) _).drew⟩
  have hs := h.ww.set_ t (.int .u32 (iu32 x))
  rw [arr_set] at hs
  refine hs.sub (arr_congr fun i hi => ?_)
  unfold wcell
  by_cases e : i = t
  · subst e; rw [if_pos rfl, if_pos (by omega), hx]
  · rw [if_neg e]; by_cases e2 : i < t
    · rw [if_pos e2, if_pos (by omega)]
    · rw [if_neg e2, if_neg (by omega)]
theorem BInv.get {T : TypeId} {w0 wr : World} {hs : Sha.St} {m : Nat → UInt32} {t : Nat} (h : BInv T w0 wr hs m t) {i : Nat} (hi : i < t) (h64 : i < 64) :
    wr.cell? ⟨w0.heap.size + 1 + 1 + 1, i, none⟩ = some (.int .u32 (iu32 (Sha.wd m i))) := by
  rw [h.ww.cell i, arr_at _ h64, wcell, if_pos hi]
theorem BInv.get' {T : TypeId} {w0 wr : World} {hs : Sha.St} {m : Nat → UInt32} {t : Nat} (h : BInv T w0 wr hs m t) {i : Nat} (h64 : i < 64) :
    wr.cell? ⟨w0.heap.size + 1 + 1 + 1, i, none⟩ = some (wcell m t i) := by
  rw [h.ww.cell i, arr_at _ h64]
theorem BInv.new (T : TypeId) (w : World) (hs : Sha.St) (m : Nat → UInt32) : BInv T w ((((w.alloc (.cells (st8 hs) T)).alloc (.cells karr 222)).alloc (.cells #[.int .u32 0, .int .u32 0, .int .u32 0, .int .u32 0, .int .u32 0, .int .u32 0, .int .u32 0, .int .u32 0] T)).alloc (.cells zero64 222)) hs m 0 := by
  refine ⟨?_, ?_, ?_, ?_, ?_⟩
  · exact Blk.new' _ _ _ (by simp)
  · exact ((Blk.new' _ _ _ rfl).alloc _).alloc _ |>.alloc _
  · exact ((Blk.new' _ _ _ (by simp)).alloc _).alloc _
  · exact ((Blk.new' _ _ _ (by simp)).alloc _)
  · exact (((Below.refl _ _).alloc (by simp) _).alloc (by simp) _ |>.alloc (by simp; omega) _).alloc (by simp; omega) _
theorem BInv.alloc {T : TypeId} {w0 wr : World} {hs : Sha.St} {m : Nat → UInt32} {t : Nat} (h : BInv T w0 wr hs m t) (o : Obj) : BInv T w0 (wr.alloc o) hs m t :=
  ⟨h.ww.alloc o, h.hh.alloc o, h.kk.alloc o, h.zz.alloc o, h.bel.alloc (by have := h.hh.lt; omega) o⟩
theorem BInv.upd {T : TypeId} {w0 wr w' : World} {hs : Sha.St} {m : Nat → UInt32} {t g : Nat} (h : BInv T w0 wr hs m t) (u : Upd g wr w') (hg : w0.heap.size + 1 + 1 + 1 < g) : BInv T w0 w' hs m t :=
  ⟨h.ww.upd u (by omega), h.hh.upd u (by omega), h.kk.upd u (by omega), h.zz.upd u (by omega), h.bel.upd u (by omega)⟩
theorem zero8_new (T : TypeId) (w : World) : Blk (w.alloc (.cells #[.int .u32 0, .int .u32 0, .int .u32 0, .int .u32 0, .int .u32 0, .int .u32 0, .int .u32 0, .int .u32 0] T)) w.heap.size T zero8 := Blk.new _ _ _
theorem quiet_left {P : Program} {f : FuncId} {args : Array Value} {w : World} {n : Nat} {v : Value}
    (h : Calls P f args (w.drewN n) fun e w' => e = .returned v ∧ w.drewN n = w') : Calls P f args (w.drewN n) fun e w'' => e = .returned v ∧ ∃ m, w'' = w.drewN m :=
  h.mono fun _ _ ⟨he, hm⟩ => ⟨he, n, hm.symm⟩

end Go.Proofs.YtgkljncigbiffaaDoor
