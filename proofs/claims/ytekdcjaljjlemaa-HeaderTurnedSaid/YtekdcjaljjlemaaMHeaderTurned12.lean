/- Are both seals of a message's bytes right: what the law's helper answers. Conditions: the bytes can be read; they are 256 at least. -/
import Derived.Test.YtekdcjaljjlemaaMHeaderTurned11
namespace Go.Proofs.Ytekdcjaljjlemaa
open Go.RowKit
def fillN (N : Nat) (P : List UInt8) : List UInt8 := P ++ List.replicate (N - P.length) 0
theorem fillN_snoc (N : Nat) (P : List UInt8) (b : UInt8) (h : P.length < N) : (fillN N P).set P.length b = fillN N (P ++ [b]) := by
  unfold fillN
  rw [List.set_append_right _ _ (Nat.le_refl _), Nat.sub_self, List.length_append, List.append_assoc]
  congr 1
  obtain ⟨n, hn⟩ : ∃ n, N - P.length = n + 1 := ⟨N - P.length - 1, by omega⟩
  rw [hn, List.replicate_succ, List.set_cons_zero, show N - (P.length + [b].length) = n by simp; omega]
  rfl
theorem fillN_step (l : List UInt8) (N i : Nat) (hN : i < N) (x : UInt8) (hx : l[i]? = some x) : (fillN N (l.take i)).set i x = fillN N (l.take (i + 1)) := by
  have hi : i < l.length := by
    rcases Nat.lt_or_ge i l.length with h1 | h1
    · exact h1
    · rw [List.getElem?_eq_none h1] at hx; cases hx
  have hl : (l.take i).length = i := by rw [List.length_take]; omega
  have h := fillN_snoc N (l.take i) x (by omega)
  rw [hl] at h
  rw [h, List.take_succ_eq_append_getElem hi]
  rw [List.getElem?_eq_getElem hi] at hx
  injection hx with hx
  rw [hx]
theorem fillN_full (N : Nat) (P : List UInt8) (h : P.length = N) : fillN N P = P := by unfold fillN; rw [h, Nat.sub_self]; simp
theorem zero16_fill (l : List UInt8) : zero16 = ((fillN 16 (l.take 0)).map u8v).toArray := by rfl
def RightRel (w0 : World) (g0 : Nat) (l : List UInt8) (v : Value) (wr : World) : Prop :=
  ∃ i : Nat, i ≤ 16 ∧ v = .int .i64 (i : Int) ∧ Blk wr g0 57 ((fillN 16 (l.take i)).map u8v).toArray ∧ Blk wr (g0 + 1) 57 ((fillN 16 ((l.drop 16).take i)).map u8v).toArray ∧ Below g0 w0 wr
set_option maxRecDepth 100000 in
set_option maxHeartbeats 4000000 in
theorem hright_any (A : Option Addr) (n c : Nat) (l : List UInt8) (hn : n = l.length) (h256 : 256 ≤ n) (hc : n ≤ c) (hc2 : n ≤ 140737488351232 ∧ c ≤ 9223372036854775807) (w : World) (hby : Bytes w A l) :
    Calls Try.prog 23 #[.slice A n c] w fun e w' => e = .returned (.bool (decide (Sha.sum ((l.drop 16).take 240) = l.take 16) && decide (Sha.sum (l.drop 256) = (l.drop 16).take 16))) ∧ Below w.heap.size w w' := by
  have hz := alloc16
  obtain ⟨R, hR⟩ : ∃ R : Bool, R = (decide (Sha.sum ((l.drop 16).take 240) = l.take 16) && decide (Sha.sum (l.drop 256) = (l.drop 16).take 16)) := ⟨_, rfl⟩
  rw [← hR]
  have HR := Lib.hid hR
  clear hR
  obtain ⟨b, off, rfl, hbl, hcell⟩ := hby.at_ (by omega)
  have h0 := ((Blk.new w 57 zero16).alloc (.cells zero16 57)).sub (zero16_fill l)
  have h1 := (Blk.new' (w.alloc (.cells zero16 57)) 57 zero16 (n := w.heap.size + 1) (by simp)).sub (zero16_fill (l.drop 16))
  have hB := ((Below.refl w.heap.size w).alloc (Nat.le_refl _) (.cells zero16 57)).alloc (by simp) (.cells zero16 57)
  have HN := Lib.hid (And.intro hn (And.intro hc hc2))
  have HBY := Lib.hid hby
  have HST := Lib.hid (And.intro h0 (And.intro h1 hB))
  obtain ⟨g0, hg0⟩ : ∃ g0, g0 = w.heap.size := ⟨_, rfl⟩
  have HG := Lib.hid hg0
  rw [← hg0] at hbl HST ⊢
  clear h0 h1 hB hn hby hg0
  go_enter Try.func23, Try.ntmps23
  go_wp2_with fail
  rw [← HG.out]
  generalize (w.alloc (.cells zero16 57)).alloc (.cells zero16 57) = w1 at HST ⊢
  go_loopw [5] (fun v wr => RightRel w g0 l v wr) (fun v _ => 16 - (intOf v).toNat)
  case atStart => exact ⟨0, by omega, rfl, HST.out.1, HST.out.2.1, HST.out.2.2⟩
  case round =>
    obtain ⟨i, hi, rfl, hr0, hr1, hBr⟩ := hrel
    by_cases hlt : i < 16
    · have hget : ∀ j, j < l.length → l[j]? = some (l.getD j 0) := fun j hj => by rw [List.getD_eq_getElem?_getD, List.getElem?_eq_getElem hj]; rfl
      have hx := hget i (by have := HN.out.1; omega)
      have hy : (l.drop 16)[i]? = some (l.getD (16 + i) 0) := by rw [List.getElem?_drop]; exact hget (16 + i) (by have := HN.out.1; omega)
      have dx := (hBr.cell (p := ⟨b, off + i, none⟩) hbl).trans (hcell i (by have := HN.out.1; omega))
      have dy := (hBr.cell (p := ⟨b, off + (16 + i), none⟩) hbl).trans (hcell (16 + i) (by have := HN.out.1; omega))
      generalize l.getD i 0 = x at hx dx
      generalize l.getD (16 + i) 0 = y at hy dy
      clear hget
      have k0 := hr0.frozen i
      have k1 := hr1.frozen i
      have hlen0 : i < (fillN 16 (l.take i)).length := by unfold fillN; simp; omega
      have hlen1 : i < (fillN 16 ((l.drop 16).take i)).length := by unfold fillN; simp; omega
      obtain ⟨z0, e0⟩ : ∃ z, wr.cell? ⟨g0, i, none⟩ = some z := ⟨_, hr0.at_ i (by rw [List.getElem?_toArray, List.getElem?_map, List.getElem?_eq_getElem hlen0]; rfl)⟩
      obtain ⟨z1, e1⟩ : ∃ z, wr.cell? ⟨g0 + 1, i, none⟩ = some z := ⟨_, hr1.at_ i (by rw [List.getElem?_toArray, List.getElem?_map, List.getElem?_eq_getElem hlen1]; rfl)⟩
      have HX := Lib.hid (And.intro (((hr0.set_ i (u8v x)).sub (show _ = ((fillN 16 (l.take (i + 1))).map u8v).toArray by rw [← fillN_step l 16 i hlt x hx]; simp [List.map_set])).off (c := g0 + 1) (i := i) (by omega) (u8v y))
        (And.intro (((hr1.off (c := g0) (i := i) (by omega) (u8v x)).set_ i (u8v y)).sub (show _ = ((fillN 16 ((l.drop 16).take (i + 1))).map u8v).toArray by rw [← fillN_step (l.drop 16) 16 i hlt y hy]; simp [List.map_set]))
          ((hBr.set_ (c := g0) (i := i) (Nat.le_refl _) (u8v x)).set_ (c := g0 + 1) (i := i) (by omega) (u8v y))))
      clear hr0 hr1 hBr hx hy hlen0 hlen1 HST
      go_wp2
      exact ⟨⟨i + 1, by omega, by simp, HX.out.1, HX.out.2.1, HX.out.2.2⟩, by simp [intOf]; omega⟩
    · obtain rfl : i = 16 := by omega
      have hT0 : (l.take 16).length = 16 := by rw [List.length_take]; have := HN.out.1; omega
      have hT1 : ((l.drop 16).take 16).length = 16 := by rw [List.length_take, List.length_drop]; have := HN.out.1; omega
      rw [fillN_full 16 _ hT0] at hr0
      rw [fillN_full 16 _ hT1] at hr1
      have hB0 : Below w.heap.size w wr := by rw [← HG.out]; exact hBr
      have hb := Bytes.below HBY.out hB0
      have hc16 : ¬ c = 16 := by omega
      have hD0 : Bytes wr (some ⟨b, off + 16, none⟩) ((l.drop 16).take 240) := by
        have h := hb.drop (k := 16) (cap := c) (by omega)
        rw [if_neg hc16] at h
        exact Bytes.take (by simpa [Addr.add_lit] using h) 240
      have hD1 : Bytes wr (if c = 256 then some ⟨b, off, none⟩ else some ⟨b, off + 256, none⟩) (l.drop 256) := hb.drop (k := 256) (cap := c) (by have := HN.out.1; omega)
      have hL0 : ((l.drop 16).take 240).length = 240 := by rw [List.length_take, List.length_drop]; have := HN.out.1; omega
      have hL1 : (l.drop 256).length = n - 256 := by rw [List.length_drop]; have := HN.out.1; omega
      have h256c : 256 ≤ c := by omega
      generalize (l.drop 16).take 240 = D0 at hD0 hL0 HR
      generalize l.drop 256 = D1 at hD1 hL1 HR
      generalize l.take 16 = T0 at hr0 hT0 HR
      generalize (l.drop 16).take 16 = T1 at hr1 hT1 HR
      have HL := Lib.hid (And.intro hL0 (And.intro hL1 (And.intro hT0 hT1)))
      clear hL0 hL1 hT0 hT1 hb hcell HST hz
      go_wp2_with fail
      refine wp_region_tree (Below wr.heap.size wr) [] (PlanT.takes [0, 1] (PlanT.takes [2] (.opt 3 (PlanT.takes [4, 5, 6] (PlanT.takes [7] (.opt 8 (PlanT.takes [9, 10] .done) .no))) .no))) (by kernel_rfl) (by kernel_rfl) ((Below.refl _ _).drew) ?_
      refine wpTree_pure _ _ _ (by rfl) (by rfl) ?_
      dsimp only [List.filterMap, List.getElem?_cons_zero, List.getElem?_cons_succ]
      repeat (go_big_quiet_step (fail))
      refine wpQuiet_nil ?_
      refine wpTree_takeL _ _ _ (by rfl) (by rfl) ((Below.refl _ _).drew) ?_
      dsimp only [List.filterMap, List.getElem?_cons_zero, List.getElem?_cons_succ]
      (refine wpQuiet_load_blk (fun w' hw' => hr0.below hw' hr0.lt) (by rfl) _ _ (by rfl) (by rfl) _ Try.underlying57 (by rfl) (size16) (by rw [List.size_toArray, List.length_map]; exact HL.out.2.2.1) ?_; simp only [Act.put, List.setIfInBounds_toArray, List.set_cons_zero, List.set_cons_succ])
      refine wpQuiet_nil ?_
      refine wpTree_one _ rfl ?_
      go_wp2_with fail
      refine (right_seal_any (some ⟨b, off + 16, none⟩) 240 (c - 16) D0 T0 HL.out.1.symm (by rw [HL.out.1]; omega) ⟨by rw [HL.out.1]; omega, by omega⟩ HL.out.2.2.1 wr.drew hD0).mono ?_
      rintro e w2 ⟨rfl, hbx⟩
      have hc2' : Below wr.heap.size wr w2 := (Below.refl _ _).drew.trans hbx
      clear hbx
      by_cases h1 : Sha.sum D0 = T0
      · rw [decide_eq_true h1] at HR ⊢
        clear h1
        go_wp2_with fail
        refine TreeQ.in_ hc2' ?_
        refine wpTree_pure _ _ _ (by rfl) (by rfl) ?_
        dsimp only [List.filterMap, List.getElem?_cons_zero, List.getElem?_cons_succ]
        repeat (go_big_quiet_step (fail))
        refine wpQuiet_nil ?_
        generalize (if c = 256 then some (⟨b, off, none⟩ : Addr) else some ⟨b, off + 256, none⟩) = A2 at hD1 ⊢
        refine wpTree_takeL _ _ _ (by rfl) (by rfl) (hc2') ?_
        dsimp only [List.filterMap, List.getElem?_cons_zero, List.getElem?_cons_succ]
        (refine wpQuiet_want' (by rfl) ?_; refine wpQuiet_load_blk (fun w' hw' => hr1.below hw' hr1.lt) (by rfl) _ _ (by rfl) (by rfl) _ Try.underlying57 (by rfl) (size16) (by rw [List.size_toArray, List.length_map]; exact HL.out.2.2.2) ?_; simp only [Act.put, List.setIfInBounds_toArray, List.set_cons_zero, List.set_cons_succ])
        refine wpQuiet_nil ?_
        refine wpTree_one _ rfl ?_
        go_wp2_with fail
        refine (right_seal_any A2 (n - 256) (c - 256) D1 T1 HL.out.2.1.symm (by rw [HL.out.2.1]; omega) ⟨by rw [HL.out.2.1]; omega, by omega⟩ HL.out.2.2.2 w2 (Bytes.below hD1 hc2')).mono ?_
        rintro e w3 ⟨rfl, hbx⟩
        have hc3 := hc2'.trans (hbx.mono hc2'.size)
        clear hbx
        generalize decide (Sha.sum D1 = T1) = q at HR ⊢
        go_wp2_with fail
        refine TreeQ.in_ hc3 ?_
        refine wpTree_pure _ _ _ (by rfl) (by rfl) ?_
        dsimp only [List.filterMap, List.getElem?_cons_zero, List.getElem?_cons_succ]
        repeat (go_big_quiet_step (fail))
        refine wpQuiet_nil ?_
        refine wpTree_done ?_
        have HB := Lib.hid (hB0.trans (hc3.mono hB0.size))
        clear hc3 hc2' hB0 hBr hr0 hr1 hD0 hD1
        go_wp2
        go_ret
        exact ⟨by rw [HR.out]; rfl, by rw [HG.out]; exact HB.out⟩
      · rw [decide_eq_false h1] at HR ⊢
        clear h1
        go_wp2_with fail
        refine TreeQ.in_ hc2' ?_
        refine wpTree_pure _ _ _ (by rfl) (by rfl) ?_
        dsimp only [List.filterMap, List.getElem?_cons_zero, List.getElem?_cons_succ]
        repeat (go_big_quiet_step (fail))
        refine wpQuiet_nil ?_
        refine wpTree_takeL _ _ _ (by rfl) (by rfl) (hc2') ?_
        dsimp only [List.filterMap, List.getElem?_cons_zero, List.getElem?_cons_succ]
        repeat (go_big_quiet_step (fail))
        refine wpQuiet_nil ?_
        refine wpTree_one _ rfl ?_
        go_wp2_with fail
        refine TreeQ.in_ hc2' ?_
        refine wpTree_pure _ _ _ (by rfl) (by rfl) ?_
        dsimp only [List.filterMap, List.getElem?_cons_zero, List.getElem?_cons_succ]
        repeat (go_big_quiet_step (fail))
        refine wpQuiet_nil ?_
        refine wpTree_done ?_
        have HB := Lib.hid (hB0.trans (hc2'.mono hB0.size))
        clear hc2' hB0 hBr hr0 hr1 hD0 hD1
        go_wp2
        go_ret
        exact ⟨by rw [HR.out]; rfl, by rw [HG.out]; exact HB.out⟩
end Go.Proofs.Ytekdcjaljjlemaa

/- A list of turns, a place and a mask each, and how it comes in as an argument. Plain facts. No condition. -/
namespace Go.Proofs.Ytekdcjaljjlemaa
open Go.RowKit
/-- A list of turns: a place and a mask each. -/
abbrev TurnsT := List (Int × UInt8 × Unit)
/-- The turns can be read. -/
def Turns (w : World) (B : Option Addr) (ts : TurnsT) : Prop :=
  (∀ i, (h : i < ts.length) → -9223372036854775808 ≤ ts[i].1 ∧ ts[i].1 ≤ 9223372036854775807) ∧
  (0 < ts.length → ∃ b off, B = some ⟨b, off, none⟩ ∧ ∀ i, (h : i < ts.length) → w.cell? ⟨b, off + 2 * i, none⟩ = some (.int .i64 ts[i].1) ∧ w.cell? ⟨b, off + (2 * i + 1), none⟩ = some (.int .u8 (iu8 ts[i].2.1)))
theorem Turns.below {w w' : World} {B : Option Addr} {ts : TurnsT} (h : Turns w B ts) (hb : Below w.heap.size w w') : Turns w' B ts := by
  refine ⟨h.1, fun hp => ?_⟩
  obtain ⟨b, off, e, hc⟩ := h.2 hp
  have hlt := World.block_lt_of_cell? w _ (hc 0 hp).1
  exact ⟨b, off, e, fun i hi => ⟨(hb.cell (p := ⟨b, off + 2 * i, none⟩) hlt).trans (hc i hi).1, (hb.cell (p := ⟨b, off + (2 * i + 1), none⟩) hlt).trans (hc i hi).2⟩⟩
instance {w w' : World} {B : Option Addr} {ts : TurnsT} : KeepsTo w w' (Turns w B ts) (Turns w' B ts) := ⟨fun hb h => h.below hb⟩
def turnSh : Sh := .cons (.int .i64) (.cons .byte .nil)
theorem Turns.of {w : World} {B : Option Addr} {ts : TurnsT} {rows : List (List Value)} (h : Both (fun (d : turnSh.T) r => r.length = turnSh.size ∧ Sh.Is w turnSh d r) ts rows) (hr : Reads w B rows.flatten) : Turns w B ts := by
  have hat : ∀ i, (hi : i < ts.length) → (-9223372036854775808 ≤ ts[i].1 ∧ ts[i].1 ≤ 9223372036854775807) ∧ rows.flatten[2 * i]? = some (.int .i64 ts[i].1) ∧ rows.flatten[2 * i + 1]? = some (.int .u8 (iu8 ts[i].2.1)) := by
    intro i hi
    obtain ⟨r, h1, h2, h3⟩ := both_at h i hi
    obtain ⟨c1, c2, rfl, _, hx, c3, c4, rfl, _, hy, hz⟩ := h2
    obtain ⟨rfl, hlo, hhi⟩ := hx
    have hy : c3 = [u8v ts[i].2.1] := hy
    have hz : c4 = [] := hz
    subst hy hz
    refine ⟨⟨hlo, hhi⟩, ?_, ?_⟩
    · have := h3 0 (by decide)
      rw [show i * turnSh.size + 0 = 2 * i by simp [turnSh, Sh.size]; omega] at this
      rw [this]; rfl
    · have := h3 1 (by decide)
      rw [show i * turnSh.size + 1 = 2 * i + 1 by simp [turnSh, Sh.size]; omega] at this
      rw [this]; rfl
  refine ⟨fun i hi => (hat i hi).1, fun hp => ?_⟩
  have hne : rows.flatten ≠ [] := by intro e; have := (hat 0 hp).2.1; rw [e] at this; simp at this
  obtain ⟨b, off, e, hc⟩ := hr hne
  exact ⟨b, off, e, fun i hi => ⟨hc _ _ (hat i hi).2.1, hc _ _ (hat i hi).2.2⟩⟩
end Go.Proofs.Ytekdcjaljjlemaa

/- A place that any number says: what it answers. Condition: the numbers are Go's ints. -/
namespace Go.Proofs.Ytekdcjaljjlemaa
open Go.RowKit
/-- The place below n that x says. -/
def pickN (x n : Int) : Nat := if n < 1 then 0 else (x % n).toNat
theorem pickN_lt (x n : Int) (h : 1 ≤ n) : (pickN x n : Int) < n := by
  unfold pickN
  rw [if_neg (by omega)]
  have h1 := Int.emod_nonneg x (show n ≠ 0 by omega)
  have h2 := Int.emod_lt_of_pos x (show 0 < n by omega)
  omega
set_option maxHeartbeats 400000 in
theorem pick_any (x n : Int) (hn : n ≤ 9223372036854775807) (hn1 : 1 ≤ n) (w : World) :
    Calls Try.prog 22 #[.int .i64 x, .int .i64 n] w fun e w' => e = .returned (.int .i64 (pickN x n)) ∧ w' = w := by
  have e1 : (pickN x n : Int) = x % n := by
    unfold pickN; rw [if_neg (by omega)]; have h1 := Int.emod_nonneg x (show n ≠ 0 by omega); omega
  rw [e1]
  clear e1
  have h1 := Int.emod_nonneg x (show n ≠ 0 by omega)
  have h2 := Int.emod_lt_of_pos x (show 0 < n by omega)
  have H1 : x.tmod n = (if 0 ≤ x ∨ x % n = 0 then x % n else x % n - n) := by
    rw [Int.tmod_eq_emod]
    have hd : n ∣ x ↔ x % n = 0 := Int.dvd_iff_emod_eq_zero
    by_cases h0 : 0 ≤ x
    · simp [h0]
    · by_cases h3 : x % n = 0
      · simp [h3, hd]
      · simp [h0, h3, hd]; omega
  obtain ⟨r, hr⟩ : ∃ r, r = x % n := ⟨_, rfl⟩
  rw [← hr] at h1 h2 H1 ⊢
  clear hr
  by_cases hp : 0 ≤ x ∨ r = 0
  · rw [if_pos hp] at H1
    have H := Lib.hid H1
    clear H1 hp
    have hn0 : (n == 0) = false := by rw [beq_eq_false_iff_ne]; omega
    go_enter Try.func22, Try.ntmps22
    go_wp2
    all_goals have h3 := H.out
    · exfalso; omega
    · go_ret
      exact ⟨ret_int h3, rfl⟩
  · rw [if_neg hp] at H1
    have H := Lib.hid H1
    clear H1 hp
    go_enter Try.func22, Try.ntmps22
    go_wp2
    all_goals have h3 := H.out
    · go_ret
      exact ⟨ret_int (by rw [h3, IntWalk.wrap64_in _ ⟨by omega, by omega⟩]; omega), rfl⟩
    · exfalso; omega
end Go.Proofs.Ytekdcjaljjlemaa

/- Of turned bytes nothing else is opened, unless both seals are right again: the statement, as a call: it answers true and writes nothing that was there. Conditions: the body and the turns can be read; the numbers are what Go's types hold. -/
namespace Go.Proofs.Ytekdcjaljjlemaa
open Go.RowKit
def HTurn (w : World) (n g g3 L s0 : Nat) (t3 : TypeId) (was : List UInt8) (mc : Array Value) (v : Value) (wr : World) : Prop :=
  ∃ (i : Nat) (cur : List UInt8), i ≤ n ∧ v = .int .i64 (i : Int) ∧ cur.length = L ∧ Blk wr g t3 (cur.map u8v).toArray ∧ Blk wr g3 5 (was.map u8v).toArray ∧ Blk wr s0 29 mc ∧ Below w.heap.size w wr
theorem right_ok (r : List UInt8) (h : (Msg.read r).1 = 0) : (decide (Sha.sum ((r.drop 16).take 240) = r.take 16) && decide (Sha.sum (r.drop 256) = (r.drop 16).take 16)) = true := by
  obtain ⟨_, _, _, _, _, h1, h2⟩ := Msg.read_ok r h
  rw [List.drop_take] at h2
  rw [decide_eq_true h1, decide_eq_true h2]; rfl
set_option maxRecDepth 100000 in
set_option maxHeartbeats 4000000 in
theorem hturn_any (f : HdF) (A B : Option Addr) (c d : Nat) (l : List UInt8) (ts : TurnsT) (hin : Hd.in_ f) (hc : l.length ≤ c ∧ c ≤ 9223372036854775807) (w : World) (hby : Bytes w A l) (hk : Turns w B ts) :
    Calls Try.prog 6 #[.agg (msgc f (.slice A l.length c)), .slice B ts.length d] w fun e w' => e = .returned (.bool true) ∧ Below w.heap.size w w' := by
  have hm := Blk.new w 29 (msgc f (.slice A l.length c))
  have hB := (Below.refl w.heap.size w).alloc (Nat.le_refl _) (.cells (msgc f (.slice A l.length c)) 29)
  have hby0 := hby
  have hk0 := hk
  replace hby := Bytes.below hby hB
  clear hk
  go_enter Try.func6, Try.ntmps6
  go_wp2_with fail
  generalize w.alloc (.cells (msgc f (.slice A l.length c)) 29) = w1 at hm hB hby ⊢
  generalize hs0 : w.heap.size = s0 at hm ⊢
  have HS0 := Lib.hid hs0
  have HIN := Lib.hid hin
  have HC := Lib.hid hc
  clear hin hc hs0
  refine (known04_any w1).mono ?_
  rintro e w2 ⟨rfl, hbx⟩
  (replace hm := keep hbx hm; replace hby := keep hbx hby; replace hB := hB.trans (hbx.mono hB.size))
  clear hbx
  have d16 := hm.at_ 16 (msgc_16 f _)
  by_cases hl1 : 3000 < l.length
  · have HB := Lib.hid hB
    clear hB hm
    go_wp2
    go_ret
    exact ⟨rfl, HB.out⟩
  by_cases hl2 : 40 < ts.length
  · have HB := Lib.hid hB
    clear hB hm
    go_wp2
    go_ret
    exact ⟨rfl, HB.out⟩
  have HL := Lib.hid (show l.length ≤ 3000 ∧ ts.length ≤ 40 by omega)
  go_wp2_with (first
    | (show wpList _ _ _ ((⟨some 25, _, _, _, _, _⟩ : Oper) :: _) _ _; refine wpList_load_blk (o := ⟨some 25, _, _, _, _, _⟩) (hm) (by rfl) _ _ (by rfl) (by rfl) _ Try.underlying29 (by rfl) (sizeMsg) (msgc_size _ _) ?_)
    | fail)
  refine (hseal_any f A l.length c l w2 rfl hby HC.out HIN.out).mono ?_
  have hlt2 := hm.lt
  rintro e w3 ⟨E, rfl, hE, hEg, hEn, hEl, hbx⟩
  (replace hm := keep hbx hm; replace hB := hB.trans (hbx.mono hB.size))
  clear hbx hby
  rcases Msg.seal_cases f l with ⟨hs, hl3, hok⟩ | ⟨co, hco, hs⟩
  · rw [hs] at hEl ⊢
    clear hs
    dsimp only at hEl ⊢
    obtain ⟨A3, n3, l3⟩ := E
    dsimp only at hEn hEl
    subst hEl
    have hin2 := setF_in f l.length HIN.out
    obtain ⟨hsame, hread⟩ := Msg.read_bytes (setF f 2 l.length) l hok hin2 (by unfold setF; rw [if_pos rfl])
    have hbl := Hd.bytes_length (setF f 2 l.length) l
    have hfx : msgc (setF f 2 l.length) (.slice A l.length c) = (msgc f (.slice A l.length c)).setIfInBounds 2 (.int .i64 l.length) := (msgc_set _ _ _).symm
    have HFX := Lib.hid hfx
    obtain ⟨fx, hfx2⟩ : ∃ fx, fx = setF f 2 l.length := ⟨_, rfl⟩
    rw [← hfx2] at hsame hread hbl HFX hE hEg hEn ⊢
    generalize Hd.bytes fx l = X at hsame hread hbl hE hEg hEn ⊢
    dsimp only [Ent.val]
    rw [hbl] at hEn ⊢
    subst hEn
    have HBL := Lib.hid hbl
    have HR := Lib.hid (And.intro hsame hread)
    obtain ⟨g, t3, e3, hb3, e3b⟩ := Ent.Is.blk_ hE (by dsimp only; omega)
    dsimp only at e3 hb3
    subst e3
    have hge3 := hEg _ e3b
    have hl3' := hb3.lt
    have hcmp : decide (((256 + l.length : Nat) : Int) < 256) = false := by rw [decide_eq_false_iff_not]; omega
    clear hbl hok hin2 hfx hfx2 hsame hread hE e3b hEg
    go_wp2_with fail
    refine (copyBytes_any (some ⟨g, 0, none⟩) (256 + l.length) (256 + l.length) X HBL.out.symm (by have := HBL.out; omega) w3 hb3.bytes).mono ?_
    rintro e w4 ⟨v4, sp4, rfl, ho4, hbx⟩
    (replace hm := keep hbx hm; replace hb3 := keep hbx hb3; replace hB := hB.trans (hbx.mono hB.size))
    clear hbx
    obtain ⟨g4, cap4, rfl, hge4, hg4, hcap41, hcap42, hsp4⟩ := OwnB.at_ ho4 (by rw [HBL.out]; omega)
    have hgs : g ≠ s0 ∧ g4 ≠ s0 ∧ g4 ≠ g ∧ w.heap.size ≤ g ∧ w.heap.size ≤ g4 ∧ w.heap.size ≤ s0 := by have := HS0.out; omega
    have HGS := Lib.hid hgs
    have HST := Lib.hid (And.intro hb3 (And.intro hg4 (And.intro hm hB)))
    clear ho4 hb3 hg4 hm hB hge4 hcap42 hsp4 hgs d16 hge3 hl3' hlt2
    rw [HBL.out] at hcap41 ⊢
    go_wp2_with fail
    go_loopw [9] (fun v wr => HTurn w ts.length g g4 (256 + l.length) s0 t3 (X ++ sp4) (msgc f (.slice A l.length c)) v wr) (fun v _ => ts.length - (intOf v).toNat)
    case atStart => exact ⟨0, X, by omega, rfl, HBL.out, HST.out⟩
    case round =>
      clear HST
      obtain ⟨i, cur, hi, rfl, hcl, hgr, hg3r, hmr, hBr⟩ := hrel
      have hkr := hk0.below hBr
      have HCL := Lib.hid hcl
      clear hcl
      by_cases hlt : i < ts.length
      · obtain ⟨b, off, rfl, hcells⟩ := hkr.2 (by omega)
        obtain ⟨d1, d2⟩ := hcells i hlt
        have hb1 := hkr.1 i hlt
        clear hk0 hkr
        generalize ts[i].1 = P at d1 hb1
        generalize ts[i].2.1 = M at d2
        rw [Nat.mul_comm] at d1
        rw [show off + (2 * i + 1) = off + i * 2 + 1 by omega] at d2
        clear hcells
        go_wp2_with fail
        refine (pick_any P (256 + l.length) (by omega) (by omega) wr).mono ?_
        rintro e wr ⟨rfl, rfl⟩
        have hat := pickN_lt P (256 + (l.length : Int)) (by omega)
        generalize pickN P (256 + (l.length : Int)) = at_ at hat
        have hatl : at_ < cur.length := by have := HCL.out; omega
        have dc : wr.cell? ⟨g, at_, none⟩ = some (.int .u8 (iu8 cur[at_])) := by rw [hgr.cell, List.getElem?_toArray, List.getElem?_map, List.getElem?_eq_getElem hatl]; rfl
        have fc := hgr.frozen at_
        go_wp2_with fail
        refine wp_region_tail 13 (by kernel_rfl) (by kernel_rfl) ?_
        dsimp only [List.take_succ_cons, List.take_zero, List.drop_succ_cons, List.drop_zero]
        repeat (go_big_quiet_step (fail))
        refine wpQuiet_nil ?_
        have ho := ((hgr.set_ at_ (.int .u8 (iu8 (cur[at_] ^^^ M)))).sub (show _ = ((cur.set at_ (cur[at_] ^^^ M)).map u8v).toArray by simp [List.map_set, u8v])).drew
        have ho3 := (hg3r.off (show g4 ≠ g from HGS.out.2.2.1) (i := at_) (.int .u8 (iu8 (cur[at_] ^^^ M)))).drew
        have hom := (hmr.off (show s0 ≠ g from fun e => HGS.out.1 e.symm) (i := at_) (.int .u8 (iu8 (cur[at_] ^^^ M)))).drew
        have hb3 := (hBr.set_ (c := g) (i := at_) HGS.out.2.2.2.1 (.int .u8 (iu8 (cur[at_] ^^^ M)))).drew
        have HO := Lib.hid (And.intro ho (And.intro ho3 (And.intro hom hb3)))
        clear ho ho3 hom hb3 hgr hg3r hmr hBr
        go_wp2
        rw [u8_xor_w]
        go_roundw
        case rel => exact ⟨i + 1, cur.set at_ (cur[at_] ^^^ M), by omega, by go_num, by rw [List.length_set]; exact HCL.out, HO.out⟩
        case measure => simp [intOf]; omega
      · obtain rfl : i = ts.length := by omega
        clear hkr hk0
        have hlm := hmr.lt
        have hlg := hgr.lt
        have hlg4 := hg3r.lt
        go_wp2_with fail
        refine (hopen_any (some ⟨g, 0, none⟩) (256 + l.length) (256 + l.length) cur HCL.out.symm (Nat.le_refl _) ⟨by omega, by omega⟩ wr hgr.bytes).mono ?_
        rintro e w5 ⟨v5, rfl, ⟨sp5, ho5⟩, hbx⟩
        have hm := keep hbx hmr
        have hg := keep hbx hgr
        have hg4 := keep hbx hg3r
        have hB := hBr.trans (hbx.mono hBr.size)
        have hz5 := hbx.size
        clear hbx hmr hgr hg3r hBr
        obtain ⟨A5, c5, rfl, -⟩ := OwnB.open_ ho5
        obtain ⟨co, hco⟩ : ∃ x, x = (Msg.read cur).1 := ⟨_, rfl⟩
        obtain ⟨G, hG⟩ : ∃ x, x = (Msg.read cur).2.1 := ⟨_, rfl⟩
        obtain ⟨D, hD⟩ : ∃ x, x = (Msg.read cur).2.2 := ⟨_, rfl⟩
        rw [← hD] at ho5
        rw [← hco, ← hG, ← hD]
        have HRC := Lib.hid (And.intro hco (And.intro hG hD))
        clear hco hG hD
        go_wp2_with (first
          | (show wpList _ _ _ ((⟨none, _, _, _, _, _⟩ : Oper) :: _) _ _; refine wpList_store_blk (o := ⟨none, _, _, _, _, _⟩) ((Blk.new w5 29 #[.int .i64 0, .int .i64 0, .int .i64 0, .int .i64 0, .int .i64 0, .int .i64 0, .int .i64 0, .int .i64 0, .int .i64 0, .int .u64 0, .int .u64 0, .int .i64 0, .int .i64 0, .int .u64 0, .int .i64 0, .int .i64 0, .slice none 0 0])) (by rfl) _ _ _ (by rfl) (by rfl) (msgc G (.slice A5 D.length c5)) (by rfl) (sizeMsg) (by rfl) (msgc_size _ _) (msgc_one _ _ rfl) ?_; intro w6 hy hu; have hbx := ((Below.refl w5.heap.size w5).alloc (Nat.le_refl _) (.cells #[.int .i64 0, .int .i64 0, .int .i64 0, .int .i64 0, .int .i64 0, .int .i64 0, .int .i64 0, .int .i64 0, .int .i64 0, .int .u64 0, .int .u64 0, .int .i64 0, .int .i64 0, .int .u64 0, .int .i64 0, .int .i64 0, .slice none 0 0] 29)).upd hu (Nat.le_refl _); (replace hm := keep hbx hm; replace hg := keep hbx hg; replace hg4 := keep hbx hg4; replace ho5 := keep hbx ho5; replace hB := hB.trans (hbx.mono hB.size)); clear hbx hu; have d16 := hm.at_ 16 (msgc_16 f _); have f2 := hm.frozen 2; have d2 := hm.at_ 2 (msgc_at2 f _); have HSET := Lib.hid (And.intro ((hm.set_ 2 (.int .i64 (l.length : Nat))).sub HFX.out.symm) (And.intro (hg.off (c := s0) (i := 2) HGS.out.1 (.int .i64 (l.length : Nat))) (And.intro (hg4.off (c := s0) (i := 2) HGS.out.2.1 (.int .i64 (l.length : Nat))) (And.intro (hy.off (c := s0) (i := 2) (by omega) (.int .i64 (l.length : Nat))) (And.intro (OwnB.upd ho5 ((Upd.refl _ _).set 2 (.int .i64 (l.length : Nat))) (fun e => by have h : wr.heap.size ≤ s0 := (OwnsC.lt ho5 _ e).1; omega)) (hB.set_ (c := s0) (i := 2) HGS.out.2.2.2.2.2 (.int .i64 (l.length : Nat)))))))))
          | fail)
        generalize World.setCell w6 _ _ = w7 at HSET ⊢
        clear hm hg hg4 hy ho5 hB d16 f2 d2
        obtain ⟨hm, hg, hg4, hy, ho5, hB⟩ := HSET.out
        clear HSET
        have hb4 := hg4.bytes.take X.length
        rw [List.take_left] at hb4
        refine (sameBytes_any (some ⟨g, 0, none⟩) (some ⟨g4, 0, none⟩) (256 + l.length) (256 + l.length) (256 + l.length) cap4 cur X HCL.out.symm HBL.out.symm w7 hg.bytes hb4).mono ?_
        rintro e w8 ⟨rfl, hw8⟩
        rw [← hw8] at hm hg hy ho5 hB
        clear hw8 hg4 hb4
        by_cases hcx : cur = X
        · rw [decide_eq_true hcx]
          have hGF : Hid (Hd.beq G fx = true) := Lib.hid (by
            rw [Hd.beq_same, HRC.out.2.1, hcx, HR.out.2]; exact HR.out.1)
          have hDl : D = l := by rw [HRC.out.2.2, hcx, HR.out.2]
          have hc0 : co = 0 := by rw [HRC.out.1, hcx, HR.out.2]
          subst hDl hc0
          clear hcx HRC hg
          go_wp2_with (first
            | (show wpList _ _ _ ((⟨some 83, _, _, _, _, _⟩ : Oper) :: _) _ _; refine wpList_want (by rfl) ?_; refine wpList_load_blk (o := ⟨some 83, _, _, _, _, _⟩) (hy) (by rfl) _ _ (by rfl) (by rfl) _ Try.underlying29 (by rfl) (sizeMsg) (msgc_size _ _) ?_)
            | (show wpList _ _ _ ((⟨some 84, _, _, _, _, _⟩ : Oper) :: _) _ _; refine wpList_want (by rfl) ?_; refine wpList_load_blk (o := ⟨some 84, _, _, _, _, _⟩) (hm) (by rfl) _ _ (by rfl) (by rfl) _ Try.underlying29 (by rfl) (sizeMsg) (msgc_size _ _) ?_)
            | fail)
          refine (sameMessage_any G fx A5 A D.length D.length c5 c D D rfl rfl w8 (OwnB.bytes ho5) (Bytes.below hby0 hB)).mono ?_
          rintro e w9 ⟨rfl, hbx⟩
          rw [hGF.out, decide_eq_true rfl]
          have HB := Lib.hid (hB.trans (hbx.mono hB.size))
          clear hbx hB hm hy ho5
          go_wp2
          go_ret
          exact ⟨by simp, HB.out⟩
        · rw [decide_eq_false hcx]
          have HRT : Hid (co = 0 → (decide (Sha.sum ((cur.drop 16).take 240) = cur.take 16) && decide (Sha.sum (cur.drop 256) = (cur.drop 16).take 16)) = true) := Lib.hid (fun h => right_ok cur (by rw [← HRC.out.1]; exact h))
          clear hcx HRC hy ho5 hm
          go_wp2_with fail
          refine (hright_any (some ⟨g, 0, none⟩) (256 + l.length) (256 + l.length) cur HCL.out.symm (by omega) (Nat.le_refl _) ⟨by omega, by omega⟩ w8 hg.bytes).mono ?_
          rintro e w9 ⟨rfl, hbx⟩
          have HB := Lib.hid (hB.trans (hbx.mono hB.size))
          clear hbx hB hg
          generalize (decide (Sha.sum ((cur.drop 16).take 240) = cur.take 16) && decide (Sha.sum (cur.drop 256) = (cur.drop 16).take 16)) = q at HRT ⊢
          cases q
          · have hc1 : (co != 0) = true := by rw [bne_iff_ne]; intro h; have := HRT.out h; simp at this
            go_wp2
            go_ret
            exact ⟨by simp, HB.out⟩
          · go_wp2
            go_ret
            exact ⟨by simp, HB.out⟩
  · rw [hs] at hEl ⊢
    have hc0 : (co != 0) = true := by rw [bne_iff_ne]; exact hco
    dsimp only
    have HB := Lib.hid hB
    clear hE hEg hEn hEl hs hco hm hB
    go_wp2
    go_ret
    exact ⟨rfl, HB.out⟩
end Go.Proofs.Ytekdcjaljjlemaa

/- HeaderTurned: for every input the law answers true and every argument reads as it did. No condition. -/
namespace Go.Proofs.Ytekdcjaljjlemaa
open Go.ChangeShapes Go.WideShapes Go.ChangeAt Go.RowKit
theorem hturn_args (x : msgSh.T) (cs : List Value) (B : Option Addr) (d : Nat) (ts : TurnsT) (W : World) (h : Sh.Is W msgSh x cs) (hk : Turns W B ts) :
    Calls Try.prog 6 #[.agg cs.toArray, .slice B ts.length d] W fun e w' => e = .returned (.bool true) ∧ Below W.heap.size W w' := by
  obtain ⟨f, A, c, e, hin, h1, h2, hb⟩ := msgSh_is h
  rw [e]
  exact hturn_any f A B c d x.2.1 ts hin ⟨h1, h2⟩ W hb hk
set_option maxRecDepth 100000 in
theorem headerTurned_lifted (os : Os) (started : os.Started) (H : Type) (enc : TypeId × Value → H) :
    ReturnsInHanded {} Try.checked os 6 .any (Rows.headerTurnedSpec.pre6 enc Try.prog Try.f6 Rows.headerTurnedRow.domain false) (Rows.headerTurnedSpec.post enc Try.prog Try.f6 false true false false) := by
  refine returnsInHanded_of_change (C := Try.checked) Try.own started (by kernel_rfl) Try.func6
    (ChangeSpec.witness6 (enc := enc) (C := Try.checked) false ⟨#[], #[.agg #[.int .i64 0, .int .i64 0, .int .i64 0, .int .i64 0, .int .i64 0, .int .i64 0, .int .i64 0, .int .i64 0, .int .i64 0, .int .u64 0, .int .u64 0, .int .i64 0, .int .i64 0, .int .u64 0, .int .i64 0, .int .i64 0, .slice none 0 0], .slice none 0 0], []⟩ 8 (by kernel_rfl) (by kernel_rfl) (by kernel_rfl) (by kernel_rfl)) ?_
  intro W base args ds gs before hval0 hW hcnd _
  have hval : ∀ (j : Nat) t v, Try.f6.params[j]? = some t → args[j]? = some v → Value.okWide Try.prog W .any base t v := hval0
  have hW' := hW
  obtain ⟨p, q, hA0, hV, rfl, hfz, hnd⟩ := hW
  have hA : DataW.TrodAll enc Try.prog W 0 (fun _ => true) true Try.f6.params.toList args.toList ds p := hA0
  rw [Try.params6] at hA hval
  obtain ⟨v0, v1, d0, d1, p0, p1, rfl, rfl, rfl, h0, h1⟩ := trodAll_two hA
  obtain ⟨rfl, rfl⟩ := trodVars_none hV
  have h0k := h0
  have h1k := h1
  obtain ⟨x, hx0⟩ := Sh.open_ (P := Try.prog) msgSh (by kernel_rfl) h0
  obtain ⟨cs, rfl, hcs⟩ := arg_agg Try.underlying29 rfl (hval 0 29 v0 rfl rfl) hx0
  obtain ⟨ts, hx1⟩ := Sh.open_ (P := Try.prog) (.slice turnSh) (by kernel_rfl) h1
  obtain ⟨B, d, rows1, rfl, hd, hd2, hb2, hb3⟩ := arg_slice Try.underlying49 (hval 1 49 v1 rfl rfl) hx1
  clear hA0 hval0
  simp only [List.append_nil] at hW'
  have hlt : ∀ x ∈ p0 ++ p1, x.block < W.heap.size := fun x hx => by simpa using hW'.lt x hx
  refine (hturn_args x cs B d ts W hcs (Turns.of hb2 hb3)).mono fun e W' ⟨he, hw⟩ => ?_
  subst he
  refine ⟨_, rfl, _, _, _, [], p0 ++ p1, [], hW', ?_, ?_, rfl, hw.frame _, fun h => by cases h⟩
  · exact trodAll_mk1 (shut_bool Try.underlying4 true)
  · exact trodAll_mk2 (Below.trod Try.laidOut (by kernel_rfl) (of_decide_eq_true (by kernel_rfl)) h0k hw (fun x hx => hlt x (by simp [hx]))) (Below.trod Try.laidOut (by kernel_rfl) (of_decide_eq_true (by kernel_rfl)) h1k hw (fun x hx => hlt x (by simp [hx])))
theorem headerTurned_holds : Rows.HeaderTurnedSaid :=
  OpenClaim.holds_of_wide 6 Try.f6 rfl rfl rfl rfl rfl rfl rfl ⟨rfl, rfl, rfl, rfl, rfl⟩ rfl rfl rfl rfl rfl (by kernel_rfl) Try.func6 (by kernel_rfl)
    (of_decide_eq_true (by kernel_rfl)) (by unfold Func.isWrapper; rw [if_neg (by decide +kernel)]; exact ⟨rfl, rfl⟩)
    (fun os started H enc _ => headerTurned_lifted os started H enc)
end Go.Proofs.Ytekdcjaljjlemaa
