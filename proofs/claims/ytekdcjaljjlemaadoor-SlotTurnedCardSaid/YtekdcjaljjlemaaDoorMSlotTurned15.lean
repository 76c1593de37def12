/- Are bytes at the front those of a header whose own seal is right, and whose body's seal is that of what follows: what the law's function tells. Condition: the bytes can be read. -/
import Derived.Test.YtekdcjaljjlemaaDoorMSlotTurned14
import Derived.Test.YtekdcjaljjlemaaDoorTie
import Derived.Test.YtekdcjaljjlemaaDoorCards
import Derived.SevenTiedAt
namespace Go.Proofs.YtekdcjaljjlemaaDoor
open Go.RowKit
def Slot.sealed (b : List UInt8) : Bool :=
  decide ((Hd.read (b.take 256)).1 = 0) && (decide (256 + Hd.parse (b.take 256) 2 ≤ (b.length : Int)) && decide (Sha.sum ((b.drop 256).take (Hd.parse (b.take 256) 2).toNat) = (b.drop 16).take 16))
theorem Slot.sealed_of {b : List UInt8} {n : Int} (h : (Slot.prep b n).1 = true) : Slot.sealed b = true := by
  obtain ⟨s, h1, h2, _, h4, _, _, _, h8⟩ := Slot.prep_ok b n h
  unfold Slot.sealed
  rw [h4, Int.toNat_natCast, decide_eq_true h2, decide_eq_true (by omega), decide_eq_true h8]; rfl
set_option maxRecDepth 100000 in
set_option maxHeartbeats 4000000 in
theorem sealed_any (g n c : Nat) (b : List UInt8) (hn : n = b.length) (h256 : 256 ≤ n) (hc : n ≤ c ∧ n ≤ 140737488351232 ∧ c ≤ 9223372036854775807) (w : World) (hb : Bytes w (some ⟨g, 0, none⟩) b) :
    Calls Tryd.prog 27 #[.slice (some ⟨g, 0, none⟩) n c] w fun e w' => e = .returned (.bool (Slot.sealed b)) ∧ Below w.heap.size w w' := by
  have HN := Lib.hid (And.intro hn hc)
  have hc256 : 256 ≤ c := by omega
  have hTb := hb.take 256
  have hTl : (b.take 256).length = 256 := by rw [List.length_take]; omega
  obtain ⟨T, hT⟩ : ∃ T, T = b.take 256 := ⟨_, rfl⟩
  rw [← hT] at hTb hTl
  have HT := Lib.hid hT
  clear hn hc hT
  go_enter Tryd.func27, Tryd.ntmps27
  go_wp2_with fail
  refine (hhead_any (some ⟨g, 0, none⟩) 256 c T hTl.symm hc256 (by have := HN.out; omega) w hTb).mono ?_
  rintro e w1 ⟨rfl, hB⟩
  have hb1 := Bytes.below hb hB
  clear hTb
  obtain ⟨F, hF⟩ : ∃ f, f = (Hd.read T).2 := ⟨_, rfl⟩
  obtain ⟨er, hE⟩ : ∃ f, f = (Hd.read T).1 := ⟨_, rfl⟩
  rw [← hF, ← hE]
  have HFE := Lib.hid (And.intro hF hE)
  clear hF hE
  by_cases h0 : er = 0
  case neg =>
    have hres : Slot.sealed b = false := by unfold Slot.sealed; rw [← HT.out, ← HFE.out.2, decide_eq_false h0]; rfl
    have HR := Lib.hid hres
    have hc0 : (er != 0) = true := by rw [bne_iff_ne]; exact h0
    clear h0 hres hb1
    go_wp2_with (first
      | ((with_reducible show wpList _ _ _ ((⟨none, _, _, _, _, _⟩ : Oper) :: _) _ _); refine wpList_store_blk (o := ⟨none, _, _, _, _, _⟩) (((Blk.new w1 26 #[.int .i64 0, .int .i64 0, .int .i64 0, .int .i64 0, .int .i64 0, .int .i64 0, .int .i64 0, .int .i64 0, .int .i64 0, .int .u64 0, .int .u64 0, .int .i64 0, .int .i64 0, .int .u64 0, .int .i64 0, .int .i64 0]).sub zeroHd_cells.symm)) (by rfl) _ _ _ (by rfl) (by rfl) (hdc F) (by rfl) (sizeHd) (hdc_size _) (hdc_size _) (hdc_one _) ?_; intro w2 h2 hu; have HB := Lib.hid (hB.trans ((((Below.refl w1.heap.size w1).alloc (Nat.le_refl _) (.cells #[.int .i64 0, .int .i64 0, .int .i64 0, .int .i64 0, .int .i64 0, .int .i64 0, .int .i64 0, .int .i64 0, .int .i64 0, .int .u64 0, .int .u64 0, .int .i64 0, .int .i64 0, .int .u64 0, .int .i64 0, .int .i64 0] 26)).upd hu (Nat.le_refl _)).mono hB.size)); clear hu h2 hB)
      | fail)
    go_ret
    exact ⟨by rw [HR.out]; rfl, HB.out⟩
  subst h0
  have hread : F = Hd.parse T ∧ Hd.ok (Hd.parse T) = true := by
    rcases Hd.read_cases T with (hx | hx) | ⟨hx, _, hok, _⟩
    · have h := HFE.out.2; rw [hx] at h; simp at h
    · have h := HFE.out.2; rw [hx] at h; simp at h
    · exact ⟨by rw [HFE.out.1, hx], hok⟩
  have hok2 := (Hd.ok_spec hread.2).1
  rw [← hread.1] at hok2
  obtain ⟨s, hs⟩ : ∃ s : Nat, F 2 = (s : Int) := ⟨(F 2).toNat, by omega⟩
  have hs1024 : s ≤ 1024 := by omega
  have HSE := Lib.hid (show Slot.sealed b = (decide (256 + s ≤ n) && decide (Sha.sum ((b.drop 256).take s) = (b.drop 16).take 16)) by
    have e1 : (256 + (s : Int) ≤ (b.length : Int)) ↔ 256 + s ≤ n := by rw [HN.out.1]; omega
    unfold Slot.sealed
    rw [← HT.out, ← HFE.out.2, decide_eq_true rfl, ← hread.1, hs, Int.toNat_natCast, Bool.true_and, decide_eq_decide.2 e1])
  clear hread hok2
  by_cases hsz : n < 256 + s
  · have HR := Lib.hid (show Slot.sealed b = false by rw [HSE.out, decide_eq_false (by omega)]; rfl)
    have hcm : decide ((n : Int) < 256 + (s : Int)) = true := by rw [decide_eq_true_eq]; omega
    have hcm2 : n < 256 + s := hsz
    clear hb1 hsz
    go_wp2_with (first
      | ((with_reducible show wpList _ _ _ ((⟨none, _, _, _, _, _⟩ : Oper) :: _) _ _); refine wpList_store_blk (o := ⟨none, _, _, _, _, _⟩) (((Blk.new w1 26 #[.int .i64 0, .int .i64 0, .int .i64 0, .int .i64 0, .int .i64 0, .int .i64 0, .int .i64 0, .int .i64 0, .int .i64 0, .int .u64 0, .int .u64 0, .int .i64 0, .int .i64 0, .int .u64 0, .int .i64 0, .int .i64 0]).sub zeroHd_cells.symm)) (by rfl) _ _ _ (by rfl) (by rfl) (hdc F) (by rfl) (sizeHd) (hdc_size _) (hdc_size _) (hdc_one _) ?_; intro w2 h2 hu; have HB := Lib.hid (hB.trans ((((Below.refl w1.heap.size w1).alloc (Nat.le_refl _) (.cells #[.int .i64 0, .int .i64 0, .int .i64 0, .int .i64 0, .int .i64 0, .int .i64 0, .int .i64 0, .int .i64 0, .int .i64 0, .int .u64 0, .int .u64 0, .int .i64 0, .int .i64 0, .int .u64 0, .int .i64 0, .int .i64 0] 26)).upd hu (Nat.le_refl _)).mono hB.size)); clear hu hB; have d2 := h2.at_ 2 (hdc_at9 F 2 (by omega)); rw [hs] at d2; clear h2)
      | fail)
    go_ret
    exact ⟨by rw [HR.out]; rfl, HB.out⟩
  · have HR := Lib.hid (show Slot.sealed b = decide (Sha.sum ((b.drop 256).take s) = (b.drop 16).take 16) by rw [HSE.out, decide_eq_true (show 256 + s ≤ n by omega), Bool.true_and])
    have hcm : decide ((n : Int) < 256 + (s : Int)) = false := by rw [decide_eq_false_iff_not]; omega
    have hle : 256 + s ≤ n := by omega
    have hlec : 256 + s ≤ c := by have := HN.out; omega
    have hc16 : ¬ c = 16 := by omega
    have hc32 : ¬ c < 32 := by omega
    have hc32' : 32 ≤ c := by omega
    have a16 := alloc16
    clear hsz
    go_wp2_with (first
      | ((with_reducible show wpList _ _ _ ((⟨none, _, _, _, _, _⟩ : Oper) :: _) _ _); refine wpList_store_blk (o := ⟨none, _, _, _, _, _⟩) (((Blk.new w1 26 #[.int .i64 0, .int .i64 0, .int .i64 0, .int .i64 0, .int .i64 0, .int .i64 0, .int .i64 0, .int .i64 0, .int .i64 0, .int .u64 0, .int .u64 0, .int .i64 0, .int .i64 0, .int .u64 0, .int .i64 0, .int .i64 0]).sub zeroHd_cells.symm)) (by rfl) _ _ _ (by rfl) (by rfl) (hdc F) (by rfl) (sizeHd) (hdc_size _) (hdc_size _) (hdc_one _) ?_; intro w2 h2 hu; have hbx := ((Below.refl w1.heap.size w1).alloc (Nat.le_refl _) (.cells #[.int .i64 0, .int .i64 0, .int .i64 0, .int .i64 0, .int .i64 0, .int .i64 0, .int .i64 0, .int .i64 0, .int .i64 0, .int .u64 0, .int .u64 0, .int .i64 0, .int .i64 0, .int .u64 0, .int .i64 0, .int .i64 0] 26)).upd hu (Nat.le_refl _); (replace hb1 := keep hbx hb1; replace hB := hB.trans (hbx.mono hB.size)); clear hu hbx; have d2 := h2.at_ 2 (hdc_at9 F 2 (by omega)); rw [hs] at d2)
      | fail)
    clear a16
    have hz := (Blk.new w2 70 zero16).sub (show _ = ((List.replicate 16 (0 : UInt8)).map u8v).toArray by rfl)
    have hbx := (Below.refl w2.heap.size w2).alloc (Nat.le_refl _) (.cells zero16 70)
    have hl2 := h2.lt
    have hwl2 := hB.size
    have hgl : g < w2.heap.size := by
      obtain ⟨b0, off0, e0, hlt0, _⟩ := hb1.at_ (by have := HN.out; omega)
      injection e0 with e0
      injection e0 with e1
      rw [e1]; exact hlt0
    (replace h2 := keep hbx h2; replace hb1 := keep hbx hb1; replace hB := hB.trans (hbx.mono hB.size); clear hbx d2)
    generalize w2.alloc (.cells zero16 70) = w3 at hz hB h2 hb1 ⊢
    have hbS : Bytes w3 (some ⟨g, 16, none⟩) ((b.drop 16).take 16) := by
      have h := hb1.drop (k := 16) (cap := c) (.inl (by omega))
      rw [if_neg hc16] at h
      exact Bytes.take (by simpa [Addr.add_lit] using h) 16
    have hSl : ((b.drop 16).take 16).length = 16 := by rw [List.length_take, List.length_drop]; have := HN.out; omega
    obtain ⟨S, hS⟩ : ∃ S, S = (b.drop 16).take 16 := ⟨_, rfl⟩
    rw [← hS] at hbS hSl
    have HS := Lib.hid (And.intro hS hSl)
    have HBS := Lib.hid hbS
    clear hS hSl hbS
    refine wp_region_tree (fun _ => True) [] (PlanT.takes [0, 1, 2] (.opt 3 .done .no)) (by kernel_rfl) (by kernel_rfl) (trivial) ?_
    refine wpTree_pure _ _ _ (by rfl) (by rfl) ?_
    dsimp only [List.filterMap, List.getElem?_cons_zero, List.getElem?_cons_succ]
    repeat (go_big_quiet_step (fail))
    refine wpQuiet_nil ?_
    refine wpTree_one _ rfl ?_
    refine wpList_copy_at (by rfl) _ _ _ _ (by rfl) 5 Tryd.underlying27 size1 w2.heap.size 0 16 16 (some ⟨g, 16, none⟩) 16 (c - 16) (by rfl) (by rfl) (List.replicate 16 0) S 70 hz.drew HS.out.2 (HBS.out.drewN 1) (by rw [HS.out.2]; decide) (by rw [HS.out.2]; decide) ?_
    intro w4 hs4 hu4
    replace hs4 := hs4.sub (show _ = (S.map u8v).toArray by rw [HS.out.2]; simp)
    replace h2 := h2.drew.upd hu4 (Nat.ne_of_lt hl2)
    replace hb1 : Bytes w4 (some ⟨g, 0, none⟩) b := Bytes.upd (hb1.drewN 1) hu4 (fun ad h => by injection h with h; rw [← h]; exact Nat.ne_of_lt hgl)
    replace hB := (hB.drew).upd hu4 hwl2
    clear hz hu4 HBS
    rw [HS.out.2]
    go_wp2_with fail
    refine TreeQ.in_ trivial ?_
    refine wpTree_done ?_
    go_wp2_with fail
    have hbD : Bytes w4 (if c = 256 then some ⟨g, 0, none⟩ else some ⟨g, 256, none⟩) ((b.drop 256).take s) := by
      have h := hb1.drop (k := 256) (cap := c) (by have := HN.out; omega)
      exact Bytes.take (by simpa [Addr.add_lit] using h) s
    have hDl : ((b.drop 256).take s).length = s := by rw [List.length_take, List.length_drop]; have := HN.out; omega
    obtain ⟨D, hD⟩ : ∃ D, D = (b.drop 256).take s := ⟨_, rfl⟩
    rw [← hD] at hbD hDl
    have HD := Lib.hid (And.intro hD hDl)
    clear hD hDl
    refine wp_region_tree (Below w4.heap.size w4) [] (PlanT.takes [0, 1] (PlanT.takes [2, 5] (PlanT.takes [3, 4] (.opt 6 (PlanT.takes [7] .done) .no)))) (by kernel_rfl) (by kernel_rfl) ((Below.refl _ _).drew) ?_
    refine wpTree_pure _ _ _ (by rfl) (by rfl) ?_
    dsimp only [List.filterMap, List.getElem?_cons_zero, List.getElem?_cons_succ]
    repeat (go_big_quiet_step (fail))
    refine wpQuiet_nil ?_
    refine wpTree_takeL _ _ _ (by rfl) (by rfl) ((Below.refl _ _).drew) ?_
    dsimp only [List.filterMap, List.getElem?_cons_zero, List.getElem?_cons_succ]
    (refine wpQuiet_load_cell (fun w' hw' => (h2.below hw' h2.lt).at_ 2 (v := .int .i64 (s : Int)) (by rw [hdc_at9 F 2 (by omega), hs])) (by rfl) _ _ (by rfl) (by rfl) _ Tryd.underlying3 (by rfl) ?_; simp only [Act.put, List.setIfInBounds_toArray, List.set_cons_zero, List.set_cons_succ])
    (refine wpQuiet_load_blk (fun w' hw' => hs4.below hw' hs4.lt) (by rfl) _ _ (by rfl) (by rfl) _ Tryd.underlying70 (by rfl) (size16) (by simp [HS.out.2]) ?_; simp only [Act.put, List.setIfInBounds_toArray, List.set_cons_zero, List.set_cons_succ])
    refine wpQuiet_nil ?_
    refine wpTree_pure _ _ _ (by rfl) (by rfl) ?_
    dsimp only [List.filterMap, List.getElem?_cons_zero, List.getElem?_cons_succ]
    repeat (go_big_quiet_step (fail))
    refine wpQuiet_nil ?_
    generalize (if c = 256 then some (⟨g, 0, none⟩ : Addr) else some ⟨g, 256, none⟩) = A2 at hbD ⊢
    refine wpTree_one _ rfl ?_
    go_wp2_with fail
    refine (right_seal_any A2 s (c - 256) D S HD.out.2.symm (by rw [HD.out.2]; omega) ⟨by rw [HD.out.2]; have := HN.out; omega, by have := HN.out; omega⟩ HS.out.2 w4.drew hbD).mono ?_
    rintro e w5 ⟨rfl, hbx⟩
    have hC5 : Below w4.heap.size w4 w5 := (Below.refl _ _).drew.trans hbx
    have HB := Lib.hid (hB.trans (hC5.mono hB.size))
    go_wp2_with fail
    refine TreeQ.in_ hC5 ?_
    refine wpTree_pure _ _ _ (by rfl) (by rfl) ?_
    dsimp only [List.filterMap, List.getElem?_cons_zero, List.getElem?_cons_succ]
    repeat (go_big_quiet_step (fail))
    refine wpQuiet_nil ?_
    refine wpTree_done ?_
    clear hbx hC5 hB hbD hs4 h2 hb1
    go_wp2
    go_ret
    exact ⟨by rw [HR.out, HD.out.1, HS.out.1]; rfl, HB.out⟩
end Go.Proofs.YtekdcjaljjlemaaDoor

/- A place that any number says: what it answers. Condition: the numbers are Go's ints. -/
namespace Go.Proofs.YtekdcjaljjlemaaDoor
open Go.RowKit
/-- The place below n that x says. -/
def pickN (x n : Int) : Nat := if n < 1 then 0 else (x % n).toNat
theorem pickN_lt (x n : Int) (h : 1 ≤ n) : (pickN x n : Int) < n := by
  unfold pickN
  rw [if_neg (by omega)]
  have h1 := Int.emod_nonneg x (show n ≠ 0 by omega)
  have h2 := Int.emod_lt_of_pos x (show 0 < n by omega)
  omega
set_option maxHeartbeats 400000 in
theorem pick_any (x n : Int) (hn : n ≤ 9223372036854775807) (hn1 : 1 ≤ n) (w : World) :
    Calls Tryd.prog 26 #[.int .i64 x, .int .i64 n] w fun e w' => e = .returned (.int .i64 (pickN x n)) ∧ w' = w := by
  have e1 : (pickN x n : Int) = x % n := by
    unfold pickN; rw [if_neg (by omega)]; have h1 := Int.emod_nonneg x (show n ≠ 0 by omega); omega
  rw [e1]
  clear e1
  have h1 := Int.emod_nonneg x (show n ≠ 0 by omega)
  have h2 := Int.emod_lt_of_pos x (show 0 < n by omega)
  have H1 : x.tmod n = (if 0 ≤ x ∨ x % n = 0 then x % n else x % n - n) := by
    rw [Int.tmod_eq_emod]
    have hd : n ∣ x ↔ x % n = 0 := Int.dvd_iff_emod_eq_zero
    by_cases h0 : 0 ≤ x
    · simp [h0]
    · by_cases h3 : x % n = 0
      · simp [h3, hd]
      · simp [h0, h3, hd]; omega
  obtain ⟨r, hr⟩ : ∃ r, r = x % n := ⟨_, rfl⟩
  rw [← hr] at h1 h2 H1 ⊢
  clear hr
  by_cases hp : 0 ≤ x ∨ r = 0
  · rw [if_pos hp] at H1
    have H := Lib.hid H1
    clear H1 hp
    have hn0 : (n == 0) = false := by rw [beq_eq_false_iff_ne]; omega
    go_enter Tryd.func26, Tryd.ntmps26
    go_wp2
    all_goals have h3 := H.out
    · exfalso; omega
    · go_ret
      exact ⟨ret_int h3, rfl⟩
  · rw [if_neg hp] at H1
    have H := Lib.hid H1
    clear H1 hp
    go_enter Tryd.func26, Tryd.ntmps26
    go_wp2
    all_goals have h3 := H.out
    · go_ret
      exact ⟨ret_int (by rw [h3, IntWalk.wrap64_in _ ⟨by omega, by omega⟩]; omega), rfl⟩
    · exfalso; omega
end Go.Proofs.YtekdcjaljjlemaaDoor

/- With bytes turned a slot never has another prepare than it had: the statement, as a call: it answers true and writes nothing that was there. Conditions: the body and the turns can be read; the numbers are what Go's types hold. -/
namespace Go.Proofs.YtekdcjaljjlemaaDoor
open Go.RowKit
/-- A list of turns: of the header, a place, a mask each. -/
abbrev Turns3T := List (Bool × Int × UInt8 × Unit)
def Turns3 (w : World) (B : Option Addr) (ts : Turns3T) : Prop :=
  (∀ i, (h : i < ts.length) → -9223372036854775808 ≤ ts[i].2.1 ∧ ts[i].2.1 ≤ 9223372036854775807) ∧
  (0 < ts.length → ∃ b off, B = some ⟨b, off, none⟩ ∧ ∀ i, (h : i < ts.length) → w.cell? ⟨b, off + 3 * i, none⟩ = some (.bool ts[i].1) ∧ w.cell? ⟨b, off + (3 * i + 1), none⟩ = some (.int .i64 ts[i].2.1) ∧ w.cell? ⟨b, off + (3 * i + 2), none⟩ = some (.int .u8 (iu8 ts[i].2.2.1)))
theorem Turns3.below {w w' : World} {B : Option Addr} {ts : Turns3T} (h : Turns3 w B ts) (hb : Below w.heap.size w w') : Turns3 w' B ts := by
  refine ⟨h.1, fun hp => ?_⟩
  obtain ⟨b, off, e, hc⟩ := h.2 hp
  have hlt := World.block_lt_of_cell? w _ (hc 0 hp).1
  exact ⟨b, off, e, fun i hi => ⟨(hb.cell (p := ⟨b, off + 3 * i, none⟩) hlt).trans (hc i hi).1, (hb.cell (p := ⟨b, off + (3 * i + 1), none⟩) hlt).trans (hc i hi).2.1, (hb.cell (p := ⟨b, off + (3 * i + 2), none⟩) hlt).trans (hc i hi).2.2⟩⟩
theorem Slot.prep_front (b : List UInt8) (f : HdF) (l : List UInt8) (n : Int) (hb : b.take (256 + l.length) = Hd.bytes f l) (hok : Hd.ok f = true) (hin : Hd.in_ f) (h2 : f 2 = (l.length : Int)) (hi : Slot.is f n = true) :
    ∃ F, Slot.prep b n = (true, F, l) ∧ Hd.same F f ∧ b.take 256 = (Hd.bytes f l).take 256 := by
  obtain ⟨h1, h2, h3⟩ := Slot.prep_bytes b f l n hb hok hin h2 hi
  exact ⟨_, h1, h2, h3⟩
theorem c1_zero {S : SSt} {C : Array Value} (h : stv S = .agg C) (h3 : S.1 = 3) : C[0]? = some (.int .i64 3) := by
  unfold stv at h
  injection h with h
  rw [← h, h3]; rfl
def TurnRel7 (w : World) (K gh gb gw s0 caph : Nat) (tb : TypeId) (W : List UInt8) (mc : Array Value) (v : Value) (wr : World) : Prop :=
  ∃ (i : Nat) (TH BC : List UInt8), i ≤ K ∧ v = .int .i64 (i : Int) ∧ TH.length = caph ∧ BC.length = 1280 ∧ Blk wr gh 5 (TH.map u8v).toArray ∧ Blk wr gb tb (BC.map u8v).toArray ∧ Blk wr gw 5 (W.map u8v).toArray ∧ Blk wr s0 29 mc ∧ Below w.heap.size w wr
set_option maxRecDepth 100000 in
set_option maxHeartbeats 8000000 in
theorem turned07_any (f : HdF) (A Bk : Option Addr) (c dk : Nat) (l : List UInt8) (ts : Turns3T) (hin : Hd.in_ f) (hc : l.length ≤ c ∧ c ≤ 9223372036854775807) (w : World) (hby : Bytes w A l) (hk : Turns3 w Bk ts) :
    Calls Tryd.prog 6 #[.agg (msgc f (.slice A l.length c)), .slice Bk ts.length dk] w fun e w' => e = .returned (.bool true) ∧ Below w.heap.size w w' := by
  have hm := Blk.new w 29 (msgc f (.slice A l.length c))
  have hB := (Below.refl w.heap.size w).alloc (Nat.le_refl _) (.cells (msgc f (.slice A l.length c)) 29)
  have hby0 := Lib.hid hby
  have hk0 := Lib.hid hk
  have HC := Lib.hid hc
  have HIN := Lib.hid hin
  clear hby hk hc hin
  go_enter Tryd.func6, Tryd.ntmps6
  go_wp2_with fail
  generalize w.alloc (.cells (msgc f (.slice A l.length c)) 29) = w1 at hm hB ⊢
  generalize hs0 : w.heap.size = s0 at hm ⊢
  have HS0 := Lib.hid hs0
  clear hs0
  refine (known07_any w1).mono ?_
  rintro e w2 ⟨rfl, hbx⟩
  (replace hm := keep hbx hm; replace hB := hB.trans (hbx.mono hB.size))
  clear hbx
  have d16 := hm.at_ 16 (msgc_16 f _)
  by_cases hl1 : 1024 < l.length
  · have HB := Lib.hid hB
    clear hB hm
    go_wp2
    go_ret
    exact ⟨rfl, HB.out⟩
  by_cases hl2 : 40 < ts.length
  · have HB := Lib.hid hB
    clear hB hm
    go_wp2
    go_ret
    exact ⟨rfl, HB.out⟩
  have HL := Lib.hid (show l.length ≤ 1024 ∧ ts.length ≤ 40 by omega)
  go_wp2_with (first
    | ((with_reducible show wpList _ _ _ ((⟨some 32, _, _, _, _, _⟩ : Oper) :: _) _ _); refine wpList_load_blk (o := ⟨some 32, _, _, _, _, _⟩) (hm) (by rfl) _ _ (by rfl) (by rfl) _ Tryd.underlying29 (by rfl) (sizeMsg) (msgc_size _ _) ?_)
    | fail)
  clear hl1 hl2 d16
  have hlt2 := hm.lt
  have hby2 := Bytes.below hby0.out hB
  refine (sbytes_any f A l.length c l w2 rfl hby2 HC.out HIN.out).mono ?_
  rintro e w3 ⟨E1, rfl, hE1, hE1g, hE1n, hE1l, hbx⟩
  (replace hm := keep hbx hm; replace hB := hB.trans (hbx.mono hB.size))
  clear hbx hby2
  obtain ⟨cb, hcb⟩ : ∃ x, x = (Slot.bytes f l).1 := ⟨_, rfl⟩
  rw [← hcb]
  rcases Slot.bytes_cases f l with ⟨co, hco, hs⟩ | ⟨hs, hl3, hok, hi⟩
  · have hc0 : (cb != 0) = true := by rw [bne_iff_ne, hcb, hs]; exact hco
    have HB := Lib.hid hB
    clear hE1 hE1g hE1n hE1l hs hco hm hB hcb
    go_wp2
    go_ret
    exact ⟨rfl, HB.out⟩
  obtain rfl : cb = 0 := by rw [hcb, hs]
  have hz := Slot.bytes_say f l HIN.out hl3 hok hi
  rw [hs] at hE1l
  dsimp only at hE1l
  rw [← hE1l] at hz
  obtain ⟨FB, hBl, hBt, hBp, hBk, hBs⟩ := hz
  have hin2 := setF_in f l.length HIN.out
  have hi2 : Slot.is (setF f 2 l.length) (Slot.of (f 5)) = true := by
    have : Slot.is (setF f 2 l.length) (Slot.of (f 5)) = Slot.is f (Slot.of (f 5)) := by unfold Slot.is setF; simp
    rw [this]; exact hi
  obtain ⟨gb, tb, e1, hbb, hgb⟩ := Ent.Is.blk_ hE1 (by omega)
  have hgb2 := hE1g _ hgb
  obtain ⟨A1, n1, B⟩ := E1
  dsimp only at hE1n hE1l hBl hBt hBp hBk e1 hbb
  subst hE1n e1
  obtain ⟨fx, hfx⟩ : ∃ fx, fx = setF f 2 l.length := ⟨_, rfl⟩
  rw [← hfx] at hBt hBs hok hin2 hi2
  have hfx2 : fx 2 = (l.length : Int) := by rw [hfx]; unfold setF; rw [if_pos rfl]
  have hBB := And.intro hBl (And.intro hBt (And.intro hBp (And.intro hBk hBs)))
  have HOK := Lib.hid (And.intro hok (And.intro hin2 (And.intro hfx2 hi2)))
  dsimp only [Ent.val]
  rw [hBl]
  have hne : gb ≠ s0 := by omega
  have HGB := Lib.hid (show w.heap.size ≤ gb ∧ gb ≠ s0 by have := HS0.out; omega)
  have hfxc : msgc fx (.slice A l.length c) = (msgc f (.slice A l.length c)).setIfInBounds 2 (.int .i64 l.length) := by rw [hfx]; exact (msgc_set _ _ _).symm
  have HFX := Lib.hid (show fx 5 = f 5 ∧ fx 3 = f 3 by rw [hfx]; unfold setF; simp)
  clear hE1 hE1g hE1l hs hcb hok hi hgb hBl hBt hBp hBk hBs hgb2 hin2 hi2 hfx2 hfx
  have d5 := hm.at_ 5 (msgc_at f _ 5 (by omega))
  have HBB0 := Lib.hid hBB
  clear hBB
  go_wp2_with fail
  refine (sof_any (f 5) w3).mono ?_
  rintro e w5 ⟨rfl, hw4⟩
  rw [← hw4] at hm hB d5 hbb
  clear hw4
  have hnb := Slot.of_bounds (f 5)
  have hBB := HBB0.out
  have hOK := HOK.out
  obtain ⟨n, hn⟩ : ∃ n, n = Slot.of (f 5) := ⟨_, rfl⟩
  rw [← hn] at hnb hBB hOK ⊢
  have HBB := Lib.hid hBB
  clear HOK HBB0 hBB
  have HOK := Lib.hid hOK
  have HNN := Lib.hid hnb
  clear hn hnb hOK
  have d16 := hm.at_ 16 (msgc_16 f _)
  have f2 := hm.frozen 2
  have d2 := hm.at_ 2 (msgc_at f _ 2 (by omega))
  have HSET := Lib.hid (And.intro ((hm.set_ 2 (.int .i64 (l.length : Nat))).sub hfxc.symm) (And.intro (hbb.off (c := s0) (i := 2) hne (.int .i64 (l.length : Nat))) (hB.set_ (c := s0) (i := 2) (by have := HS0.out; omega) (.int .i64 (l.length : Nat)))))
  clear hm hbb hB hne hfxc d5
  go_wp2_with fail
  clear d16 f2 d2
  generalize World.setCell w5 _ _ = w7 at HSET ⊢
  obtain ⟨hm, hbb, hB⟩ := HSET.out
  clear HSET
  refine (copyBytes_any (some ⟨gb, 0, none⟩) 1280 1280 B HBB.out.1.symm (by have := HBB.out.1; omega) w7 hbb.bytes).mono ?_
  have hlt7 := hm.lt
  have hltb7 := hbb.lt
  rintro e w8 ⟨v8, sp8, rfl, ho8, hbx⟩
  (replace hm := keep hbx hm; replace hbb := keep hbx hbb; replace hB := hB.trans (hbx.mono hB.size))
  clear hbx
  obtain ⟨gw, capw, rfl, hgew, hgw, hcw1, hcw2, -⟩ := OwnB.at_ ho8 (by rw [HBB.out.1]; omega)
  clear ho8
  rw [HBB.out.1] at hcw1 ⊢
  have hH0l : (B.take 256).length = 256 := by rw [List.length_take, HBB.out.1]; rfl
  have HH0 := Lib.hid hH0l
  go_wp2_with fail
  refine (copyBytes_any (some ⟨gb, 0, none⟩) 256 1280 (B.take 256) HH0.out.symm (by have := HH0.out; omega) w8 (hbb.bytes.take 256)).mono ?_
  have hlt8 := hm.lt
  have hltb8 := hbb.lt
  have hltw8 := hgw.lt
  have hB8 := hB.size
  rintro e w9 ⟨v9, sp9, rfl, ho9, hbx⟩
  (replace hm := keep hbx hm; replace hbb := keep hbx hbb; replace hgw := keep hbx hgw; replace hB := hB.trans (hbx.mono hB.size))
  clear hbx
  obtain ⟨gh, caph, rfl, hgeh, hgh, hch1, hch2, hsp9⟩ := OwnB.at_ ho9 (by rw [HH0.out]; omega)
  clear ho9
  rw [HH0.out] at hch1 hsp9 ⊢
  have hNE := Lib.hid (show gb ≠ gh ∧ gw ≠ gh ∧ s0 ≠ gh ∧ gh ≠ gb ∧ gw ≠ gb ∧ s0 ≠ gb ∧ w.heap.size ≤ gh ∧ w.heap.size ≤ gb by have h := HS0.out; have h2 := HGB.out; omega)
  have hch2' : caph ≤ 9223372036854775807 := by simpa [maxLen] using hch2
  have HCAP := Lib.hid (And.intro hch1 (And.intro hch2' hcw1))
  have hTl : (B.take 256 ++ sp9).length = caph := by rw [List.length_append, HH0.out, hsp9]; omega
  obtain ⟨W, hW⟩ : ∃ W, W = B ++ sp8 := ⟨_, rfl⟩
  rw [← hW] at hgw
  have HW := Lib.hid (show W.take 1280 = B by rw [hW, ← HBB.out.1, List.take_left])
  have hST : TurnRel7 w ts.length gh gb gw s0 caph tb W (msgc fx (.slice A l.length c)) (.int .i64 0) w9 := ⟨0, B.take 256 ++ sp9, B, by omega, rfl, hTl, HBB.out.1, hgh, hbb, hgw, hm, hB⟩
  clear hgw hbb hm hB hgh hgew hgeh hcw1 hcw2 hch1 hch2 hsp9 hTl hW hlt7 hltb7 hlt8 hltb8 hltw8 hB8 hch2' hH0l
  go_wp2_with fail
  go_loopw [11] (fun v wr => TurnRel7 w ts.length gh gb gw s0 caph tb W (msgc fx (.slice A l.length c)) v wr) (fun v _ => ts.length - (intOf v).toNat)
  case atStart => exact hST
  case round =>
    clear hST
    obtain ⟨i, TH, BC, hi, rfl, hTHl, hBCl, hgh, hbb, hgw, hm, hB⟩ := hrel
    have hkr := hk0.out.below hB
    have HTL := Lib.hid (And.intro hTHl hBCl)
    clear hTHl hBCl
    by_cases hlt : i < ts.length
    · obtain ⟨b, off, rfl, hcells⟩ := hkr.2 (by omega)
      obtain ⟨d1, d2, d3⟩ := hcells i hlt
      have hb1 := hkr.1 i hlt
      clear hkr hcells
      generalize ts[i].1 = HD at d1
      generalize ts[i].2.1 = P at d2 hb1
      generalize ts[i].2.2.1 = M at d3
      rw [Nat.mul_comm] at d1
      rw [show off + (3 * i + 1) = off + i * 3 + 1 by omega] at d2
      rw [show off + (3 * i + 2) = off + i * 3 + 2 by omega] at d3
      cases HD
      · go_wp2_with fail
        refine (pick_any P 1280 (by omega) (by omega) wr).mono ?_
        rintro e wr ⟨rfl, rfl⟩
        have hat := pickN_lt P (1280 : Int) (by omega)
        generalize pickN P (1280 : Int) = at_ at hat
        have hatn : at_ < 1280 := by omega
        have hatl : at_ < BC.length := by have := HTL.out; omega
        have dc : wr.cell? ⟨gb, at_, none⟩ = some (.int .u8 (iu8 BC[at_])) := by rw [hbb.cell, List.getElem?_toArray, List.getElem?_map, List.getElem?_eq_getElem hatl]; rfl
        have fc := hbb.frozen at_
        go_wp2_with fail
        refine wp_region_tail 13 (by kernel_rfl) (by kernel_rfl) ?_
        dsimp only [List.take_succ_cons, List.take_zero, List.drop_succ_cons, List.drop_zero]
        repeat (go_big_quiet_step (fail))
        refine wpQuiet_nil ?_
        have ho := ((hbb.set_ at_ (.int .u8 (iu8 (BC[at_] ^^^ M)))).sub (show _ = ((BC.set at_ (BC[at_] ^^^ M)).map u8v).toArray by simp [List.map_set, u8v])).drew
        have ho2 := (hgh.off (show gh ≠ gb from hNE.out.2.2.2.1) (i := at_) (.int .u8 (iu8 (BC[at_] ^^^ M)))).drew
        have ho3 := (hgw.off (show gw ≠ gb from hNE.out.2.2.2.2.1) (i := at_) (.int .u8 (iu8 (BC[at_] ^^^ M)))).drew
        have ho4 := (hm.off (show s0 ≠ gb from hNE.out.2.2.2.2.2.1) (i := at_) (.int .u8 (iu8 (BC[at_] ^^^ M)))).drew
        have hB4 := (hB.set_ (c := gb) (i := at_) hNE.out.2.2.2.2.2.2.2 (.int .u8 (iu8 (BC[at_] ^^^ M)))).drew
        have HO := Lib.hid (And.intro ho (And.intro ho2 (And.intro ho3 (And.intro ho4 hB4))))
        clear ho ho2 ho3 ho4 hB4 hgh hbb hgw hm hB
        go_wp2
        rw [u8_xor_w]
        go_roundw
        case rel => exact ⟨i + 1, TH, BC.set at_ (BC[at_] ^^^ M), by omega, by go_num, HTL.out.1, by rw [List.length_set]; exact HTL.out.2, HO.out.2.1, HO.out.1, HO.out.2.2.1, HO.out.2.2.2.1, HO.out.2.2.2.2⟩
        case measure => simp [intOf]; omega
      · go_wp2_with fail
        refine (pick_any P 256 (by omega) (by omega) wr).mono ?_
        rintro e wr ⟨rfl, rfl⟩
        have hat := pickN_lt P (256 : Int) (by omega)
        generalize pickN P (256 : Int) = at_ at hat
        have hatn : at_ < 256 := by omega
        have hatl : at_ < TH.length := by have := HTL.out; have := HCAP.out; omega
        have dc : wr.cell? ⟨gh, at_, none⟩ = some (.int .u8 (iu8 TH[at_])) := by rw [hgh.cell, List.getElem?_toArray, List.getElem?_map, List.getElem?_eq_getElem hatl]; rfl
        have fc := hgh.frozen at_
        go_wp2_with fail
        refine wp_region_tail 13 (by kernel_rfl) (by kernel_rfl) ?_
        dsimp only [List.take_succ_cons, List.take_zero, List.drop_succ_cons, List.drop_zero]
        repeat (go_big_quiet_step (fail))
        refine wpQuiet_nil ?_
        have ho := ((hgh.set_ at_ (.int .u8 (iu8 (TH[at_] ^^^ M)))).sub (show _ = ((TH.set at_ (TH[at_] ^^^ M)).map u8v).toArray by simp [List.map_set, u8v])).drew
        have ho2 := (hbb.off (show gb ≠ gh from hNE.out.1) (i := at_) (.int .u8 (iu8 (TH[at_] ^^^ M)))).drew
        have ho3 := (hgw.off (show gw ≠ gh from hNE.out.2.1) (i := at_) (.int .u8 (iu8 (TH[at_] ^^^ M)))).drew
        have ho4 := (hm.off (show s0 ≠ gh from hNE.out.2.2.1) (i := at_) (.int .u8 (iu8 (TH[at_] ^^^ M)))).drew
        have hB4 := (hB.set_ (c := gh) (i := at_) hNE.out.2.2.2.2.2.2.1 (.int .u8 (iu8 (TH[at_] ^^^ M)))).drew
        have HO := Lib.hid (And.intro ho (And.intro ho2 (And.intro ho3 (And.intro ho4 hB4))))
        clear ho ho2 ho3 ho4 hB4 hgh hbb hgw hm hB
        go_wp2
        rw [u8_xor_w]
        go_roundw
        case rel => exact ⟨i + 1, TH.set at_ (TH[at_] ^^^ M), BC, by omega, by go_num, by rw [List.length_set]; exact HTL.out.1, HTL.out.2, HO.out.1, HO.out.2.1, HO.out.2.2.1, HO.out.2.2.2.1, HO.out.2.2.2.2⟩
        case measure => simp [intOf]; omega
    · obtain rfl : i = ts.length := by omega
      clear hkr
      have hH := hgh.bytes.take 256
      have hHl : (TH.take 256).length = 256 := by rw [List.length_take, HTL.out.1]; have := HCAP.out.1; omega
      obtain ⟨H, hHH⟩ : ∃ H, H = TH.take 256 := ⟨_, rfl⟩
      rw [← hHH] at hH hHl
      have HHL := Lib.hid hHl
      have hcapw := HCAP.out.2.2
      have hbcl := HTL.out.2
      have HTL2 := Lib.hid hbcl
      clear hHH hHl hgh hbcl
      go_wp2_with fail
      refine (judge_any (some ⟨gh, 0, none⟩) (some ⟨gb, 0, none⟩) 256 caph 1280 1280 H BC n HNN.out ⟨HHL.out.symm, HCAP.out.1, HCAP.out.2.1⟩ ⟨HTL.out.2.symm, Nat.le_refl _, by omega, by omega⟩ wr hH hbb.bytes).mono ?_
      rintro e w10 ⟨rfl, hbx⟩
      (replace hm := keep hbx hm; replace hbb := keep hbx hbb; replace hgw := keep hbx hgw; replace hH := keep hbx hH; replace hB := hB.trans (hbx.mono hB.size))
      clear hbx
      obtain ⟨S1, hS1⟩ : ∃ x, x = Slot.judge H BC n := ⟨_, rfl⟩
      rw [← hS1]
      have HS1 := Lib.hid hS1
      clear hS1
      obtain ⟨C1, hC1⟩ : ∃ x : Array Value, stv S1 = .agg x := ⟨_, rfl⟩
      have hC14 : C1.size = 4 := by unfold stv at hC1; injection hC1 with hC1; rw [← hC1]; rfl
      have hC1o : C1.all (·.oneCell') = true := by unfold stv at hC1; injection hC1 with hC1; rw [← hC1]; exact st_one _ _ _ _
      rw [hC1]
      have HC1 := Lib.hid hC1
      clear hC1
      go_wp2_with (first
        | ((with_reducible show wpList _ _ _ ((⟨none, _, _, _, _, _⟩ : Oper) :: _) _ _); refine wpList_store_blk (o := ⟨none, _, _, _, _, _⟩) ((Blk.new w10 47 #[.int .i64 0, .int .i64 0, .int .i64 0, .bool false])) (by rfl) _ _ _ (by rfl) (by rfl) (C1) (by rfl) (sizeSt) (by rfl) (hC14) (hC1o) ?_; intro w11 h14 hu; have hbx := ((Below.refl w10.heap.size w10).alloc (Nat.le_refl _) (.cells #[.int .i64 0, .int .i64 0, .int .i64 0, .bool false] 47)).upd hu (Nat.le_refl _); (replace hm := keep hbx hm; replace hbb := keep hbx hbb; replace hgw := keep hbx hgw; replace hH := keep hbx hH; replace hB := hB.trans (hbx.mono hB.size)); clear hbx hu)
        | fail)
      obtain ⟨g14, hgg14⟩ : ∃ x, x = w10.heap.size := ⟨_, rfl⟩
      rw [← hgg14] at h14 ⊢
      clear hgg14
      refine (sprep_any (some ⟨gb, 0, none⟩) 1280 1280 BC n HTL.out.2.symm (Nat.le_refl _) ⟨by omega, by omega⟩ w11 hbb.bytes).mono ?_
      rintro e w12 ⟨V, rfl, ⟨sp12, ho12⟩, hbx⟩
      (replace hm := keep hbx hm; replace hbb := keep hbx hbb; replace hgw := keep hbx hgw; replace hH := keep hbx hH; replace h14 := keep hbx h14; replace hB := hB.trans (hbx.mono hB.size))
      clear hbx
      obtain ⟨q, hq⟩ : ∃ x, x = (Slot.prep BC n).1 := ⟨_, rfl⟩
      obtain ⟨F, hF⟩ : ∃ x, x = (Slot.prep BC n).2.1 := ⟨_, rfl⟩
      obtain ⟨D, hD⟩ : ∃ x, x = (Slot.prep BC n).2.2 := ⟨_, rfl⟩
      rw [← hD] at ho12
      rw [← hq, ← hF]
      have HPR := Lib.hid (And.intro hq (And.intro hF hD))
      clear hq hF hD
      obtain ⟨V2, vc, rfl, -⟩ := OwnB.open_ ho12
      go_wp2_with (first
        | ((with_reducible show wpList _ _ _ ((⟨none, _, _, _, _, _⟩ : Oper) :: _) _ _); refine wpList_store_blk (o := ⟨none, _, _, _, _, _⟩) ((Blk.new w12 29 #[.int .i64 0, .int .i64 0, .int .i64 0, .int .i64 0, .int .i64 0, .int .i64 0, .int .i64 0, .int .i64 0, .int .i64 0, .int .u64 0, .int .u64 0, .int .i64 0, .int .i64 0, .int .u64 0, .int .i64 0, .int .i64 0, .slice none 0 0])) (by rfl) _ _ _ (by rfl) (by rfl) (msgc F (.slice V2 D.length vc)) (by rfl) (sizeMsg) (by rfl) (msgc_size _ _) (msgc_one _ _ rfl) ?_; intro w13 h15 hu; have hbx := ((Below.refl w12.heap.size w12).alloc (Nat.le_refl _) (.cells #[.int .i64 0, .int .i64 0, .int .i64 0, .int .i64 0, .int .i64 0, .int .i64 0, .int .i64 0, .int .i64 0, .int .i64 0, .int .u64 0, .int .u64 0, .int .i64 0, .int .i64 0, .int .u64 0, .int .i64 0, .int .i64 0, .slice none 0 0] 29)).upd hu (Nat.le_refl _); (replace hm := keep hbx hm; replace hbb := keep hbx hbb; replace hgw := keep hbx hgw; replace hH := keep hbx hH; replace h14 := keep hbx h14; replace ho12 := keep hbx ho12; replace hB := hB.trans (hbx.mono hB.size)); clear hbx hu)
        | fail)
      have h1280 : 256 + l.length ≤ 1280 := by omega
      have hcw2 : 256 + l.length ≤ capw := by omega
      refine wp_region_tree (Below w13.heap.size w13) [] (PlanT.takes [0, 1, 6, 7] (PlanT.takes [2, 8] (PlanT.takes [3, 4, 5, 9, 10, 11] (.opt 12 (PlanT.takes [13] .done) .no)))) (by kernel_rfl) (by kernel_rfl) ((Below.refl _ _).drew) ?_
      refine wpTree_pure _ _ _ (by rfl) (by rfl) ?_
      dsimp only [List.filterMap, List.getElem?_cons_zero, List.getElem?_cons_succ]
      repeat (go_big_quiet_step (fail))
      refine wpQuiet_nil ?_
      refine wpTree_takeL _ _ _ (by rfl) (by rfl) ((Below.refl _ _).drew) ?_
      dsimp only [List.filterMap, List.getElem?_cons_zero, List.getElem?_cons_succ]
      (refine wpQuiet_load_cell (fun w' hw' => (hm.below hw' hm.lt).at_ 16 (msgc_16 fx _)) (by rfl) _ _ (by rfl) (by rfl) _ Tryd.underlying27 (by rfl) ?_; simp only [Act.put, List.setIfInBounds_toArray, List.set_cons_zero, List.set_cons_succ])
      (refine wpQuiet_load_cell (fun w' hw' => (hm.below hw' hm.lt).at_ 16 (msgc_16 fx _)) (by rfl) _ _ (by rfl) (by rfl) _ Tryd.underlying27 (by rfl) ?_; simp only [Act.put, List.setIfInBounds_toArray, List.set_cons_zero, List.set_cons_succ])
      refine wpQuiet_nil ?_
      refine wpTree_pure _ _ _ (by rfl) (by rfl) ?_
      dsimp only [List.filterMap, List.getElem?_cons_zero, List.getElem?_cons_succ]
      repeat (go_big_quiet_step (fail))
      refine wpQuiet_nil ?_
      refine wpTree_one _ rfl ?_
      have hX : W.take (256 + l.length) = Hd.bytes fx l := by
        rw [← HBB.out.2.1, ← HW.out, List.take_take, Nat.min_eq_left h1280]
      have HW256 := Lib.hid (show W.take 256 = B.take 256 by rw [← HW.out, List.take_take]; rfl)
      have hXb := hgw.bytes.take (256 + l.length)
      rw [hX] at hXb
      have HXL := Lib.hid (Hd.bytes_length fx l)
      have HTK := Lib.hid (show (BC.take (256 + l.length)).length = 256 + l.length by rw [List.length_take, HTL.out.2, Nat.min_eq_left h1280])
      clear hX
      go_wp2_with fail
      refine (sameBytes_any (some ⟨gb, 0, none⟩) (some ⟨gw, 0, none⟩) (256 + l.length) (256 + l.length) 1280 capw (BC.take (256 + l.length)) (Hd.bytes fx l) HTK.out.symm HXL.out.symm w13.drew (hbb.drew.bytes.take _) (hXb.drewN 1)).mono ?_
      rintro e w17 ⟨rfl, hw17⟩
      have hC17 : Below w13.heap.size w13 w17 := by rw [hw17]; exact (Below.refl _ _).drew
      (replace hm := keep hC17 hm; replace hbb := keep hC17 hbb; replace hgw := keep hC17 hgw; replace hH := keep hC17 hH; replace h14 := keep hC17 h14; replace h15 := keep hC17 h15; replace ho12 := keep hC17 ho12; replace hB := hB.trans (hC17.mono hB.size))
      clear hw17 hXb h1280 hcw2
      by_cases hsame : BC.take (256 + l.length) = Hd.bytes fx l
      · have hp := Slot.prep_front BC fx l n hsame HOK.out.1 HOK.out.2.1 HOK.out.2.2.1 HOK.out.2.2.2
        obtain ⟨F0, hp1, hp2, hp3⟩ := hp
        obtain rfl : q = true := by rw [HPR.out.1, hp1]
        have hFF : F = F0 := by rw [HPR.out.2.1, hp1]
        have hDD : l = D := by rw [HPR.out.2.2, hp1]
        subst hFF hDD
        have hbt : BC.take 256 = B.take 256 := by
          rw [hp3, ← HBB.out.2.1, List.take_take, Nat.min_eq_left (by omega)]
        have HSM := Lib.hid (And.intro hp1 (And.intro hp2 hbt))
        clear hp1 hp2 hp3 hbt
        rw [decide_eq_true hsame]
        clear hsame hbb
        go_wp2_with fail
        refine TreeQ.in_ hC17 ?_
        refine wpTree_pure _ _ _ (by rfl) (by rfl) ?_
        dsimp only [List.filterMap, List.getElem?_cons_zero, List.getElem?_cons_succ]
        repeat (go_big_quiet_step (fail))
        refine wpQuiet_nil ?_
        refine wpTree_done ?_
        go_wp2_with (first
          | ((with_reducible show wpList _ _ _ ((⟨some 141, _, _, _, _, _⟩ : Oper) :: _) _ _); refine wpList_want (by rfl) ?_; refine wpList_load_blk (o := ⟨some 141, _, _, _, _, _⟩) (h15) (by rfl) _ _ (by rfl) (by rfl) _ Tryd.underlying29 (by rfl) (sizeMsg) (msgc_size _ _) ?_)
          | ((with_reducible show wpList _ _ _ ((⟨some 142, _, _, _, _, _⟩ : Oper) :: _) _ _); refine wpList_want (by rfl) ?_; refine wpList_load_blk (o := ⟨some 142, _, _, _, _, _⟩) (hm) (by rfl) _ _ (by rfl) (by rfl) _ Tryd.underlying29 (by rfl) (sizeMsg) (msgc_size _ _) ?_)
          | fail)
        refine (sameMessage_any F fx V2 A l.length l.length vc c l l rfl rfl _ (OwnB.bytes ho12) (Bytes.below hby0.out hB)).mono ?_
        rintro e w20 ⟨rfl, hbx⟩
        (replace hm := keep hbx hm; replace hgw := keep hbx hgw; replace h14 := keep hbx h14; replace hH := keep hbx hH; replace hB := hB.trans (hbx.mono hB.size))
        clear hbx ho12 h15
        rw [(Hd.beq_same F fx).2 HSM.out.2.1, decide_eq_true rfl]
        go_wp2_with fail
        refine (hhead_any (some ⟨gh, 0, none⟩) 256 caph H HHL.out.symm HCAP.out.1 HCAP.out.2.1 _ hH).mono ?_
        rintro e w22 ⟨rfl, hbx⟩
        (replace hm := keep hbx hm; replace hgw := keep hbx hgw; replace h14 := keep hbx h14; replace hH := keep hbx hH; replace hB := hB.trans (hbx.mono hB.size))
        clear hbx
        obtain ⟨G2, hG2⟩ : ∃ f, f = (Hd.read H).2 := ⟨_, rfl⟩
        obtain ⟨er, hE⟩ : ∃ f, f = (Hd.read H).1 := ⟨_, rfl⟩
        rw [← hG2, ← hE]
        have HER := Lib.hid hE
        clear hG2 hE
        by_cases h0 : er = 0
        case neg =>
          have hc0 : (er == 0) = false := by rw [beq_eq_false_iff_ne]; exact h0
          have hc1 : (er != 0) = true := by rw [bne_iff_ne]; exact h0
          have HER0 := Lib.hid (show (Hd.read H).1 ≠ 0 by rw [← HER.out]; exact h0)
          clear h0
          have HS := Lib.hid (show S1 = (1, fx 5, fx 3, true) by
            rw [HS1.out, Slot.judge_in _ _ _ HNN.out, HSM.out.1, Slot.kind_broken HER0.out, Slot.put_mend _ _ _ _ _ _ (by omega), HSM.out.2.1 5 (by omega), HSM.out.2.1 3 (by omega)])
          have d5 := hm.at_ 5 (msgc_at fx _ 5 (by omega))
          have d3 := hm.at_ 3 (msgc_at fx _ 3 (by omega))
          clear hgw hH
          go_wp2_with (first
            | ((with_reducible show wpList _ _ _ ((⟨none, _, _, _, _, _⟩ : Oper) :: _) _ _); refine wpList_store_blk (o := ⟨none, _, _, _, _, _⟩) (((Blk.new w22 26 #[.int .i64 0, .int .i64 0, .int .i64 0, .int .i64 0, .int .i64 0, .int .i64 0, .int .i64 0, .int .i64 0, .int .i64 0, .int .u64 0, .int .u64 0, .int .i64 0, .int .i64 0, .int .u64 0, .int .i64 0, .int .i64 0]).sub zeroHd_cells.symm)) (by rfl) _ _ _ (by rfl) (by rfl) (hdc G2) (by rfl) (sizeHd) (hdc_size _) (hdc_size _) (hdc_one _) ?_; intro w23 h23 hu; have hbx := ((Below.refl w22.heap.size w22).alloc (Nat.le_refl _) (.cells #[.int .i64 0, .int .i64 0, .int .i64 0, .int .i64 0, .int .i64 0, .int .i64 0, .int .i64 0, .int .i64 0, .int .i64 0, .int .u64 0, .int .u64 0, .int .i64 0, .int .i64 0, .int .u64 0, .int .i64 0, .int .i64 0] 26)).upd hu (Nat.le_refl _); (replace hm := keep hbx hm; replace h14 := keep hbx h14; replace hB := hB.trans (hbx.mono hB.size)); clear hbx hu h23; replace d5 := hm.at_ 5 (msgc_at fx _ 5 (by omega)); replace d3 := hm.at_ 3 (msgc_at fx _ 3 (by omega)))
            | ((with_reducible show wpList _ _ _ ((⟨some 165, _, _, _, _, _⟩ : Oper) :: _) _ _); refine wpList_want (by rfl) ?_; refine wpList_load_blk (o := ⟨some 165, _, _, _, _, _⟩) (h14) (by rfl) _ _ (by rfl) (by rfl) _ Tryd.underlying47 (by rfl) (sizeSt) (hC14) ?_)
            | fail)
          rw [← HC1.out]
          refine (isst_any S1 1 (fx 5) (fx 3) true _).mono ?_
          rintro e w30 ⟨rfl, hbx⟩
          have HB := Lib.hid (hB.trans (hbx.mono hB.size))
          clear hbx d5 d3 hB hm h14
          rw [decide_eq_true HS.out]
          go_wp2
          go_ret
          exact ⟨rfl, HB.out⟩
        subst h0
        go_wp2_with (first
          | ((with_reducible show wpList _ _ _ ((⟨none, _, _, _, _, _⟩ : Oper) :: _) _ _); refine wpList_store_blk (o := ⟨none, _, _, _, _, _⟩) (((Blk.new w22 26 #[.int .i64 0, .int .i64 0, .int .i64 0, .int .i64 0, .int .i64 0, .int .i64 0, .int .i64 0, .int .i64 0, .int .i64 0, .int .u64 0, .int .u64 0, .int .i64 0, .int .i64 0, .int .u64 0, .int .i64 0, .int .i64 0]).sub zeroHd_cells.symm)) (by rfl) _ _ _ (by rfl) (by rfl) (hdc G2) (by rfl) (sizeHd) (hdc_size _) (hdc_size _) (hdc_one _) ?_; intro w23 h23 hu; have hbx := ((Below.refl w22.heap.size w22).alloc (Nat.le_refl _) (.cells #[.int .i64 0, .int .i64 0, .int .i64 0, .int .i64 0, .int .i64 0, .int .i64 0, .int .i64 0, .int .i64 0, .int .i64 0, .int .u64 0, .int .u64 0, .int .i64 0, .int .i64 0, .int .u64 0, .int .i64 0, .int .i64 0] 26)).upd hu (Nat.le_refl _); (replace hm := keep hbx hm; replace hgw := keep hbx hgw; replace h14 := keep hbx h14; replace hH := keep hbx hH; replace hB := hB.trans (hbx.mono hB.size)); clear hbx hu h23)
          | fail)
        have hwb := hgw.bytes.take 256
        rw [HW256.out] at hwb
        refine (sameBytes_any (some ⟨gh, 0, none⟩) (some ⟨gw, 0, none⟩) 256 256 caph capw H (B.take 256) HHL.out.symm HH0.out.symm w23 hH hwb).mono ?_
        rintro e w24 ⟨rfl, hw24⟩
        rw [← hw24] at hm hgw h14 hH hB
        clear hw24 hwb
        by_cases hcb : H = B.take 256
        case neg =>
          rw [decide_eq_false hcb]
          have HB := Lib.hid hB
          clear hcb hm hgw h14 hH hB
          go_wp2
          go_ret
          exact ⟨rfl, HB.out⟩
        rw [decide_eq_true hcb]
        have HCB2 := Lib.hid hcb
        clear hcb
        have HS := Lib.hid (show S1 = (1, fx 5, fx 3, false) by
          rw [HS1.out, Slot.judge_in _ _ _ HNN.out, HSM.out.1, show Slot.kind H n = (2, FB) by rw [HCB2.out]; exact HBB.out.2.2.2.1, decide_eq_true (show H = BC.take 256 by rw [HCB2.out, HSM.out.2.2]), Slot.put_same, HSM.out.2.1 5 (by omega), HSM.out.2.1 3 (by omega)])
        have d5 := hm.at_ 5 (msgc_at fx _ 5 (by omega))
        have d3 := hm.at_ 3 (msgc_at fx _ 3 (by omega))
        clear hgw hH
        go_wp2_with (first
          | ((with_reducible show wpList _ _ _ ((⟨some 165, _, _, _, _, _⟩ : Oper) :: _) _ _); refine wpList_want (by rfl) ?_; refine wpList_load_blk (o := ⟨some 165, _, _, _, _, _⟩) (h14) (by rfl) _ _ (by rfl) (by rfl) _ Tryd.underlying47 (by rfl) (sizeSt) (hC14) ?_)
          | fail)
        rw [← HC1.out]
        refine (isst_any S1 1 (fx 5) (fx 3) false _).mono ?_
        rintro e w30 ⟨rfl, hbx⟩
        have HB := Lib.hid (hB.trans (hbx.mono hB.size))
        clear hbx d5 d3 hB hm h14
        rw [decide_eq_true HS.out]
        go_wp2
        go_ret
        exact ⟨rfl, HB.out⟩
      · rw [decide_eq_false hsame]
        clear hsame
        go_wp2_with fail
        refine TreeQ.in_ hC17 ?_
        refine wpTree_pure _ _ _ (by rfl) (by rfl) ?_
        dsimp only [List.filterMap, List.getElem?_cons_zero, List.getElem?_cons_succ]
        repeat (go_big_quiet_step (fail))
        refine wpQuiet_nil ?_
        refine wpTree_done ?_
        go_wp2_with fail
        refine (sealed_any gb 1280 1280 BC HTL.out.2.symm (by omega) ⟨Nat.le_refl _, by omega, by omega⟩ _ hbb.bytes).mono ?_
        rintro e w20 ⟨rfl, hbx⟩
        (replace hm := keep hbx hm; replace hgw := keep hbx hgw; replace h14 := keep hbx h14; replace hH := keep hbx hH; replace hB := hB.trans (hbx.mono hB.size))
        clear hbx ho12 h15 hbb
        cases hse : Slot.sealed BC
        case true =>
          have HB := Lib.hid hB
          clear hm hgw h14 hH hB hse
          go_wp2
          go_ret
          exact ⟨rfl, HB.out⟩
        have hq1 : (Slot.prep BC n).1 = false := by
          cases h : (Slot.prep BC n).1
          · rfl
          · rw [Slot.sealed_of h] at hse; cases hse
        obtain rfl : q = false := by rw [HPR.out.1, hq1]
        have HSN := Lib.hid (Slot.prep_no hq1)
        clear hq1 hse
        go_wp2_with fail
        refine (hhead_any (some ⟨gh, 0, none⟩) 256 caph H HHL.out.symm HCAP.out.1 HCAP.out.2.1 _ hH).mono ?_
        rintro e w22 ⟨rfl, hbx⟩
        (replace hm := keep hbx hm; replace hgw := keep hbx hgw; replace h14 := keep hbx h14; replace hH := keep hbx hH; replace hB := hB.trans (hbx.mono hB.size))
        clear hbx
        obtain ⟨G2, hG2⟩ : ∃ f, f = (Hd.read H).2 := ⟨_, rfl⟩
        obtain ⟨er, hE⟩ : ∃ f, f = (Hd.read H).1 := ⟨_, rfl⟩
        rw [← hG2, ← hE]
        have HER := Lib.hid hE
        clear hG2 hE
        by_cases h0 : er = 0
        case neg =>
          have hc0 : (er == 0) = false := by rw [beq_eq_false_iff_ne]; exact h0
          have hc1 : (er != 0) = true := by rw [bne_iff_ne]; exact h0
          have HER0 := Lib.hid (show (Hd.read H).1 ≠ 0 by rw [← HER.out]; exact h0)
          clear h0
          have HS3 := Lib.hid (c1_zero HC1.out (show S1.1 = 3 by rw [HS1.out, Slot.judge_in _ _ _ HNN.out, HSN.out, Slot.kind_broken HER0.out, Slot.put_no0]))
          go_wp2_with (first
            | ((with_reducible show wpList _ _ _ ((⟨none, _, _, _, _, _⟩ : Oper) :: _) _ _); refine wpList_store_blk (o := ⟨none, _, _, _, _, _⟩) (((Blk.new w22 26 #[.int .i64 0, .int .i64 0, .int .i64 0, .int .i64 0, .int .i64 0, .int .i64 0, .int .i64 0, .int .i64 0, .int .i64 0, .int .u64 0, .int .u64 0, .int .i64 0, .int .i64 0, .int .u64 0, .int .i64 0, .int .i64 0]).sub zeroHd_cells.symm)) (by rfl) _ _ _ (by rfl) (by rfl) (hdc G2) (by rfl) (sizeHd) (hdc_size _) (hdc_size _) (hdc_one _) ?_; intro w23 h23 hu; have hbx := ((Below.refl w22.heap.size w22).alloc (Nat.le_refl _) (.cells #[.int .i64 0, .int .i64 0, .int .i64 0, .int .i64 0, .int .i64 0, .int .i64 0, .int .i64 0, .int .i64 0, .int .i64 0, .int .u64 0, .int .u64 0, .int .i64 0, .int .i64 0, .int .u64 0, .int .i64 0, .int .i64 0] 26)).upd hu (Nat.le_refl _); (replace hm := keep hbx hm; replace hgw := keep hbx hgw; replace h14 := keep hbx h14; replace hH := keep hbx hH; replace hB := hB.trans (hbx.mono hB.size)); clear hbx hu h23; have d0 := h14.at_ 0 HS3.out; have HB := Lib.hid hB; clear hgw hH hm hB h14)
            | fail)
          go_ret
          exact ⟨by simp, HB.out⟩
        subst h0
        go_wp2_with (first
          | ((with_reducible show wpList _ _ _ ((⟨none, _, _, _, _, _⟩ : Oper) :: _) _ _); refine wpList_store_blk (o := ⟨none, _, _, _, _, _⟩) (((Blk.new w22 26 #[.int .i64 0, .int .i64 0, .int .i64 0, .int .i64 0, .int .i64 0, .int .i64 0, .int .i64 0, .int .i64 0, .int .i64 0, .int .u64 0, .int .u64 0, .int .i64 0, .int .i64 0, .int .u64 0, .int .i64 0, .int .i64 0]).sub zeroHd_cells.symm)) (by rfl) _ _ _ (by rfl) (by rfl) (hdc G2) (by rfl) (sizeHd) (hdc_size _) (hdc_size _) (hdc_one _) ?_; intro w23 h23 hu; have hbx := ((Below.refl w22.heap.size w22).alloc (Nat.le_refl _) (.cells #[.int .i64 0, .int .i64 0, .int .i64 0, .int .i64 0, .int .i64 0, .int .i64 0, .int .i64 0, .int .i64 0, .int .i64 0, .int .u64 0, .int .u64 0, .int .i64 0, .int .i64 0, .int .u64 0, .int .i64 0, .int .i64 0] 26)).upd hu (Nat.le_refl _); (replace hm := keep hbx hm; replace hgw := keep hbx hgw; replace h14 := keep hbx h14; replace hH := keep hbx hH; replace hB := hB.trans (hbx.mono hB.size)); clear hbx hu h23)
          | fail)
        have hwb := hgw.bytes.take 256
        rw [HW256.out] at hwb
        refine (sameBytes_any (some ⟨gh, 0, none⟩) (some ⟨gw, 0, none⟩) 256 256 caph capw H (B.take 256) HHL.out.symm HH0.out.symm w23 hH hwb).mono ?_
        rintro e w24 ⟨rfl, hw24⟩
        rw [← hw24] at hm hgw h14 hH hB
        clear hw24 hwb
        by_cases hcb : H = B.take 256
        case neg =>
          rw [decide_eq_false hcb]
          have HB := Lib.hid hB
          clear hcb hm hgw h14 hH hB
          go_wp2
          go_ret
          exact ⟨rfl, HB.out⟩
        rw [decide_eq_true hcb]
        have HCB2 := Lib.hid hcb
        clear hcb
        have HS := Lib.hid (show S1.1 = 3 by
          rw [HS1.out, Slot.judge_in _ _ _ HNN.out, HSN.out, show Slot.kind H n = (2, FB) by rw [HCB2.out]; exact HBB.out.2.2.2.1, Slot.put_no2])
        have hC0 : C1[0]? = some (.int .i64 3) := by
          have h := HC1.out
          unfold stv at h
          injection h with h
          rw [← h, HS.out]; rfl
        have d0 := h14.at_ 0 hC0
        have HB := Lib.hid hB
        clear hgw hH hm hB
        clear h14
        go_wp2
        go_ret
        exact ⟨by simp, HB.out⟩
end Go.Proofs.YtekdcjaljjlemaaDoor

/- SlotTurned: for every input the law returns true and every argument reads as it did. Condition: the tables of Go's library are as their initialisers lay them (tied to the program's text by the card). -/
namespace Go.Proofs.YtekdcjaljjlemaaDoor
open Go.ChangeShapes Go.WideShapes Go.ChangeAt Go.RowKit
def turn3Sh : Sh := .cons .bool (.cons (.int .i64) (.cons .byte .nil))
theorem Turns3.of {w : World} {B : Option Addr} {ts : Turns3T} {rows : List (List Value)} (h : Both (fun (d : turn3Sh.T) r => r.length = turn3Sh.size ∧ Sh.Is w turn3Sh d r) ts rows) (hr : Reads w B rows.flatten) : Turns3 w B ts := by
  have hat : ∀ i, (hi : i < ts.length) → (-9223372036854775808 ≤ ts[i].2.1 ∧ ts[i].2.1 ≤ 9223372036854775807) ∧ rows.flatten[3 * i]? = some (.bool ts[i].1) ∧ rows.flatten[3 * i + 1]? = some (.int .i64 ts[i].2.1) ∧ rows.flatten[3 * i + 2]? = some (.int .u8 (iu8 ts[i].2.2.1)) := by
    intro i hi
    obtain ⟨r, h1, h2, h3⟩ := both_at h i hi
    obtain ⟨c1, c2, rfl, _, hq, c3, c4, rfl, _, hx, c5, c6, rfl, _, hy, hz⟩ := h2
    obtain ⟨rfl, hlo, hhi⟩ := hx
    have hq : c1 = [.bool ts[i].1] := hq
    have hy : c5 = [u8v ts[i].2.2.1] := hy
    have hz : c6 = [] := hz
    subst hq hy hz
    refine ⟨⟨hlo, hhi⟩, ?_, ?_, ?_⟩
    · have := h3 0 (by decide)
      rw [show i * turn3Sh.size + 0 = 3 * i by simp [turn3Sh, Sh.size]; omega] at this
      rw [this]; rfl
    · have := h3 1 (by decide)
      rw [show i * turn3Sh.size + 1 = 3 * i + 1 by simp [turn3Sh, Sh.size]; omega] at this
      rw [this]; rfl
    · have := h3 2 (by decide)
      rw [show i * turn3Sh.size + 2 = 3 * i + 2 by simp [turn3Sh, Sh.size]; omega] at this
      rw [this]; rfl
  refine ⟨fun i hi => (hat i hi).1, fun hp => ?_⟩
  have hne : rows.flatten ≠ [] := by intro e; have := (hat 0 hp).2.1; rw [e] at this; simp at this
  obtain ⟨b, off, e, hc⟩ := hr hne
  exact ⟨b, off, e, fun i hi => ⟨hc _ _ (hat i hi).2.1, hc _ _ (hat i hi).2.2.1, hc _ _ (hat i hi).2.2.2⟩⟩
theorem turned_args (x : msgSh.T) (cs : List Value) (B : Option Addr) (d : Nat) (ts : Turns3T) (W : World) (h : Sh.Is W msgSh x cs) (hk : Turns3 W B ts) :
    Calls Tryd.prog 6 #[.agg cs.toArray, .slice B ts.length d] W fun e w' => e = .returned (.bool true) ∧ Below W.heap.size W w' := by
  obtain ⟨f, A, c, e, hin, h1, h2, hb⟩ := msgSh_is h
  rw [e]
  exact turned07_any f A B c d x.2.1 ts hin ⟨h1, h2⟩ W hb hk
set_option maxRecDepth 100000 in
theorem slotTurned_lifted (os : Os) (started : os.Started) (H : Type) (enc : TypeId × Value → H) :
    ReturnsInHanded {} Tryd.checked os 6 .any (fun w args => (Rows.slotTurnedSpec.pre enc Tryd.prog Tryd.f6 [] false w args ∧ laidMetH Tryd.prog laid1 w) ∧ sizedMet enc Tryd.prog Tryd.f6 (OpenSpec.ofChange Rows.slotTurnedSpec) false w args) (Rows.slotTurnedSpec.post enc Tryd.prog Tryd.f6 false true false false) := by
  refine returnsInHanded_of_change_and (C := Tryd.checked) (X := fun w _ => laidMetH Tryd.prog laid1 w) (fun _ _ _ hh h => h.of_heap hh) Tryd.own started (by kernel_rfl) Tryd.func6
    (ChangeSpec.witness_shaped (enc := enc) (C := Tryd.checked) (os := os) (X := fun w _ => laidMetH Tryd.prog laid1 w) false (laidW os) #[.agg #[.int .i64 0, .int .i64 0, .int .i64 0, .int .i64 0, .int .i64 0, .int .i64 0, .int .i64 0, .int .i64 0, .int .i64 0, .int .u64 0, .int .u64 0, .int .i64 0, .int .i64 0, .int .u64 0, .int .i64 0, .int .i64 0, .slice none 0 0], .slice none 0 0] 8 rfl (World.shaped_of_RefB (by kernel_rfl) (by kernel_rfl)) (by kernel_rfl) (by kernel_rfl) (by kernel_rfl) (door_met os _)) ?_
  intro W base args ds gs before hval0 hW _ _ hL _
  have hval : ∀ (j : Nat) t v, Tryd.f6.params[j]? = some t → args[j]? = some v → Value.okWide Tryd.prog W .any base t v := hval0
  have hW' := hW
  obtain ⟨p, q, hA0, hV, rfl, hfz, hnd⟩ := hW
  have hA : DataW.TrodAll enc Tryd.prog W 0 (fun _ => true) true Tryd.f6.params.toList args.toList ds p := hA0
  rw [Tryd.params6] at hA hval
  obtain ⟨v0, v1, d0, d1, p0, p1, rfl, rfl, rfl, h0, h1⟩ := trodAll_two hA
  obtain ⟨rfl, rfl⟩ := trodVars_none hV
  have h0k := h0
  have h1k := h1
  obtain ⟨x, hx0⟩ := Sh.open_ (P := Tryd.prog) msgSh (by kernel_rfl) h0
  obtain ⟨cs, rfl, hcs⟩ := arg_agg Tryd.underlying29 rfl (hval 0 29 v0 rfl rfl) hx0
  obtain ⟨ts, hx1⟩ := Sh.open_ (P := Tryd.prog) (.slice turn3Sh) (by kernel_rfl) h1
  obtain ⟨B, d, rows1, rfl, hd, hd2, hb2, hb3⟩ := arg_slice Tryd.underlying55 (hval 1 55 v1 rfl rfl) hx1
  clear hA0 hval0
  simp only [List.append_nil] at hW'
  have hlt : ∀ x ∈ p0 ++ p1, x.block < W.heap.size := fun x hx => by simpa using hW'.lt x hx
  refine (turned_args x cs B d ts W hcs (Turns3.of hb2 hb3)).mono fun e W' ⟨he, hw⟩ => ?_
  subst he
  refine ⟨_, rfl, _, _, _, [], p0 ++ p1, [], hW', ?_, ?_, rfl, hw.frame _, fun h => by cases h⟩
  · exact trodAll_mk1 (shut_bool Tryd.underlying4 true)
  · exact trodAll_mk2 (Below.trod Tryd.laidOut (by kernel_rfl) (of_decide_eq_true (by kernel_rfl)) h0k hw (fun x hx => hlt x (by simp [hx]))) (Below.trod Tryd.laidOut (by kernel_rfl) (of_decide_eq_true (by kernel_rfl)) h1k hw (fun x hx => hlt x (by simp [hx])))
theorem slotTurned_holds : Rows.SlotTurnedSaid :=
  OpenClaim.holds_of_wide 6 Tryd.f6 rfl rfl rfl rfl rfl rfl rfl ⟨rfl, rfl, rfl, rfl, rfl⟩ rfl rfl rfl rfl rfl (by kernel_rfl) Tryd.func6 (by kernel_rfl)
    (of_decide_eq_true (by kernel_rfl)) (by unfold Func.isWrapper; rw [if_neg (by decide +kernel)]; exact ⟨rfl, rfl⟩)
    (fun os started H enc _ => slotTurned_lifted os started H enc)
theorem slotTurned_card : Rows.SlotTurnedCardSaid :=
  Claim7.holds_tied_plain_at .later [] [.data, .pinned] true Rows.slotTurnedCard.stood.harness false
    slotTurned_holds (fun _ h => by cases h) (by kernel_rfl) (fun _ h => by cases h) slotTurned_row_tie rfl ⟨rfl, rfl⟩ (by kernel_rfl) rfl
    (fun f fn hf hfn => by
      obtain rfl : f = 6 := Option.some.inj ((show Tryd.prog.funcNamed Rows.slotTurnedRow.func = some 6 by kernel_rfl).symm.trans hf) |>.symm
      obtain rfl : fn = Tryd.f6 := (Option.some.inj (Tryd.func6.symm.trans hfn)).symm
      exact ⟨by kernel_rfl, fun j t ht => by
        rw [Tryd.params6] at ht
        have hm : t ∈ [29, 55] := by simpa using Array.mem_of_getElem? ht
        have hall : ([29, 55].all fun u => !Tryd.prog.wantsStandIn u) = true := by kernel_rfl
        exact (show Tryd.prog.wantsStandIn t = false by simpa using List.all_eq_true.1 hall t hm)⟩)
    (by kernel_rfl)
end Go.Proofs.YtekdcjaljjlemaaDoor
