/- May a superblock be: the document's Check. Condition: its heads can be read. -/
import Derived.Test.YtmhfehhpfkjloaaM616
import Derived.Deep.Cut
namespace Go.Proofs.Ytmhfehhpfkjloaa
open Go.RowKit
theorem rin_any (n a b : Int) (w : World) : Calls Try.prog 66 #[.int .i64 n, .int .i64 a, .int .i64 b] w fun e w' => e = .returned (.bool (decide (a ≤ n) && decide (n ≤ b))) ∧ w = w' := by
  by_cases h1 : a ≤ n
  · rw [decide_eq_true h1, Bool.true_and]
    go_enter Try.func66, Try.ntmps66
    go_wp2
    go_ret
    exact ⟨rfl, rfl⟩
  · rw [decide_eq_false h1, Bool.false_and]
    have h2 : n < a := by omega
    clear h1
    go_enter Try.func66, Try.ntmps66
    go_wp2
    go_ret
    exact ⟨rfl, rfl⟩
def okA (f : HdF) : Bool := (decide (1 ≤ f 0) && decide (f 0 ≤ 1073741824)) && (((f 2 == 3) || ((f 2 == 5) || (f 2 == 7))) && (decide (0 ≤ f 1) && decide (f 1 ≤ f 2 - 1)))
def okB (f : HdF) : Bool := numIn 1073741824 (f 3) && (numIn 1073741824 (f 4) && (numIn 1073741824 (f 5) && numIn 1073741824 (f 6)))
def okC (f : HdF) (n : Nat) : Bool := numIn 1073741824 (f 8) && (numIn 512 (f 7) && decide ((n : Int) ≤ 32))
theorem ok_ABC (f : HdF) (fe : Bool) (hs : List (Int × Int)) : Sp.ok (f, fe, hs) = (okA f && okB f && okC f hs.length && hs.all headOk) := by
  rw [Bool.eq_iff_iff]
  unfold Sp.ok Sp.ok1 Sp.ok2 okA okB okC
  simp only [Bool.and_eq_true, Bool.or_eq_true, decide_eq_true_eq, beq_iff_eq, numIn_iff]
  constructor
  · rintro ⟨⟨a, ⟨⟨b1, b2⟩, b3, b4, b5, b6, b7⟩, b8⟩, ⟨d1, d2, d3, d4⟩, d5⟩
    refine ⟨⟨⟨⟨⟨a, b2⟩, d1, d2, ?_⟩, b3, b4, b5, b6⟩, b7, b8, ?_⟩, d5⟩ <;> omega
  · rintro ⟨⟨⟨⟨⟨a, b2⟩, d1, d2, d3⟩, b3, b4, b5, b6⟩, b7, b8, d4⟩, d5⟩
    refine ⟨⟨a, ⟨⟨?_, b2⟩, b3, b4, b5, b6, b7⟩, b8⟩, ⟨d1, d2, ?_, ?_⟩, d5⟩ <;> omega
theorem okA_no (f : HdF) (h : ¬ (f 2 = 3 ∨ f 2 = 5 ∨ f 2 = 7)) : okA f = false := by
  unfold okA
  have h1 : (f 2 == 3) = false := by rw [beq_eq_false_iff_ne]; omega
  have h2 : (f 2 == 5) = false := by rw [beq_eq_false_iff_ne]; omega
  have h3 : (f 2 == 7) = false := by rw [beq_eq_false_iff_ne]; omega
  rw [h1, h2, h3]; simp
theorem okA_yes (f : HdF) (k : Int) (h : f 2 = k) (hk : k = 3 ∨ k = 5 ∨ k = 7) : okA f = ((decide (1 ≤ f 0) && decide (f 0 ≤ 1073741824)) && (decide (0 ≤ f 1) && decide (f 1 ≤ k - 1))) := by
  unfold okA
  rw [h]
  rcases hk with rfl | rfl | rfl <;> rfl
def RcRel (b : Bool) (hs : List (Int × Int)) (u v : Value) : Prop := ∃ k : Nat, k ≤ hs.length ∧ v = .int .i64 (k : Int) ∧ u = .bool (b && (hs.take k).all headOk)
set_option maxRecDepth 100000 in
set_option maxHeartbeats 4000000 in
theorem rspCheck_any (f : HdF) (fe : Bool) (A : Option Addr) (n c : Nat) (hs : List (Int × Int)) (w : World) (hn : n = hs.length) (hlen : hs.length ≤ 1000) (hh : Heads w A hs) :
    Calls Try.prog 26 #[.agg (spc f fe (.slice A n c))] w fun e w' => e = .returned (.int .i64 (spCode (f, fe, hs))) ∧ Below w.heap.size w w' := by
  subst hn
  have hg := Blk.new w 26 (spc f fe (.slice A hs.length c))
  have hB := (Below.refl w.heap.size w).alloc (Nat.le_refl _) (.cells (spc f fe (.slice A hs.length c)) 26)
  have hh1 := hh.below hB
  have HH := Lib.hid (And.intro hB hh1)
  obtain ⟨c0, c1, c2, c3, c4, c5, c6, c7, c8, -, c10⟩ := sp_cells hg
  clear hg hB hh1 hh
  go_enter Try.func26, Try.ntmps26
  go_upto_region 1 with fail
  generalize w.alloc (.cells (spc f fe (.slice A hs.length c)) 26) = w1 at HH c0 c1 c2 c3 c4 c5 c6 c7 c8 c10 ⊢
  go_cut [3] from 5 (fun s wv => s = .bool (okA f) ∧ wv = w1)
  case first =>
    have q0 := rin_any (f 0) 1 1073741824 w1
    generalize hb0 : (decide (1 ≤ f 0) && decide (f 0 ≤ 1073741824)) = b0 at q0
    have HB0 := Lib.hid hb0
    clear hb0
    cases b0
    · go_wp2_with fail
      refine q0.mono ?_
      rintro e w2 ⟨rfl, rfl⟩
      go_wp2_with fail
      go_meet
      case rel => exact ⟨by unfold okA; rw [HB0.out]; rfl, rfl⟩
    · by_cases hN : f 2 = 3 ∨ f 2 = 5 ∨ f 2 = 7
      · have q1 := fun k => rin_any (f 1) 0 k w1
        have HY := Lib.hid (okA_yes f)
        generalize f 2 = x at c2 hN HY
        rcases hN with rfl | rfl | rfl
        all_goals
          go_wp2_with fail
          refine q0.mono ?_
          rintro e w2 ⟨rfl, rfl⟩
          clear q0
          go_wp2_with fail
          refine (q1 _).mono ?_
          rintro e w3 ⟨rfl, rfl⟩
          clear q1
          go_wp2_with fail
          go_meet
          case rel => exact ⟨by rw [HY.out _ rfl (by omega), HB0.out]; rfl, rfl⟩
      · have HY := Lib.hid (okA_no f hN)
        have h3 : (f 2 == 3) = false := by rw [beq_eq_false_iff_ne]; omega
        have h5 : (f 2 == 5) = false := by rw [beq_eq_false_iff_ne]; omega
        have h7 : (f 2 == 7) = false := by rw [beq_eq_false_iff_ne]; omega
        go_wp2_with fail
        refine q0.mono ?_
        rintro e w2 ⟨rfl, rfl⟩
        go_wp2_with fail
        go_meet
        case rel => exact ⟨by rw [HY.out], rfl⟩
  case rest =>
    obtain ⟨rfl, rfl⟩ := hcut
    go_upto_region 2 with fail
    have hE0 : spCode (f, fe, hs) = if (okA f && okB f && okC f hs.length && hs.all headOk) = true then 0 else 2 := by unfold spCode; rw [ok_ABC]
    generalize okA f = bA at hE0 ⊢
    go_cut [3] from 5 (fun s wv => s = .bool (bA && okB f) ∧ wv = wc)
    case first =>
      have q3 := rin_any (f 3) 0 1073741824 wc
      have q4 := rin_any (f 4) 0 1073741824 wc
      have q5 := rin_any (f 5) 0 1073741824 wc
      have q6 := rin_any (f 6) 0 1073741824 wc
      have hk : okB f = ((decide (0 ≤ f 3) && decide (f 3 ≤ 1073741824)) && ((decide (0 ≤ f 4) && decide (f 4 ≤ 1073741824)) && ((decide (0 ≤ f 5) && decide (f 5 ≤ 1073741824)) && (decide (0 ≤ f 6) && decide (f 6 ≤ 1073741824))))) := rfl
      generalize (decide (0 ≤ f 3) && decide (f 3 ≤ 1073741824)) = b3 at q3 hk
      generalize (decide (0 ≤ f 4) && decide (f 4 ≤ 1073741824)) = b4 at q4 hk
      generalize (decide (0 ≤ f 5) && decide (f 5 ≤ 1073741824)) = b5 at q5 hk
      generalize (decide (0 ≤ f 6) && decide (f 6 ≤ 1073741824)) = b6 at q6 hk
      have HK := Lib.hid hk
      clear hk
      cases bA
      · go_wp2_with fail
        go_meet
        case rel => exact ⟨by first | rfl | (rw [HK.out]; rfl), rfl⟩
      go_wp2_with fail
      refine q3.mono ?_
      rintro e w2 ⟨rfl, rfl⟩
      cases b3
      · go_wp2_with fail
        go_meet
        case rel => exact ⟨by first | rfl | (rw [HK.out]; rfl), rfl⟩
      go_wp2_with fail
      refine q4.mono ?_
      rintro e w2 ⟨rfl, rfl⟩
      cases b4
      · go_wp2_with fail
        go_meet
        case rel => exact ⟨by first | rfl | (rw [HK.out]; rfl), rfl⟩
      go_wp2_with fail
      refine q5.mono ?_
      rintro e w2 ⟨rfl, rfl⟩
      cases b5
      · go_wp2_with fail
        go_meet
        case rel => exact ⟨by first | rfl | (rw [HK.out]; rfl), rfl⟩
      go_wp2_with fail
      refine q6.mono ?_
      rintro e w2 ⟨rfl, rfl⟩
      go_wp2_with fail
      go_meet
      case rel => exact ⟨by first | rfl | (rw [HK.out]; rfl), rfl⟩
    case rest =>
      obtain ⟨rfl, rfl⟩ := hcut
      go_upto_region 3 with fail
      generalize hbB : (bA && okB f) = bB
      go_cut [3] from 5 (fun s wv => s = .bool (bB && okC f hs.length) ∧ wv = wc)
      case first =>
        have q3 := rin_any (f 8) 0 1073741824 wc
        have q4 := rin_any (f 7) 0 512 wc
        have hk : okC f hs.length = ((decide (0 ≤ f 8) && decide (f 8 ≤ 1073741824)) && ((decide (0 ≤ f 7) && decide (f 7 ≤ 512)) && decide ((hs.length : Int) ≤ 32))) := rfl
        generalize (decide (0 ≤ f 8) && decide (f 8 ≤ 1073741824)) = b3 at q3 hk
        generalize (decide (0 ≤ f 7) && decide (f 7 ≤ 512)) = b4 at q4 hk
        have HK := Lib.hid hk
        clear hk
        cases bB
        · go_wp2_with fail
          go_meet
          case rel => exact ⟨by first | rfl | (rw [HK.out]; rfl), rfl⟩
        go_wp2_with fail
        refine q3.mono ?_
        rintro e w2 ⟨rfl, rfl⟩
        cases b3
        · go_wp2_with fail
          go_meet
          case rel => exact ⟨by first | rfl | (rw [HK.out]; rfl), rfl⟩
        go_wp2_with fail
        refine q4.mono ?_
        rintro e w2 ⟨rfl, rfl⟩
        cases b4
        · go_wp2_with fail
          go_meet
          case rel => exact ⟨by first | rfl | (rw [HK.out]; rfl), rfl⟩
        go_wp2_with fail
        go_meet
        case rel => exact ⟨by first | rfl | (rw [HK.out]; rfl), rfl⟩
      case rest =>
        obtain ⟨rfl, rfl⟩ := hcut
        have hE := hE0
        rw [show (bA && okB f) = bB from hbB] at hE
        generalize (bB && okC f hs.length) = bC at hE ⊢
        have HE := Lib.hid hE
        have hlen1 : hs.length ≤ 1000 := hlen
        clear c0 c1 c2 c3 c4 c5 c6 c7 c8 hE hE0 hbB hlen
        go_wp2_with fail
        go_loopw [3, 4] (fun u v wv => RcRel bC hs u v ∧ wv = wc) (fun _ v _ => hs.length - (intOf v).toNat)
        case atStart => exact ⟨⟨0, Nat.zero_le _, rfl, by simp⟩, rfl⟩
        case round =>
          obtain ⟨⟨k, hk, rfl, rfl⟩, rfl⟩ := hrel
          by_cases hlt : k < hs.length
          · obtain ⟨b, off, rfl, hc⟩ := HH.out.2 (by omega)
            obtain ⟨d1, d2⟩ := hc k hlt
            rw [Nat.mul_comm] at d1
            rw [show off + (2 * k + 1) = off + k * 2 + 1 by omega] at d2
            have hs1 : (hs.take (k + 1)).all headOk = ((hs.take k).all headOk && headOk hs[k]) := by rw [List.take_succ_eq_append_getElem hlt, List.all_append]; simp
            have q1 := rin_any hs[k].1 0 1073741824 wr
            have q2 := rin_any hs[k].2 0 1073741824 wr
            have hh2 : headOk hs[k] = ((decide (0 ≤ hs[k].1) && decide (hs[k].1 ≤ 1073741824)) && (decide (0 ≤ hs[k].2) && decide (hs[k].2 ≤ 1073741824))) := rfl
            rw [hh2] at hs1
            clear hh2 hc
            generalize (decide (0 ≤ hs[k].1) && decide (hs[k].1 ≤ 1073741824)) = b1 at q1 hs1
            generalize (decide (0 ≤ hs[k].2) && decide (hs[k].2 ≤ 1073741824)) = b2 at q2 hs1
            generalize hs[k].1 = x1 at d1 q1
            generalize hs[k].2 = x2 at d2 q2
            obtain ⟨z, hz⟩ : ∃ z, z = (bC && (hs.take k).all headOk) := ⟨_, rfl⟩
            rw [← hz]
            have HS : Hid ((bC && (hs.take (k + 1)).all headOk) = (z && (b1 && b2))) := Lib.hid (by rw [hs1, hz, Bool.and_assoc])
            have hk4 : k < 65536 := by omega
            clear hs1 hz
            cases z
            · go_wp2_with fail
              go_roundw
              case rel => exact ⟨⟨k + 1, hlt, by go_num, by rw [HS.out]; rfl⟩, trivial⟩
              case measure => simp [intOf]; omega
            go_wp2_with fail
            refine q1.mono ?_
            rintro e w2 ⟨rfl, rfl⟩
            cases b1
            · go_wp2_with fail
              go_roundw
              case rel => exact ⟨⟨k + 1, hlt, by go_num, by rw [HS.out]; rfl⟩, trivial⟩
              case measure => simp [intOf]; omega
            go_wp2_with fail
            refine q2.mono ?_
            rintro e w2 ⟨rfl, rfl⟩
            go_wp2_with fail
            go_roundw
            case rel => exact ⟨⟨k + 1, hlt, by go_num, by rw [HS.out]; rfl⟩, trivial⟩
            case measure => simp [intOf]; omega
          · obtain rfl : k = hs.length := by omega
            rw [List.take_length]
            generalize hs.all headOk = bD at HE ⊢
            generalize (bC && bD) = bE at HE ⊢
            cases bE
            · go_wp2
              go_ret
              exact ⟨ret_int HE.out.symm, HH.out.1⟩
            · go_wp2
              go_ret
              exact ⟨ret_int HE.out.symm, HH.out.1⟩
end Go.Proofs.Ytmhfehhpfkjloaa

/- append(s, make([]byte, n)...) as the program's text has it: noughts behind an own list. Plain facts over any program. No condition. -/
namespace Go
open Go.RowKit
section
variable {P : Program} (w : World)
theorem run_append_zeros (base : Nat) (t tx ty e : TypeId) (k : IntKind) (i : TypeInfo) (ht : P.underlying t = some (.slice e)) (htx : P.underlying tx = some (.int k)) (hi : P.info? e = some i) (hz : i.zero = some (.int .u8 0))
    (hsize : i.size = 1) (hby : i.bytes = 1) (v : Value) (l sp : List UInt8) (hown : OwnB e w base v l sp) (m : Nat) (h63 : l.length + m ≤ 140737488355328) (hbase : base ≤ w.heap.size) :
    ∃ v' w' sp', (Builtin.append_ #[t, tx] ty #[v, .int .i64 (m : Int)]).run P w = .ok v' w' ∧ OwnB e w' base v' (l ++ List.replicate m 0) sp' ∧ w.grownBy w' v.ownBlock ∧
      (v'.ownBlock = v.ownBlock ∨ v'.ownBlock = some w.heap.size) := by
  have hwr : IntKind.i64.wrap (m : Int) = m := by rw [IntKind.wrap_i64]; omega
  have hzc : ∀ j, Builtin.zeroCells (Value.int .u8 0).cells j = ((List.replicate j (0 : UInt8)).map u8v).toArray := fun j => by
    unfold Builtin.zeroCells
    apply Array.ext_getElem?
    intro a
    rw [List.map_replicate]
    by_cases ha : a < j
    · simp [Value.cells, ha, Nat.mod_one]; rfl
    · simp [Value.cells, ha]
  have hA : ∀ w' : World, (asInt (.int .i64 (m : Int))).run P w' = .ok (m : Int) w' := fun w' => by simp [asInt, asIntOf]
  have hA0 : ∀ w' : World, (asInt (.int .i64 0)).run P w' = .ok 0 w' := fun w' => by simp [asInt, asIntOf]
  have hw0 : IntKind.i64.wrap 0 = 0 := by rw [IntKind.wrap_i64]; omega
  have hi63 : IntKind.i64.wrap (m : Int) = m := hwr
  have n0 : ¬ ((m : Int) < 0) := by omega
  have n1 : ¬ (281474976710656 < (m : Int)) := by omega
  have grown : ∀ (old : Nat) (row : Option Nat),
      OwnB e (w.drew.alloc (.cells ((l.map u8v).toArray ++ ((List.replicate m (0 : UInt8)).map u8v).toArray ++ ((List.replicate (grownCap w (l.length + m) old e - (l.length + m)) (0 : UInt8)).map u8v).toArray) e)) base
        (.slice (some ⟨w.heap.size, 0, none⟩) (l.length + m) (grownCap w (l.length + m) old e)) (l ++ List.replicate m 0) (List.replicate (grownCap w (l.length + m) old e - (l.length + m)) 0) ∧
      w.grownBy (w.drew.alloc (.cells ((l.map u8v).toArray ++ ((List.replicate m (0 : UInt8)).map u8v).toArray ++ ((List.replicate (grownCap w (l.length + m) old e - (l.length + m)) (0 : UInt8)).map u8v).toArray) e)) row := by
    intro old row
    refine ⟨.inr ⟨w.heap.size, _, by simp, hbase, ?_, by simpa using grownCap_ge w (l.length + m) old e, grownCap_le_maxLen w (l.length + m) old e (by unfold maxLen; omega), by simp, by simp⟩, ⟨rfl, rfl, rfl, by simp, fun k (hk : k < w.drew.heap.size) _ => Below.heap_alloc w.drew _ k hk⟩⟩
    refine (Blk.new w.drew e _).sub ?_
    simp
  rcases hown with ⟨rfl, hl0, hx0, hs0⟩ | ⟨g, cap, rfl, hbg, hg, hnc, hcm, hxl, hspl⟩
  · obtain rfl : l = [] := List.eq_nil_of_length_eq_zero hl0
    obtain rfl : sp = [] := by simpa using hs0
    rcases Nat.eq_zero_or_pos m with hm | hm
    · subst hm
      refine ⟨.slice none 0 0, w, [], ?_, OwnsC.nil e 1 w base, World.grownBy.refl w _, .inl rfl⟩
      simp [Builtin.append_, run_underlying ht, run_underlying htx, sizeOf, typeInfo, hi, hA0, hby, hw0]
    · have hgr := grown 0 (Value.ownBlock (.slice none 0 0))
      simp only [List.length_nil, Nat.zero_add] at hgr ⊢
      refine ⟨_, _, _, ?_, hgr.1, hgr.2, .inr rfl⟩
      have h5 : ¬ (m = 0) := by omega
      have h63' : ¬ (9223372036854775807 < (m : Int)) := by omega
      have h48' : ¬ (281474976710656 < Builtin.nextslicecap m 0) := by rw [nextslicecap_zero hm]; omega
      simp [Builtin.append_, run_underlying ht, run_underlying htx, sizeOf, typeInfo, zeroValue, hi, hz, hA, hsize, hby, hwr, n0, n1, h5, h63', h48', Question.forced, run_firstCells_none, newRow, grownCap, hzc]
  · by_cases hroom : l.length + m ≤ cap
    · rcases Nat.eq_zero_or_pos m with hm | hm
      · subst hm
        refine ⟨_, w, sp, ?_, by rw [List.replicate_zero, List.append_nil]; exact .inr ⟨g, cap, rfl, hbg, hg, hnc, hcm, hxl, hspl⟩, World.grownBy.refl w _, .inl rfl⟩
        simp [Builtin.append_, run_underlying ht, run_underlying htx, sizeOf, typeInfo, hi, hA0, hby, hw0, hnc, storeCells]
      · have hspl' : sp.length = cap - l.length := by simpa using hspl
        have hst := run_storeCells_at P g (l.length * 1) e ((List.replicate m (0 : UInt8)).map u8v) 0 ((l.map u8v ++ sp.map u8v).toArray) w hg (by simp; omega) (u8v_one _)
        simp only [Nat.add_zero, Nat.mul_one] at hst
        have h5 : ¬ (m = 0) := by omega
        refine ⟨.slice (some ⟨g, 0, none⟩) (l.length + m) cap, w.setRow g (((l.map u8v ++ sp.map u8v).toArray.toList.take l.length ++ (List.replicate m (0 : UInt8)).map u8v ++ (l.map u8v ++ sp.map u8v).toArray.toList.drop (l.length + ((List.replicate m (0 : UInt8)).map u8v).length)).toArray), sp.drop m, ?_, .inr ⟨g, cap, by simp, hbg, ?_, by simpa using hroom, hcm, by simp, ?_⟩, ⟨rfl, rfl, rfl, by simp, fun k _ hk => setRow_other w g k _ (fun e => hk (by simp [Value.ownBlock, e]))⟩, .inl rfl⟩
        rotate_left
        · refine (Blk.setRow (cs := (l.map u8v ++ sp.map u8v).toArray) hg _).sub ?_
          simp [List.drop_append]
        · simp; omega
        · simp [Builtin.append_, run_underlying ht, run_underlying htx, sizeOf, typeInfo, zeroValue, hi, hz, hA, hsize, hby, hwr, n0, n1, h5, hroom, hzc, Addr.add_lit]
          simp at hst
          rw [hst]
          simp
    · have hgr := grown cap (Value.ownBlock (.slice (some ⟨g, 0, none⟩) l.length cap))
      refine ⟨_, _, _, ?_, hgr.1, hgr.2, .inr rfl⟩
      have h5 : ¬ (m = 0) := by omega
      have h63' : ¬ (9223372036854775807 < ((l.length : Int) + (m : Int))) := by omega
      have h48' : ¬ (281474976710656 < Builtin.nextslicecap (l.length + m) cap) := by
        have := growslice_fits (need := l.length + m) (old := cap) (bytes := 1) (by omega) (by omega)
        omega
      have hfo := run_firstCells_some (P := P) w.drew 1 l.length ⟨g, 0, none⟩ l.length cap (l.map u8v) (by simp) (fun j u hu => by
        rw [Addr.add_lit, Nat.zero_add]
        have : w.cell? ⟨g, j, none⟩ = some u := by
          rw [Blk.cell hg]
          simp only [List.getElem?_toArray]
          rw [List.getElem?_append_left (List.getElem?_eq_some_iff.1 hu).1]; exact hu
        exact this)
      simp [Builtin.append_, run_underlying ht, run_underlying htx, sizeOf, typeInfo, zeroValue, hi, hz, hA, hsize, hby, hwr, n0, n1, h5, hroom, h63', h48', Question.forced, hfo, newRow, grownCap, hzc]
theorem wpList_append_zeros {w : World} {ops : Array Oper} {rest : List Oper} {o : Oper} {a : Act} {Q : Exit → Act → World → Prop} (hgd : o.guard = none) (s x : Operand) (t tx : TypeId)
    (ho : o.op = .call { callee := .builtin .append, args := #[s, x], argTypes := #[t, tx] })
    (base : Nat) (e : TypeId) (k : IntKind) (ht : P.underlying t = some (.slice e)) (htx : P.underlying tx = some (.int k)) (hi : (P.info? e).map (fun i => (i.zero, i.size, i.bytes)) = some (some (.int .u8 0), 1, 1))
    (v : Value) (l sp : List UInt8) (hs : a.eval s = v) (hown : OwnB e w base v l sp) (m : Nat) (hx : a.eval x = .int .i64 (m : Int)) (hlen : l.length + m ≤ 140737488355328) (hbase : base ≤ w.heap.size)
    (h : ∀ v' w' sp', OwnB e w' base v' (l ++ List.replicate m 0) sp' → w.grownBy w' v.ownBlock → (v'.ownBlock = v.ownBlock ∨ v'.ownBlock = some w.heap.size) → wpList P ops Q rest (a.put o.dst v') w') : wpList P ops Q (o :: rest) a w := by
  obtain ⟨i, hi0, hz, hsize, hby⟩ := info_parts hi
  obtain ⟨v', w', sp', hrun, h2, h3, h4⟩ := run_append_zeros (P := P) w base t tx o.type e k i ht htx hi0 hz hsize hby v l sp hown m hlen hbase
  refine wpList_plain hgd fun _ hK => ?_
  unfold Oper.wp execOp
  simp only [ho, resolve, invoke, builtin, Sem.run_bind, Sem.run_pure, Result.andThen_ok, List.map_toArray, List.map_cons, List.map_nil, hs, hx, hrun]
  exact hK _ _ (h v' w' sp' h2 h3 h4)
end
end Go

/- A superblock's bytes behind its seal: the document's. Conditions: it may be; its heads can be read. -/
namespace Go.Proofs.Ytmhfehhpfkjloaa
open Go.RowKit
theorem le4_cells6 (n : Nat) (hn : n < 4294967296) : #[Value.int IntKind.u8 ((n : Int) % 256), Value.int IntKind.u8 ((n : Int) / 256 % 256), Value.int IntKind.u8 ((n : Int) / 65536 % 256), Value.int IntKind.u8 ((n : Int) / 16777216)] = ((le4 n).map u8v).toArray := by
  rw [le4_v0, le4_v1, le4_v2, le4_v3 n hn]; rfl
theorem fours'_snoc (l : List Int) (j : Nat) (h : j < l.length) : fours' (l.take (j + 1)) = fours' (l.take j) ++ le4 (l[j]).toNat := by
  unfold fours'; rw [List.take_succ_eq_append_getElem h, List.flatMap_append]; simp
def NuRel (w : World) (s : SpT) (v4 v5 : Value) (wr : World) : Prop := ∃ (i : Nat) (sp : List Int), i ≤ s.2.2.length ∧ v5 = .int .i64 (i : Int) ∧ OwnI 3 wr w.heap.size v4 (eleven s ++ pairs (s.2.2.take i)) sp ∧ Below w.heap.size w wr
def FoRel (w : World) (l : List Int) (v6 v7 : Value) (wr : World) : Prop := ∃ (j : Nat) (sp : List UInt8), j ≤ l.length ∧ v7 = .int .i64 (j : Int) ∧ OwnB 5 wr w.heap.size v6 (fours' (l.take j)) sp ∧ Below w.heap.size w wr
set_option maxRecDepth 100000 in
set_option maxHeartbeats 4000000 in
theorem rspBehind_any (f : HdF) (fe : Bool) (A : Option Addr) (n c : Nat) (hs : List (Int × Int)) (w : World) (hn : n = hs.length) (hok : Sp.ok (f, fe, hs) = true) (hh : Heads w A hs) :
    Calls Try.prog 60 #[.agg (spc f fe (.slice A n c))] w fun e w' => ∃ v sp, e = .returned v ∧ OwnB 5 w' w.heap.size v (Sp.rest (f, fe, hs)) sp ∧ Below w.heap.size w w' := by
  subst hn
  have hlen : hs.length ≤ 32 := (Sp.ok_spec hok).2.1
  have HNU := Lib.hid (nums_small hok)
  clear hok
  have hg := Blk.new w 26 (spc f fe (.slice A hs.length c))
  have hB := (Below.refl w.heap.size w).alloc (Nat.le_refl _) (.cells (spc f fe (.slice A hs.length c)) 26)
  obtain ⟨c0, c1, c2, c3, c4, c5, c6, c7, c8, c9, c10⟩ := sp_cells hg
  have HH := Lib.hid (And.intro hB (And.intro (hh.below hB) hg))
  clear hg hB hh
  have hs1 : (w.alloc (.cells (spc f fe (.slice A hs.length c)) 26)).heap.size = w.heap.size + 1 := World.size_alloc ..
  go_enter Try.func60, Try.ntmps60
  go_upto_if 9 with fail
  generalize w.alloc (.cells (spc f fe (.slice A hs.length c)) 26) = w1 at HH hs1 c0 c1 c2 c3 c4 c5 c6 c7 c8 c9 c10 ⊢
  obtain ⟨FV, hFV⟩ : ∃ FV : Int, FV = if fe = true then 1 else 0 := ⟨_, rfl⟩
  have HFV := Lib.hid hFV
  clear hFV
  go_cut [3] from 8 (fun s wv => s = .int .i64 FV ∧ wv = w1)
  case first =>
    cases fe
    all_goals
      go_wp2_with fail
      go_meet
      case rel => exact ⟨by rw [HFV.out]; simp, rfl⟩
  case rest =>
    obtain ⟨rfl, rfl⟩ := hcut
    go_wp2_with fail
    clear c0 c1 c2 c3 c4 c5 c6 c7 c8 c9 c10
    have hel : #[Value.int .i64 (f 0), .int .i64 (f 1), .int .i64 (f 2), .int .i64 (f 3), .int .i64 (f 4), .int .i64 (f 5), .int .i64 (f 6), .int .i64 (f 7), .int .i64 (f 8), .int .i64 FV, .int .i64 (hs.length : Int)] = ((eleven (f, fe, hs)).map iv).toArray := by rw [HFV.out]; rfl
    rw [hel]
    have hI := Blk.new' wc 3 ((eleven (f, fe, hs)).map iv).toArray (n := w.heap.size + 1) hs1.symm
    have hB3 := (Below.refl wc.heap.size wc).alloc (Nat.le_refl _) (.cells ((eleven (f, fe, hs)).map iv).toArray 3)
    generalize wc.alloc (.cells ((eleven (f, fe, hs)).map iv).toArray 3) = w3 at hI hB3 ⊢
    have hO := ownI_blk hI (base := wc.heap.size) (by rw [hs1]; exact Nat.le_refl _) (by show 11 ≤ maxLen; decide) 11 rfl
    have hS : NuRel wc (f, fe, hs) (.slice (some ⟨w.heap.size + 1, 0, none⟩) 11 11) (.int .i64 0) w3 := ⟨0, [], Nat.zero_le _, rfl, by simpa [pairs] using hO, hB3⟩
    have hsz := hB3.size
    clear hI hB3 hO hel hs1
    go_loopw [4, 5] (fun v4 v5 wr => NuRel wc (f, fe, hs) v4 v5 wr) (fun _ v _ => hs.length - (intOf v).toNat)
    case atStart => exact hS
    case round =>
      clear hS
      obtain ⟨i, sp, hi, rfl, hown, hBr⟩ := hrel
      have hg := HH.out.2.2.below hBr HH.out.2.2.lt
      have c10 := hg.at_ 10 (v := .slice A hs.length c) rfl
      by_cases hlt : i < hs.length
      · have hlt : i < hs.length := hlt
        obtain ⟨b, off, rfl, hc⟩ := HH.out.2.1 (by omega)
        obtain ⟨d1, d2⟩ := hc i hlt
        obtain ⟨x, y, hxy⟩ : ∃ x y, hs[i] = (x, y) := ⟨_, _, rfl⟩
        rw [hxy] at d1 d2
        rw [Nat.mul_comm] at d1
        rw [show off + (2 * i + 1) = off + i * 2 + 1 by omega] at d2
        have HXY := Lib.hid hxy
        clear hc hxy
        have hib : i < 65536 := by omega
        have hC0 : Below wc.heap.size wc wr.drew := hBr.drew
        have e10 := HH.out.2.2.at_ 10 (v := .slice (some ⟨b, off, none⟩) hs.length c) rfl
        have HC : Hid (∀ w', Below wc.heap.size wc w' → w'.cell? ⟨w.heap.size, 10, none⟩ = some (.slice (some ⟨b, off, none⟩) hs.length c) ∧ w'.cell? ⟨b, off + i * 2, none⟩ = some (.int .i64 x) ∧ w'.cell? ⟨b, off + i * 2 + 1, none⟩ = some (.int .i64 y)) := Lib.hid fun w' hw' =>
          ⟨(hw'.cell (World.block_lt_of_cell? wc _ e10)).trans e10, (hw'.cell (World.block_lt_of_cell? wc _ d1)).trans d1, (hw'.cell (World.block_lt_of_cell? wc _ d2)).trans d2⟩
        have HO := Lib.hid (And.intro hown hBr)
        go_wp2_with fail
        clear hown hBr hg d1 d2 c10 e10
        refine wp_region_tree (Below wc.heap.size wc) [] (PlanT.takes [0, 1, 3, 7, 9] (PlanT.takes [2, 8] (PlanT.takes [4, 5, 10, 11] (PlanT.takes [6, 12] (.opt 13 (.opt 14 (PlanT.takes [15] .done) .no) .no))))) (by kernel_rfl) (by kernel_rfl) (hC0) ?_
        refine wpTree_pure _ _ _ (by rfl) (by rfl) ?_
        dsimp only [List.filterMap, List.getElem?_cons_zero, List.getElem?_cons_succ]
        repeat (go_big_quiet_step (fail))
        refine wpQuiet_nil ?_
        refine wpTree_takeL _ _ _ (by rfl) (by rfl) (hC0) ?_
        dsimp only [List.filterMap, List.getElem?_cons_zero, List.getElem?_cons_succ]
        (refine wpQuiet_load_cell (fun w' hw' => (HC.out w' hw').1) (by rfl) _ _ (by rfl) (by rfl) _ Try.underlying24 (by rfl) ?_; simp only [Act.put, List.setIfInBounds_toArray, List.set_cons_zero, List.set_cons_succ])
        (refine wpQuiet_load_cell (fun w' hw' => (HC.out w' hw').1) (by rfl) _ _ (by rfl) (by rfl) _ Try.underlying24 (by rfl) ?_; simp only [Act.put, List.setIfInBounds_toArray, List.set_cons_zero, List.set_cons_succ])
        refine wpQuiet_nil ?_
        refine wpTree_pure _ _ _ (by rfl) (by rfl) ?_
        dsimp only [List.filterMap, List.getElem?_cons_zero, List.getElem?_cons_succ]
        repeat (go_big_quiet_step (fail))
        refine wpQuiet_nil ?_
        refine wpTree_takeL _ _ _ (by rfl) (by rfl) (hC0) ?_
        dsimp only [List.filterMap, List.getElem?_cons_zero, List.getElem?_cons_succ]
        (refine wpQuiet_load_cell (fun w' hw' => (HC.out w' hw').2.1) (by rfl) _ _ (by rfl) (by rfl) _ Try.underlying3 (by rfl) ?_; simp only [Act.put, List.setIfInBounds_toArray, List.set_cons_zero, List.set_cons_succ])
        (refine wpQuiet_load_cell (fun w' hw' => (HC.out w' hw').2.2) (by rfl) _ _ (by rfl) (by rfl) _ Try.underlying3 (by rfl) ?_; simp only [Act.put, List.setIfInBounds_toArray, List.set_cons_zero, List.set_cons_succ])
        refine wpQuiet_nil ?_
        clear HC
        refine wpTree_one _ rfl ?_
        go_wp2_with fail
        have hbl := (Blk.new wr 3 #[.int .i64 x, .int .i64 y]).drew
        have hC1 : Below wr.heap.size wr (wr.alloc (.cells #[.int .i64 x, .int .i64 y] 3)).drew := ((Below.refl _ _).alloc (Nat.le_refl _) _).drew
        have hown1 := OwnsC.ownBelow HO.out.1 hC1
        have hsz1 : wc.heap.size ≤ (wr.alloc (.cells #[.int .i64 x, .int .i64 y] 3)).drew.heap.size := Nat.le_trans HO.out.2.size hC1.size
        have hrd : Reads (wr.alloc (.cells #[.int .i64 x, .int .i64 y] 3)).drew (some ⟨wr.heap.size, 0, none⟩) ([x, y].map iv) := fun _ => ⟨wr.heap.size, 0, rfl, fun j u hu => by rw [Nat.zero_add]; exact hbl.at_ j (by simpa [iv] using hu)⟩
        have hC5 := HO.out.2.trans (hC1.mono HO.out.2.size)
        refine TreeQ.in_ hC5 ?_
        have hlk := OwnsC.lt HO.out.1
        generalize (wr.alloc (.cells #[.int .i64 x, .int .i64 y] 3)).drew = w5 at hC5 hC1 hown1 hsz1 hrd ⊢
        clear hbl hC0
        refine wpTree_one _ rfl ?_
        go_wp2_with (first
          | ((with_reducible show wpList _ _ _ ((⟨some 56, _, _, _, _, _⟩ : Oper) :: _) _ _); refine wpList_append_ints (o := ⟨some 56, _, _, _, _, _⟩) (by rfl) _ _ _ (by rfl) wc.heap.size _ Try.underlying77 infoInt _ _ _ (by rfl) hown1 (some ⟨wr.heap.size, 0, none⟩) 2 [x, y] (by rfl) hrd (by have := pairs_length (hs.take i); have h2 := List.length_take_le i hs; unfold pairs eleven; rw [List.length_append]; simp only [List.length_cons, List.length_nil]; omega) hsz1 ?_; intro v9 w9 sp9 ho9 hg9 _ _)
          | fail)
        have hB9 := hC5.grown hg9 hsz1 (fun k hk => (hlk k hk).1)
        refine TreeQ.in_ hB9 ?_
        refine wpTree_pure _ _ _ (by rfl) (by rfl) ?_
        dsimp only [List.filterMap, List.getElem?_cons_zero, List.getElem?_cons_succ]
        repeat (go_big_quiet_step (fail))
        refine wpQuiet_nil ?_
        refine wpTree_done ?_
        go_wp2
        refine ⟨⟨i + 1, sp9, hlt, by go_num, ?_, hB9⟩, by simp [intOf]; omega⟩
        show OwnI 3 w9 wc.heap.size v9 (eleven (f, fe, hs) ++ pairs (hs.take (i + 1))) sp9
        rw [pairs_snoc hs i hlt, HXY.out, ← List.append_assoc]
        exact ho9
      · obtain rfl : i = hs.length := Nat.le_antisymm hi (Nat.le_of_not_lt hlt)
        have hown3 : OwnI 3 wr wc.heap.size u4 (Sp.nums (f, fe, hs)) sp := by
          have h := hown
          rw [show hs.take (f, fe, hs).2.2.length = hs from List.take_length] at h
          exact h
        have hnl : (Sp.nums (f, fe, hs)).length ≤ 75 := by rw [Sp.nums_length]; show 11 + 2 * hs.length ≤ 75; omega
        obtain ⟨l, hln⟩ : ∃ l, l = Sp.nums (f, fe, hs) := ⟨_, rfl⟩
        rw [← hln] at hown3 hnl
        have HLN := Lib.hid hln
        clear hln
        obtain ⟨A3, c3, rfl, hnc, hmax, hr3, -⟩ := OwnsC.reads hown3
        clear hown hi hlt hg
        have HA3 := Lib.hid (And.intro hr3 hBr)
        obtain ⟨w5, hw5⟩ : ∃ w5, w5 = wr := ⟨_, rfl⟩
        subst hw5
        have hown0 := OwnsC.nil 5 1 w5 w5.heap.size
        have HO0 : Hid (FoRel w5 l (.slice none 0 0) (.int .i64 0) w5) := Lib.hid ⟨0, [], Nat.zero_le _, rfl, hown0, Below.refl _ _⟩
        clear hown3 hnc hmax hr3 hBr hown0
        go_wp2_with fail
        clear c10
        go_loopw [6, 7] (fun v6 v7 wr => FoRel w5 l v6 v7 wr) (fun _ v _ => l.length - (intOf v).toNat)
        case atStart => exact HO0.out
        case round =>
          clear HO0
          obtain ⟨j, sp, hj, rfl, hown, hBr⟩ := hrel
          by_cases hlt : j < l.length
          · obtain ⟨m, hm, hm2⟩ := HNU.out l[j] (by rw [← HLN.out]; exact List.getElem_mem hlt)
            obtain ⟨b, off, rfl, hc⟩ := HA3.out.1 (by intro e; have := congrArg List.length e; simp at this; rw [this] at hlt; simp at hlt)
            have d1 : w5.cell? ⟨b, off + j, none⟩ = some (.int .i64 (m : Int)) := hc j _ (by rw [List.getElem?_map, List.getElem?_eq_getElem hlt, hm]; rfl)
            have HC : Hid (∀ w', Below w5.heap.size w5 w' → w'.cell? ⟨b, off + j, none⟩ = some (.int .i64 (m : Int))) := Lib.hid fun w' hw' => (hw'.cell (World.block_lt_of_cell? w5 _ d1)).trans d1
            have HS : Hid (fours' (l.take (j + 1)) = fours' (l.take j) ++ le4 m) := Lib.hid (by rw [fours'_snoc l j hlt, hm]; rfl)
            have hl : (fours' (l.take j)).length ≤ 1000 := by rw [fours'_length, List.length_take]; omega
            have hm3 : m < 4294967296 := by omega
            have HO := Lib.hid (And.intro hown (And.intro hBr hl))
            have hC0 : Below w5.heap.size w5 wr.drew := hBr.drew
            have hjb : j < 65536 := by omega
            clear d1 hc hm hown hBr hl hm2
            go_wp2_with fail
            refine wp_region_tree (Below w5.heap.size w5) [] (PlanT.takes [0, 1, 2, 3, 6, 7, 8, 12, 13, 14, 18, 19, 20] (PlanT.takes [4, 9, 15, 21] (PlanT.takes [5, 10, 11, 16, 17, 22, 23] (.opt 24 (.opt 25 (PlanT.takes [26] .done) .no) .no)))) (by kernel_rfl) (by kernel_rfl) (hC0) ?_
            refine wpTree_pure _ _ _ (by rfl) (by rfl) ?_
            dsimp only [List.filterMap, List.getElem?_cons_zero, List.getElem?_cons_succ]
            repeat (go_big_quiet_step (fail))
            refine wpQuiet_nil ?_
            refine wpTree_takeL _ _ _ (by rfl) (by rfl) (hC0) ?_
            dsimp only [List.filterMap, List.getElem?_cons_zero, List.getElem?_cons_succ]
            (refine wpQuiet_load_cell (fun w' hw' => HC.out w' hw') (by rfl) _ _ (by rfl) (by rfl) _ Try.underlying3 (by rfl) ?_; simp only [Act.put, List.setIfInBounds_toArray, List.set_cons_zero, List.set_cons_succ])
            (refine wpQuiet_load_cell (fun w' hw' => HC.out w' hw') (by rfl) _ _ (by rfl) (by rfl) _ Try.underlying3 (by rfl) ?_; simp only [Act.put, List.setIfInBounds_toArray, List.set_cons_zero, List.set_cons_succ])
            (refine wpQuiet_load_cell (fun w' hw' => HC.out w' hw') (by rfl) _ _ (by rfl) (by rfl) _ Try.underlying3 (by rfl) ?_; simp only [Act.put, List.setIfInBounds_toArray, List.set_cons_zero, List.set_cons_succ])
            (refine wpQuiet_load_cell (fun w' hw' => HC.out w' hw') (by rfl) _ _ (by rfl) (by rfl) _ Try.underlying3 (by rfl) ?_; simp only [Act.put, List.setIfInBounds_toArray, List.set_cons_zero, List.set_cons_succ])
            refine wpQuiet_nil ?_
            refine wpTree_pure _ _ _ (by rfl) (by rfl) ?_
            dsimp only [List.filterMap, List.getElem?_cons_zero, List.getElem?_cons_succ]
            repeat (go_big_quiet_step (fail))
            refine wpQuiet_nil ?_
            clear HC
            refine wpTree_one _ rfl ?_
            go_wp2_with fail
            rw [le4_cells6 m hm3]
            have hC1 : Below wr.heap.size wr (wr.alloc (.cells ((le4 m).map u8v).toArray 5)).drew := ((Below.refl _ _).alloc (Nat.le_refl _) _).drew
            have hown1 := OwnsC.ownBelow HO.out.1 hC1
            have hC5 := HO.out.2.1.trans (hC1.mono HO.out.2.1.size)
            have hsz1 := hC5.size
            have hrd : Bytes (wr.alloc (.cells ((le4 m).map u8v).toArray 5)).drew (some ⟨wr.heap.size, 0, none⟩) (le4 m) := Bytes.below (bytes_lit wr 5 (le4 m)) (Below.refl _ _).drew
            refine TreeQ.in_ hC5 ?_
            have hlk := OwnsC.lt HO.out.1
            generalize (wr.alloc (.cells ((le4 m).map u8v).toArray 5)).drew = w6 at hC5 hC1 hown1 hsz1 hrd ⊢
            clear hC0
            refine wpTree_one _ rfl ?_
            go_wp2_with (first
              | ((with_reducible show wpList _ _ _ ((⟨some 88, _, _, _, _, _⟩ : Oper) :: _) _ _); refine wpList_append_bytes (o := ⟨some 88, _, _, _, _, _⟩) (by rfl) _ _ _ (by rfl) w5.heap.size _ Try.underlying43 u8info _ (fours' (l.take j)) sp (by rfl) hown1 (some ⟨wr.heap.size, 0, none⟩) 4 (le4 m) (by rfl) hrd (by have := HO.out.2.2; have := le4_length m; omega) hsz1 ?_; intro v9 w9 sp9 ho9 hg9 _ _)
              | fail)
            have hB9 := hC5.grown hg9 hsz1 (fun k hk => (hlk k hk).1)
            refine TreeQ.in_ hB9 ?_
            refine wpTree_pure _ _ _ (by rfl) (by rfl) ?_
            dsimp only [List.filterMap, List.getElem?_cons_zero, List.getElem?_cons_succ]
            repeat (go_big_quiet_step (fail))
            refine wpQuiet_nil ?_
            refine wpTree_done ?_
            go_wp2
            refine ⟨⟨j + 1, sp9, hlt, by go_num, ?_, hB9⟩, by simp [intOf]; omega⟩
            rw [HS.out]
            exact ho9
          · obtain rfl : j = l.length := by omega
            rw [List.take_length] at hown
            have hfl : (fours' l).length = 4 * l.length := fours'_length l
            have hsz1 := hBr.size
            obtain ⟨A6, c6, rfl, hl6, hx6, hby6⟩ := OwnB.open_ hown
            have HX := Lib.hid (And.intro hown hBr)
            obtain ⟨F, hF⟩ : ∃ F, F = fours' l := ⟨_, rfl⟩
            rw [← hF] at hown hfl hl6 hby6 ⊢
            have HF := Lib.hid hF
            clear hF hBr hby6
            go_wp2_with (first
              | ((with_reducible show wpList _ _ _ ((⟨some 93, _, _, _, _, _⟩ : Oper) :: _) _ _); refine wpList_append_zeros (o := ⟨some 93, _, _, _, _, _⟩) (by rfl) _ _ _ _ (by rfl) w5.heap.size _ .i64 Try.underlying43 Try.underlying3 u8info _ F sp (by rfl) hown (496 - F.length) (by show Value.int _ _ = _; congr 1; omega) (by omega) hsz1 ?_; intro v9 w9 sp9 ho9 hg9 _)
              | fail)
            have hlk := OwnsC.lt HX.out.1
            rw [← HF.out] at hlk
            have hw := HH.out.1.trans (HA3.out.2.mono HH.out.1.size)
            have hw5 := hw.size
            have hB9 := (hw.trans (HX.out.2.mono hw5)).grown hg9 (by have := HX.out.2.size; omega) (fun k hk => by have := (hlk k hk).1; omega)
            clear hlk hg9 hown
            go_ret
            refine ⟨v9, sp9, rfl, ?_, hB9⟩
            have h := OwnsC.base_ ho9 hw5
            have e : F ++ List.replicate (496 - F.length) 0 = Sp.rest (f, fe, hs) := by
              unfold Sp.rest
              rw [hfl, HF.out, HLN.out]
            rw [← e]
            exact h
end Go.Proofs.Ytmhfehhpfkjloaa

/- What the document's function answers that seals bytes. Conditions: the bytes can be read; they are at most 2^47 - 5000. -/
namespace Go
open Go.RowKit
namespace Proofs.Ytmhfehhpfkjloaa
set_option maxHeartbeats 400000 in
theorem rseal_any (A : Option Addr) (n c : Nat) (l : List UInt8) (hn : n = l.length) (hc : l.length ≤ c) (hc2 : l.length ≤ 140737488351232 ∧ c ≤ 9223372036854775807) (w : World) (hb : Bytes w A l) :
    Calls Try.prog 59 #[.slice A n c] w fun e w' => ∃ v sp, e = .returned v ∧ OwnB 5 w' w.heap.size v (Sha.seal_ l) sp ∧ Below w.heap.size w w' := by
  subst hn
  go_enter Try.func59, Try.ntmps59
  go_wp2_with fail
  refine (rsum_any A c l hc hc2 w hb).mono ?_
  rintro e w1 ⟨rfl, hb1⟩
  have hs16 := Sha.sum_length l
  obtain ⟨S, hS⟩ : ∃ S, S = Sha.sum l := ⟨_, rfl⟩
  rw [← hS] at hs16 ⊢
  have HS := Lib.hid hS
  clear hS
  have a16 := alloc16
  have hz := Blk.new w1 105 zero16
  have hbz := hb1.alloc hb1.size (.cells zero16 105)
  go_wp2_with (first
    | (show wpList _ _ _ ((⟨none, _, _, _, _, _⟩ : Oper) :: _) _ _; refine wpList_store_blk (o := ⟨none, _, _, _, _, _⟩) hz (by rfl) _ _ _ (by rfl) (by rfl) (S.map u8v).toArray (by rfl) size16 (arr_size _ _) (by simp [hs16]) (u8_all _) ?_; intro w2 h2 hu2; have hb2 := hbz.upd hu2 hb1.size; have hbl2 := Bytes.below hb hb2; have hb3 := hb2.alloc hb2.size (.cells #[] 5); have ho3 := OwnB.lit0 (e := 5) w2 hb2.size; have hS3 := (h2.alloc (.cells #[] 5)).bytes; have hsz3 := hb3.size; clear hu2 hbz hz h2 hbl2 hb2)
    | (show wpList _ _ _ ((⟨some 8, _, _, _, _, _⟩ : Oper) :: _) _ _; refine wpList_append_bytes (o := ⟨some 8, _, _, _, _, _⟩) (by rfl) _ _ _ (by rfl) w.heap.size _ Try.underlying43 u8info (.slice (some ⟨w2.heap.size, 0, none⟩) 0 0) [] _ (by rfl) ho3 (some ⟨w1.heap.size, 0, none⟩) 16 S (by rw [hs16]; rfl) hS3 (by simp; omega) hsz3 ?_; intro v4 w4 sp4 ho4 hg4 _ _; have hb4 := hb3.grown hg4 hsz3 (fun k hk => (OwnsC.lt ho3 k hk).1); have hl4 := Bytes.below hb hb4; have hsz4 := hb4.size; clear ho3 hS3 hb3 hg4)
    | (show wpList _ _ _ ((⟨some 10, _, _, _, _, _⟩ : Oper) :: _) _ _; refine wpList_append_bytes (o := ⟨some 10, _, _, _, _, _⟩) (by rfl) _ _ _ (by rfl) w.heap.size _ Try.underlying43 u8info v4 ([] ++ S) sp4 (by rfl) ho4 A c l (by rfl) hl4 (by simp; omega) hsz4 ?_; intro v5 w5 sp5 ho5 hg5 _ _; have hb5 := hb4.grown hg5 hsz4 (fun k hk => (OwnsC.lt ho4 k hk).1); clear ho4 hl4 hb4 hg5)
    | fail)
  go_ret
  exact ⟨v5, sp5, rfl, by rw [List.nil_append, HS.out] at ho5; exact ho5, hb5⟩
end Proofs.Ytmhfehhpfkjloaa
end Go

/- A superblock's bytes: the document's. Conditions: its heads can be read, and are at most 1000. -/
namespace Go.Proofs.Ytmhfehhpfkjloaa
open Go.RowKit
set_option maxRecDepth 100000 in
set_option maxHeartbeats 4000000 in
theorem rspBytes_any (f : HdF) (fe : Bool) (A : Option Addr) (n c : Nat) (hs : List (Int × Int)) (w : World) (hn : n = hs.length) (hlen : hs.length ≤ 1000) (hh : Heads w A hs) :
    Calls Try.prog 21 #[.agg (spc f fe (.slice A n c))] w fun e w' =>
      ((Sp.ok (f, fe, hs) = true ∧ ∃ v sp, e = .returned (.tuple #[v, .int .i64 0]) ∧ OwnB 5 w' w.heap.size v (Sp.bytes (f, fe, hs)) sp) ∨
        (Sp.ok (f, fe, hs) = false ∧ e = .returned (.tuple #[.slice none 0 0, .int .i64 2]))) ∧ Below w.heap.size w w' := by
  subst hn
  have hg := Blk.new w 26 (spc f fe (.slice A hs.length c))
  have hB := (Below.refl w.heap.size w).alloc (Nat.le_refl _) (.cells (spc f fe (.slice A hs.length c)) 26)
  have hh1 := hh.below hB
  have hC := rspCheck_any f fe A _ c hs (w.alloc (.cells (spc f fe (.slice A hs.length c)) 26)) rfl hlen hh1
  have HH := Lib.hid (And.intro hB (And.intro hh1 hC))
  clear hB hh1 hC hh
  go_enter Try.func21, Try.ntmps21
  go_wp2_with (first
    | ((with_reducible show wpList _ _ _ ((⟨some 4, _, _, _, _, _⟩ : Oper) :: _) _ _); refine wpList_load_blk (o := ⟨some 4, _, _, _, _, _⟩) (hg) (by rfl) _ _ (by rfl) (by rfl) _ Try.underlying26 (by rfl) (sizeSuper) (by exact spc_size _ _ _) ?_)
    | fail)
  refine HH.out.2.2.mono ?_
  rintro e w2 ⟨rfl, hb2⟩
  have hB2 := HH.out.1.trans (hb2.mono HH.out.1.size)
  have hh2 := HH.out.2.1.below hb2
  have hg2 := hg.below hb2 hg.lt
  clear hb2 hg HH
  by_cases hok : Sp.ok (f, fe, hs) = true
  · rw [show spCode (f, fe, hs) = 0 from if_pos hok]
    have hL := rspBehind_any f fe A _ c hs w2 rfl hok hh2
    have HO := Lib.hid (And.intro hok (And.intro hL (Sp.rest_length _ (Sp.ok_spec hok).2.1)))
    have HB2 := Lib.hid hB2
    clear hok hL hB2 hh2
    go_wp2_with (first
      | ((with_reducible show wpList _ _ _ ((⟨some 7, _, _, _, _, _⟩ : Oper) :: _) _ _); refine wpList_load_blk (o := ⟨some 7, _, _, _, _, _⟩) (hg2) (by rfl) _ _ (by rfl) (by rfl) _ Try.underlying26 (by rfl) (sizeSuper) (by exact spc_size _ _ _) ?_)
      | fail)
    refine HO.out.2.1.mono ?_
    rintro e w3 ⟨v3, sp3, rfl, ho3, hb3⟩
    obtain ⟨A3, c3, rfl, hl3, hx3, hby3⟩ := OwnB.open_ ho3
    have hB3 := HB2.out.trans (hb3.mono HB2.out.size)
    have hS := rseal_any A3 _ c3 (Sp.rest (f, fe, hs)) rfl hl3 ⟨by have := HO.out.2.2; omega, hx3⟩ w3 hby3
    have HS := Lib.hid (And.intro hS hB3)
    clear hS hB3 hb3 ho3 hby3 hg2 HB2 hl3 hx3
    go_wp2_with fail
    refine HS.out.1.mono ?_
    rintro e w4 ⟨v4, sp4, rfl, ho4, hb4⟩
    have HX := Lib.hid (And.intro (OwnsC.base_ ho4 HS.out.2.size) (HS.out.2.trans (hb4.mono HS.out.2.size)))
    clear ho4 hb4 HS
    go_wp2
    go_ret2
    exact ⟨.inl ⟨HO.out.1, v4, sp4, rfl, HX.out.1⟩, HX.out.2⟩
  · rw [show spCode (f, fe, hs) = 2 from if_neg hok]
    have HO := Lib.hid (And.intro hok hB2)
    clear hok hB2 hh2 hg2
    go_wp2
    go_ret2
    exact ⟨.inr ⟨by simpa using HO.out.1, rfl⟩, HO.out.2⟩
end Go.Proofs.Ytmhfehhpfkjloaa

/- A superblock as the document reads it: it takes up to 33 heads, and answers the same. Plain facts. No condition. -/
namespace Go.Proofs.Ytmhfehhpfkjloaa
/-- As the document takes it out of bytes. -/
def Sp.parse33 (r : List UInt8) : SpT := (fun i => at4 r (16 + 4 * i), (at4 r 52 == 1), (List.range (min (at4 r 56) 33)).map fun j => ((at4 r (60 + 8 * j) : Int), (at4 r (64 + 8 * j) : Int)))
theorem Sp.parse33_eq {r : List UInt8} (h : at4 r 56 ≤ 32) : Sp.parse33 r = Sp.parse r := by
  unfold Sp.parse33 Sp.parse; rw [Nat.min_eq_left h, Nat.min_eq_left (by omega)]
theorem Sp.parse33_heads (r : List UInt8) : (Sp.parse33 r).2.2.length = min (at4 r 56) 33 := by unfold Sp.parse33; simp
theorem Sp.read33 {r : List UInt8} (hl : r.length = 512) (hs : Sha.sum (r.drop 16) = r.take 16) :
    Sp.read r = if Sp.ok (Sp.parse33 r) = true ∧ Sp.rest (Sp.parse33 r) = r.drop 16 then (0, Sp.parse33 r) else (4, Sp.none_) := by
  unfold Sp.read
  rw [if_neg (by rw [hl]; simp), if_neg (by rw [hs]; simp)]
  by_cases h : at4 r 56 ≤ 32
  · rw [Sp.parse33_eq h]
    have e : Sp.bytes (Sp.parse r) = r ↔ Sp.rest (Sp.parse r) = r.drop 16 := by
      unfold Sp.bytes
      refine ⟨fun h => ?_, fun h => ?_⟩
      · have h2 := congrArg (List.drop 16) h
        rw [← h2]
        conv => rhs; rw [← Sha.sum_len (Sp.rest (Sp.parse r)), List.drop_left]
      · rw [h, hs, List.take_append_drop]
    simp only [e]
  · rw [if_neg, if_neg]
    · rintro ⟨hok, -⟩
      have h1 := (Sp.ok_spec hok).2.1
      rw [Sp.parse33_heads] at h1
      omega
    · rintro ⟨hok, hb⟩
      have h1 := (Sp.ok_spec hok).2.1
      have h2 := Sp.at_bytes (Sp.parse r) 10 ((Sp.parse r).2.2.length : Int) (by unfold Sp.nums; rfl) (by omega)
      rw [hb] at h2
      have h3 : (Sp.parse r).2.2.length = min (at4 r 56) 32 := by unfold Sp.parse; simp
      have h4 : at4 r (16 + 4 * 10) = at4 r 56 := rfl
      rw [h4, h3] at h2
      omega
end Go.Proofs.Ytmhfehhpfkjloaa

/- A number out of a superblock's bytes: the document's. Conditions: the bytes can be read and are long enough. -/
namespace Go.Proofs.Ytmhfehhpfkjloaa
open Go.RowKit
theorem add4 (x0 x1 x2 x3 : UInt8) : wrap64 (wrap64 (wrap64 (wrap64 (iu8 x0) + wrap64 (wrap64 (iu8 x1) * 256)) + wrap64 (wrap64 (iu8 x2) * 65536)) + wrap64 (wrap64 (iu8 x3) * 16777216)) = (un4 x0 x1 x2 x3 : Int) := by
  have h0 := x0.toNat_lt; have h1 := x1.toNat_lt; have h2 := x2.toNat_lt; have h3 := x3.toNat_lt
  unfold iu8 un4
  rw [IntWalk.wrap64_in (x0.toNat : Int) (by omega), IntWalk.wrap64_in (x1.toNat : Int) (by omega), IntWalk.wrap64_in (x2.toNat : Int) (by omega), IntWalk.wrap64_in (x3.toNat : Int) (by omega),
    IntWalk.wrap64_in ((x1.toNat : Int) * 256) (by omega), IntWalk.wrap64_in ((x2.toNat : Int) * 65536) (by omega), IntWalk.wrap64_in ((x3.toNat : Int) * 16777216) (by omega),
    IntWalk.wrap64_in ((x0.toNat : Int) + (x1.toNat : Int) * 256) (by omega), IntWalk.wrap64_in ((x0.toNat : Int) + (x1.toNat : Int) * 256 + (x2.toNat : Int) * 65536) (by omega), IntWalk.wrap64_in ((x0.toNat : Int) + (x1.toNat : Int) * 256 + (x2.toNat : Int) * 65536 + (x3.toNat : Int) * 16777216) (by omega)]
  omega
set_option maxHeartbeats 1000000 in
theorem rat_any (A : Option Addr) (c i : Nat) (l : List UInt8) (hp : 16 + 4 * i + 4 ≤ l.length) (hl : l.length ≤ 2000) (w : World) (hb : Bytes w A l) :
    Calls Try.prog 64 #[.slice A l.length c, .int .i64 (i : Int)] w fun e w' => e = .returned (.int .i64 (at4 l (16 + 4 * i))) ∧ Below w.heap.size w w' := by
  obtain ⟨b, off, rfl, hbl, hc⟩ := hb.at_ (by omega)
  have d0 := hc (16 + 4 * i) (by omega)
  have d1 := hc (16 + 4 * i + 1) (by omega)
  have d2 := hc (16 + 4 * i + 2) (by omega)
  have d3 := hc (16 + 4 * i + 3) (by omega)
  clear hc hb
  unfold at4
  generalize l.getD (16 + 4 * i) 0 = x0 at d0 ⊢
  generalize l.getD (16 + 4 * i + 1) 0 = x1 at d1 ⊢
  generalize l.getD (16 + 4 * i + 2) 0 = x2 at d2 ⊢
  generalize l.getD (16 + 4 * i + 3) 0 = x3 at d3 ⊢
  go_enter Try.func64, Try.ntmps64
  go_wp2
  go_quiet (fail)
  rw [add4]
  go_wp2
  go_ret
  exact ⟨rfl, below_drewN (Below.refl _ _) _⟩
end Go.Proofs.Ytmhfehhpfkjloaa

/- What the document's function answers that opens sealed bytes. Conditions: the bytes can be read; they are at most 2^47 - 5000. -/
namespace Go
open Go.RowKit
namespace Proofs.Ytmhfehhpfkjloaa
set_option maxHeartbeats 400000 in
theorem ropen_any (A : Option Addr) (n c : Nat) (l : List UInt8) (hn : n = l.length) (hc : l.length ≤ c) (hc2 : l.length ≤ 140737488351232 ∧ c ≤ 9223372036854775807) (w : World) (hb : Bytes w A l) :
    Calls Try.prog 63 #[.slice A n c] w fun e w' => ∃ v, e = .returned (.tuple #[v, .int .i64 (Sha.opened l).1]) ∧ (∃ sp, OwnB 5 w' w.heap.size v (Sha.opened l).2 sp) ∧ Below w.heap.size w w' := by
  subst hn
  go_enter Try.func63, Try.ntmps63
  by_cases h16 : l.length < 16
  · have ho : Sha.opened l = (4, []) := by unfold Sha.opened; rw [if_pos h16]
    rw [ho]
    go_wp2
    go_ret2
    exact ⟨_, rfl, ⟨[], OwnsC.nil _ _ _ _⟩, Below.refl _ _⟩
  · have ho : Sha.opened l = if Sha.sum (l.drop 16) = l.take 16 then (0, l.drop 16) else (12, []) := by unfold Sha.opened; rw [if_neg h16]
    have HO := Lib.hid ho
    clear ho
    obtain ⟨T, hT⟩ : ∃ T, T = l.take 16 := ⟨_, rfl⟩
    obtain ⟨D, hD⟩ : ∃ D, D = l.drop 16 := ⟨_, rfl⟩
    have hTl : T.length = 16 := by rw [hT]; simp; omega
    have hDl : D.length = l.length - 16 := by rw [hD]; simp
    rw [← hT, ← hD] at HO
    have hbT : Bytes w A T := by rw [hT]; exact hb.take 16
    have HD := Lib.hid hD
    have HDL := Lib.hid hDl
    have HTL := Lib.hid hTl
    clear hT hD hDl hTl
    have a16 := alloc16
    go_wp2_with (first
      | (show wpList _ _ _ ((⟨some 9, _, _, _, _, _⟩ : Oper) :: _) _ _; refine wpList_cut_bytes (o := ⟨some 9, _, _, _, _, _⟩) (by rfl) _ _ _ (by rfl) _ Try.underlying43 size1 A l.length c .i64 16 (by rfl) (by rfl) l rfl (by omega) hc hb ?_; intro A3 hl3 _; rw [← HD.out] at hl3 ⊢)
      | fail)
    refine (rsum_any A3 (c - 16) D (by have := HDL.out; omega) (by have := HDL.out; omega) w hl3).mono ?_
    rintro e w1 ⟨rfl, hb1⟩
    have hs16 := Sha.sum_length D
    obtain ⟨S, hS⟩ : ∃ S, S = Sha.sum D := ⟨_, rfl⟩
    rw [← hS] at hs16 ⊢ HO
    clear hS
    have hz := Blk.new w1 105 zero16
    have hbz := hb1.alloc hb1.size (.cells zero16 105)
    go_wp2_with (first
      | (show wpList _ _ _ ((⟨none, _, _, _, _, _⟩ : Oper) :: _) _ _; refine wpList_store_blk (o := ⟨none, _, _, _, _, _⟩) hz (by rfl) _ _ _ (by rfl) (by rfl) (S.map u8v).toArray (by rfl) size16 (arr_size _ _) (by simp [hs16]) (u8_all _) ?_; intro w2 h2 hu2; have hb2 := hbz.upd hu2 hb1.size; have hT2 := Bytes.below hbT hb2; have hl2 := Bytes.below hb hb2; have hS2 := h2.bytes; have hsz2 := hb2.size; clear hu2 hbz hz h2)
      | fail)
    simp only [Act.put]
    refine wp_region_mix (fun w' => w' = w2.drew) [0, 2, 3] [1, 4] 5 [] (by kernel_rfl) (by kernel_rfl) (fun c a a' w h q => ⟨h ▸ q.1, q.2⟩) rfl ?_
    dsimp only [List.filterMap, List.getElem?_cons_zero, List.getElem?_cons_succ]
    repeat (go_big_quiet_step (fail))
    refine wpQuiet_nil ?_
    refine wpQuiet_convert_str (by rfl) 43 9 5 _ (by rfl) Try.underlying43 Try.underlying5 Try.underlying9 (some ⟨w1.heap.size, 0, none⟩) 16 16 S (by rfl) hs16.symm (fun w' hw' => by subst hw'; exact hS2) ?_
    simp only [Act.put, List.setIfInBounds_toArray, List.set_cons_zero, List.set_cons_succ]
    refine wpQuiet_convert_str (by rfl) 43 9 5 _ (by rfl) Try.underlying43 Try.underlying5 Try.underlying9 A 16 c T (by rfl) HTL.out.symm (fun w' hw' => by subst hw'; exact hT2) ?_
    simp only [Act.put, List.setIfInBounds_toArray, List.set_cons_zero, List.set_cons_succ]
    refine wpQuiet_nil ?_
    rintro w3 rfl
    have hbq := str_beq S T
    have hb2d := hb2.trans (Below.refl _ _).drew
    have hl2d : Bytes w2.drew A l := hl2
    clear hS2 hT2 hl2 hl3
    by_cases he : S = T
    · rw [decide_eq_true he] at hbq
      rw [if_pos he] at HO
      have hb3 := hb2d.alloc hb2d.size (.cells #[] 5)
      have ho3 := OwnB.lit0 (e := 5) w2.drew hb2d.size
      have hl3 := Bytes.below hb hb3
      have hsz3 := hb3.size
      go_wp2_with (first
        | (show wpList _ _ _ ((⟨some 19, _, _, _, _, _⟩ : Oper) :: _) _ _; refine wpList_cut_bytes (o := ⟨some 19, _, _, _, _, _⟩) (by rfl) _ _ _ (by rfl) _ Try.underlying43 size1 A l.length c .i64 16 (by rfl) (by rfl) l rfl (by omega) hc hl3 ?_; intro A4 hl4 _; rw [← HD.out] at hl4 ⊢)
        | (show wpList _ _ _ ((⟨some 20, _, _, _, _, _⟩ : Oper) :: _) _ _; refine wpList_append_bytes (o := ⟨some 20, _, _, _, _, _⟩) (by rfl) _ _ _ (by rfl) w.heap.size _ Try.underlying43 u8info (.slice (some ⟨w2.drew.heap.size, 0, none⟩) 0 0) [] [] (by rfl) ho3 A4 (c - 16) D (by rfl) hl4 (by have := HDL.out; simp; omega) hsz3 ?_; intro v4 w4 sp4 ho4 hg4 _ _; have hb4 := hb3.grown hg4 hsz3 (fun k hk => (OwnsC.lt ho3 k hk).1); clear hl3 hb3 hg4)
        | fail)
      go_ret2
      rw [HO.out]
      exact ⟨v4, rfl, ⟨sp4, by simpa using ho4⟩, hb4⟩
    · rw [decide_eq_false he] at hbq
      rw [if_neg he] at HO
      go_wp2_with fail
      go_ret2
      rw [HO.out]
      exact ⟨_, rfl, ⟨[], OwnsC.nil _ _ _ _⟩, hb2d⟩
end Proofs.Ytmhfehhpfkjloaa
end Go
