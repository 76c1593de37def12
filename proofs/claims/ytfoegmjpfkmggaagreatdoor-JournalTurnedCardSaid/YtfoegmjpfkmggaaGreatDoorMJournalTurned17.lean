/- The slots of a journal of which something is so: the iterator, where it is so of just one. Conditions: the journal is known. -/
import Derived.Test.YtfoegmjpfkmggaaGreatDoorMJournalTurned16
import Derived.Shelf.Abstract
namespace Go.Proofs.YtfoegmjpfkmggaaGreatDoor
open Go.RowKit
attribute [local go_sem] Oper.semAt_some
theorem sizeSt16 : (Tryz.prog.info? 45).map (·.size) = some 64 := by kernel_rfl
set_option maxHeartbeats 1000000 in
theorem slotsf_any (gj f : Nat) (cp : Array Value) (w : World) : Calls Tryz.prog 71 #[.pointer (some ⟨gj, 0, none⟩), .func (.func f) #[] cp] w fun e w' =>
    e = .returned (.func (.func 115) #[] #[.pointer (some ⟨w.heap.size, 0, none⟩), .pointer (some ⟨w.heap.size + 1, 0, none⟩)]) ∧ w' = (w.alloc (.cells #[.pointer (some ⟨gj, 0, none⟩)] 26)).alloc (.cells #[.func (.func f) #[] cp] 135) := by
  go_enter Tryz.func71, Tryz.ntmps71
  go_wp2
  go_ret
  exact ⟨rfl, rfl⟩
theorem slcs_take {l : List SlT} {m : Nat} (h : m < l.length) : List.take 4 (List.drop (m * 4) (slcs l)) = slc (jst l m) := by
  apply List.ext_getElem?
  intro j
  rw [List.getElem?_take]
  by_cases hj : j < 4
  · rw [if_pos hj, List.getElem?_drop, Nat.mul_comm, slcs_at l m j hj h, jst_at h]
  · rw [if_neg hj, List.getElem?_eq_none (by simp [slc]; omega)]
theorem run_index_st (l : List SlT) (hl : l.length = 16) (m : Nat) (hm : m < 16) (w : World) : (Instr.index 45 (.agg (slcs l).toArray) (.int .i64 (m : Int))).run Tryz.prog w = .ok (.agg (slc (jst l m)).toArray) w := by
  have hu := Tryz.underlying45
  have hu2 := Tryz.underlying44
  obtain ⟨i, hi, hs⟩ : ∃ i, Tryz.prog.info? 44 = some i ∧ i.size = 4 := by
    have h := sizeSt
    cases h2 : Tryz.prog.info? 44 with
    | none => rw [h2] at h; cases h
    | some i => rw [h2] at h; exact ⟨i, rfl, by simpa using h⟩
  unfold Instr.index
  simp [asIntOf, run_underlying hu, part, sizeOf, typeInfo, hm, go_sem, hi, hs, slcs_take (l := l) (m := m) (by omega)]
/-- What the iterator needs. -/
structure SlAt (W : World) (bj bs xb gj : Nat) (p : Pl) (L : List UInt8) (l : List SlT) (op : Int) : Prop where
  j : Blk W bj 26 #[.pointer (some ⟨gj, 0, none⟩)]
  s : Blk W bs 135 #[.func (.func 70) #[] #[.pointer (some ⟨xb, 0, none⟩)]]
  x : Blk W xb 3 #[.int .i64 op]
  jr : JR W gj p L l
set_option maxRecDepth 100000 in
set_option maxHeartbeats 2000000 in
theorem cut_row (n : Nat) (hn : 1 ≤ n) (k : Nat) (hk : k < 16) {bj bs xb gj : Nat} {p : Pl} {L : List UInt8} {l : List SlT} {op : Int} (hone : ∀ i, i < 16 → decide (op < (jst l i).2.1) = decide (i = k)) (I : Nat → World → Prop) (hI : ∀ j W, I j W → SlAt W bj bs xb gj p L l op) :
    RowOf Fence.wide n Tryz.prog 115 #[.pointer (some ⟨bj, 0, none⟩), .pointer (some ⟨bs, 0, none⟩)] (fun _ => #[.int .i64 (k : Int), .agg (slc (jst l k)).toArray]) I 1 := by
  intro y J Jx W hJI hJb hJxb hY hJ0
  refine callsIn_of_wp Tryz.func115 rfl trivial ?_ rfl
  simp only [Tryz.ntmps115, List.size_toArray, List.length_cons, List.length_nil, Nat.reduceAdd, Nat.reduceSub, Array.replicate_succ, Array.replicate_zero, List.push_toArray, List.append_toArray, List.nil_append, List.cons_append]
  have hS := hI 0 W (hJI 0 W hJ0)
  have c0 := hS.j.at_ 0 (v := .pointer (some ⟨gj, 0, none⟩)) rfl
  have hrg : W.rangeAt gj 1 (slcs l) := Blk.range hS.jr.jb 1 _ (fun j v hv => by unfold jc; rw [List.getElem?_toArray, Nat.add_comm, List.getElem?_cons_succ]; exact hv)
  have hl64 : (slcs l).length = 64 := by rw [slcs_length, hS.jr.n16]
  have HJ := Lib.hid (And.intro hJ0 (And.intro hrg hl64))
  clear hJ0 hS hrg hl64
  gi_wp2_with (first
    | ((with_reducible show wpListIn _ _ _ _ _ ((⟨some 9, _, _, _, _, _⟩ : Oper) :: _) _ _); refine wpListIn_of (by rfl) ?_; refine wpList_load_mid (o := ⟨some 9, _, _, _, _, _⟩) HJ.out.2.1 (by rfl) _ _ (by rfl) (by rfl) _ Tryz.underlying45 (by rfl) sizeSt16 HJ.out.2.2 ?_; refine ⟨rfl, ?_⟩)
    | fail)
  gi_loopw [10] (fun i wr => ∃ m : Nat, m ≤ 16 ∧ i = .int .i64 (m : Int) ∧ J (if m ≤ k then 0 else 1) wr) (fun i _ => 16 - (intOf i).toNat)
  case atStart => exact ⟨0, Nat.zero_le _, rfl, by rw [if_pos (Nat.zero_le _)]; exact HJ.out.1⟩
  case round =>
    obtain ⟨m, hm, rfl, hJs⟩ := hrel
    by_cases hlt : m < 16
    · have hix := run_index_st l (by have := HJ.out.2.2; rw [slcs_length] at this; omega) m hlt wr
      obtain ⟨s1, s2, s3, s4, hs⟩ : ∃ s1 s2 s3 s4, jst l m = (s1, s2, s3, s4) := ⟨_, _, _, _, rfl⟩
      rw [hs] at hix
      have HJs := Lib.hid (And.intro hJs hs)
      have hon := hone m hlt
      rw [hs] at hon
      dsimp only at hon
      clear hJs hs
      unfold slc at hix
      dsimp only at hix
      have hB3 := (Below.refl wr.heap.size wr).alloc (Nat.le_refl _) (.cells #[.int .i64 s1, .int .i64 s2, .int .i64 s3, .bool s4] 44)
      have hJ3 := hJb _ _ _ HJs.out.1 hB3
      have hS3 := hI _ _ (hJI _ _ hJ3)
      have q5 := Blk.new wr 44 #[.int .i64 s1, .int .i64 s2, .int .i64 s3, .bool s4]
      have q2 := hS3.s.at_ 0 (v := .func (.func 70) #[] #[.pointer (some ⟨xb, 0, none⟩)]) rfl
      have qx := hS3.x.at_ 0 (v := .int .i64 op) rfl
      have H3 := Lib.hid hJ3
      clear hB3 hJ3 hS3 c0
      by_cases hmk : m = k
      · have hon : decide (op < s2) = true := by rw [hon, decide_eq_true hmk]
        have HS := Lib.hid (show jst l k = (s1, s2, s3, s4) by rw [← hmk]; exact HJs.out.2)
        rw [if_pos (by omega)] at H3
        have HMK := Lib.hid hmk
        clear hmk
        gi_wp2_with (first
          | ((with_reducible show wpListIn _ _ _ _ _ ((⟨some 15, _, _, _, _, _⟩ : Oper) :: _) _ _); refine wpListIn_of (by rfl) ?_; refine wpList_load_blk (o := ⟨some 15, _, _, _, _, _⟩) (q5) (by rfl) _ _ (by rfl) (by rfl) _ Tryz.underlying44 (by rfl) (sizeSt) (by rfl) ?_; refine ⟨rfl, ?_⟩)
          | fail)
        refine ⟨trivial, ?_⟩
        refine ((callsIn_wide (n := n - 1)).2 (cut1_any s1 s2 s3 s4 op xb _ qx)).mono ?_
        rintro e w4 ⟨rfl, hb4⟩
        rw [hon]
        have h5 := q5.below hb4 q5.lt
        have hJ4 := Lib.hid (hJb _ _ _ H3.out hb4)
        obtain ⟨fn, tmps, assign, body, hy, hR⟩ := hY 0 w4 hJ4.out (by omega)
        rw [HS.out] at hy
        unfold slc at hy
        dsimp only at hy
        rw [← HMK.out] at hy
        clear hY hb4 q5 q2 qx hix hon
        gi_wp2_with (first
          | ((with_reducible show wpListIn _ _ _ _ _ ((⟨some 20, _, _, _, _, _⟩ : Oper) :: _) _ _); refine wpListIn_of (by rfl) ?_; refine wpList_want (by rfl) ?_; refine wpList_load_blk (o := ⟨some 20, _, _, _, _, _⟩) (h5) (by rfl) _ _ (by rfl) (by rfl) _ Tryz.underlying44 (by rfl) (sizeSt) (by rfl) ?_; refine ⟨rfl, ?_⟩)
          | fail)
        refine hR.mono ?_
        clear hR hy
        rintro e W3 (⟨rfl, hJ3⟩ | ⟨rfl, hJx3⟩)
        · have HJ3 := Lib.hid hJ3
          clear hJ3
          gi_wp2
          go_roundw
          case rel => exact ⟨m + 1, by omega, by go_num, by rw [if_neg (by have := HMK.out; omega)]; exact HJ3.out⟩
          case measure => simp [intOf]; omega
        · have HJ3 := Lib.hid hJx3
          clear hJx3
          gi_wp2
          refine bodyPost_ret (results_none rfl _ _ _) rfl ?_
          exact ⟨⟨_, rfl⟩, .inr HJ3.out⟩
      · have hon : decide (op < s2) = false := by rw [hon, decide_eq_false hmk]
        gi_wp2_with (first
          | ((with_reducible show wpListIn _ _ _ _ _ ((⟨some 15, _, _, _, _, _⟩ : Oper) :: _) _ _); refine wpListIn_of (by rfl) ?_; refine wpList_load_blk (o := ⟨some 15, _, _, _, _, _⟩) (q5) (by rfl) _ _ (by rfl) (by rfl) _ Tryz.underlying44 (by rfl) (sizeSt) (by rfl) ?_; refine ⟨rfl, ?_⟩)
          | fail)
        refine ⟨trivial, ?_⟩
        refine ((callsIn_wide (n := n - 1)).2 (cut1_any s1 s2 s3 s4 op xb _ qx)).mono ?_
        rintro e w4 ⟨rfl, hb4⟩
        rw [hon]
        have hJ4 := Lib.hid (hJb _ _ _ H3.out hb4)
        have HMK := Lib.hid hmk
        clear hY hb4 q5 q2 qx hix hon hmk
        gi_wp2
        refine ⟨fun f h => (by cases h), ?_⟩
        gi_wp2
        go_roundw
        case rel => exact ⟨m + 1, by omega, by go_num, by rw [show (if m + 1 ≤ k then 0 else 1) = (if m ≤ k then 0 else 1) by have := HMK.out; split <;> split <;> first | rfl | omega]; exact hJ4.out⟩
        case measure => simp [intOf]; omega
    · obtain rfl : m = 16 := by omega
      rw [if_neg (by omega)] at hJs
      gi_wp2
      go_end0
      exact ⟨⟨_, rfl⟩, .inl hJs⟩
end Go.Proofs.YtfoegmjpfkmggaaGreatDoor

/- A disk keeps where only what is no cells and came later is written. Plain facts. No condition. -/
namespace Go.Proofs.YtfoegmjpfkmggaaGreatDoor
open Go.RowKit
theorem DkOk.keptW {W W' : World} {p : Pl} {gf : Option Nat} {d : Dsk} {f : Option Fus} {B : Nat} (h : DkOk W p gf d f) (k : Kept B W W') (hB : p.gm < B) : DkOk W' p gf d f := by
  refine ⟨?_, ?_, h.ok⟩
  · obtain ⟨es, c, ⟨h1, h2, h3⟩, h4⟩ := h.dr
    exact ⟨es, c, ⟨h1.keptW k, h2.keptW k, h3.keptW k hB⟩, h4⟩
  · cases gf with
    | none => obtain e := h.fr.none_; subst e; exact trivial
    | some g =>
      obtain ⟨x, rfl, hx⟩ := h.fr.has
      exact (show FuseB W' g x.left x.gone from Blk.keptW (hx : Blk W g _ _) k)
end Go.Proofs.YtfoegmjpfkmggaaGreatDoor

/- A region that draws its order, with calls, by a plan, in the round of a loop over a function. Plain facts over any program. No condition. -/
namespace Go
def Op.noDeferB : Op → Bool
  | .defer _ => false
  | _ => true
section
variable {P : Program} {ops : Array Oper} {md : Region.Mode} {l n : Nat}
theorem calls_round {f : FuncId} {args : Array Value} {w : World} {R : Ending → World → Prop} (h : Calls P f args w R) : CallsIn (Fence.wide.inRound l) n P f args w R := (callsIn_wide.2 h).inRound l
theorem rows_round {row : String} {args : Array Value} {w : World} {R : Value → World → Prop} (h : Rows P row args w R) : RowsIn (Fence.wide.inRound l) n P row args w R := fun c cs _ => by
  obtain ⟨v, w', r, s⟩ := h c cs
  exact ⟨v, w', r, stepsIn_wide.2 s⟩
/-- An operation of a list, inside a round, is carried out as outside. -/
theorem wpListIn_round {o : Oper} {rest : List Oper} {a : Act} {w : World} {Q : Exit → Act → World → Prop} (hd : o.op.noDeferB = true) (h : wpList P ops (fun e a' w' => e = .normal ∧ wpListIn (Fence.wide.inRound l) n P ops Q rest a' w') [o] a w) : wpListIn (Fence.wide.inRound l) n P ops Q (o :: rest) a w := by
  simp only [wpList] at h
  simp only [wpListIn]
  split
  · rename_i hw
    rw [if_pos hw] at h
    have h1 := h.resolve_right fun hh => by obtain ⟨_, _, hq⟩ := hh.2; cases hq.1
    clear h
    unfold Oper.wp at h1
    refine ⟨fun _ _ => trivial, ?_⟩
    rw [Oper.semAt_eq _ _ _ fun c hc => by rw [hc] at hd; cases hd]
    generalize (execOp a.eval o).run P w = r at h1
    cases r with
    | ok x w' =>
      cases x <;> first | exact h1.2 | exact h1.elim | skip
      case enter f args =>
        refine ⟨fun hh => ?_, ?_⟩
        · simp [Fence.wide, Fence.inRound] at hh
        · refine (calls_round h1).mono fun e w'' he => ?_
          cases e with
          | returned v => exact he.2
          | panicked c => cases he.1
          | outgrown =>
            obtain ⟨_, _, hq⟩ := he
            cases hq.1
      case row row args =>
        refine ⟨fun hh => ?_, ?_⟩
        · simp [Fence.wide, Fence.inRound] at hh
        · exact RowsIn.mono (rows_round h1) fun v w'' he => he.2
    | halt x w' =>
      cases x <;> first | exact absurd h1.1 (by simp) | exact h1.elim
  · rename_i hw
    rw [if_neg hw] at h
    exact ⟨fun _ _ => trivial, h.2⟩
end
end Go

/- Cut, where one slot is above the op. Conditions: the journal is known. (Printed by gen/jx.py.) -/
namespace Go.Proofs.YtfoegmjpfkmggaaGreatDoor
open Go.RowKit
attribute [local go_sem] Oper.semAt_some
theorem results_tmp1 {P : Program} {fn : Func} {p : Tmp} (h : fn.results = #[.tmp p]) (tmps : Array Value) (w : World) : (results fn tmps).run P w = .ok (tmps.getD p undef) w := by simp [results, h]
theorem infoInt : (Tryz.prog.info? 3).map (fun i => (i.zero, i.size, i.bytes)) = some (some (.int .i64 0), 1, 8) := by kernel_rfl
theorem infoFn0 : (Tryz.prog.info? 93).map (fun i => (i.zero, i.size, i.bytes)) = some (some .nilFunc, 1, 8) := by kernel_rfl
theorem JR.keptW {B : Nat} {w w' : World} {gj : Nat} {p : Pl} {L : List UInt8} {l : List SlT} (h : JR w gj p L l) (k : Kept B w w') (hB : p.gm < B) : JR w' gj p L l := by
  obtain ⟨⟨d, h1, h2⟩, hb, hn⟩ := h
  exact ⟨⟨d, h1.keptW k hB, h2⟩, hb.keptW k, hn⟩
theorem OwnsC.keptJ {e : TypeId} {size base n B : Nat} {w w' : World} {v : Value} {xs sp : List Value} (h : OwnsC e size w base v n xs sp) (k : Kept B w w') : OwnsC e size w' base v n xs sp := by
  rcases h with h | ⟨g, cap, rfl, hb, hgg, rest⟩
  · exact .inl h
  · exact .inr ⟨g, cap, rfl, hb, hgg.keptW k, rest⟩
/-- What a Cut has laid, and the journal. -/
structure CuSt (w : World) (gj : Nat) (p : Pl) (L : List UInt8) (l : List SlT) (op : Int) (v : Value) (W : World) : Prop where
  j : Blk W w.heap.size 26 #[.pointer (some ⟨gj, 0, none⟩)]
  x : Blk W (w.heap.size + 1) 3 #[.int .i64 op]
  wh : Blk W (w.heap.size + 2) 136 #[v]
  bj : Blk W (w.heap.size + 3) 26 #[.pointer (some ⟨gj, 0, none⟩)]
  bs : Blk W (w.heap.size + 4) 135 #[.func (.func 70) #[] #[.pointer (some ⟨w.heap.size + 1, 0, none⟩)]]
  jr : JR W gj p L l
  nr : Near [] w W
def CuWh (w : World) (k i : Nat) (v : Value) (W : World) : Prop := (i = 0 ∧ v = .slice none 0 0) ∨ (i = 1 ∧ ∃ sp, OwnsC 3 1 W (w.heap.size + 5) v 1 [.int .i64 (k : Int)] sp)
def CuI (w : World) (gj : Nat) (p : Pl) (L : List UInt8) (l : List SlT) (op : Int) (k i : Nat) (W : World) : Prop := ∃ v, CuSt w gj p L l op v W ∧ CuWh w k i v W
theorem CuSt.keptW {w : World} {gj : Nat} {p : Pl} {L : List UInt8} {l : List SlT} {op : Int} {v : Value} {W W' : World} {B : Nat} (h : CuSt w gj p L l op v W) (k : Kept B W W') (hB : w.heap.size ≤ B) (hm : p.gm < w.heap.size) : CuSt w gj p L l op v W' :=
  ⟨h.j.keptW k, h.x.keptW k, h.wh.keptW k, h.bj.keptW k, h.bs.keptW k, h.jr.keptW k (by omega), h.nr.keptW k hB⟩
theorem CuWh.keptW {w : World} {k i : Nat} {v : Value} {W W' : World} {B : Nat} (h : CuWh w k i v W) (kk : Kept B W W') : CuWh w k i v W' := by
  rcases h with h | ⟨rfl, sp, ho⟩
  · exact .inl h
  · exact .inr ⟨rfl, sp, OwnsC.keptJ ho kk⟩
theorem callCut2 (args : Array Value) (w : World) : (callFunc 73 args).run Tryz.prog w = .ok (.enter 73 args) w := Tryz.call73 args w
theorem callCut3 (args : Array Value) (w : World) : (callFunc 74 args).run Tryz.prog w = .ok (.enter 74 args) w := Tryz.call74 args w
theorem callFlushC (args : Array Value) (w : World) : (callFunc 36 args).run Tryz.prog w = .ok (.enter 36 args) w := Tryz.call36 args w
/-- The rings behind a Cut of one slot. -/
def jcutL (L Z U : List UInt8) (k : Nat) : List UInt8 := Go.wr (Go.wr L (256 * (8 + k)) U) (256 * (24 + 5 * k)) Z
theorem jcutall {w : World} {jb nb nb2 hb gj g4 k : Nat} {p : Pl} {L U : List UInt8} {A : Option Addr} {c c4 : Nat} {sp : List Value} (hU : U.length = 256) (hc : 256 ≤ c) (h1 : CutK w jb nb gj p k) (h2 : CutK w jb nb2 gj p k) (hob : Blk w hb 39 #[.slice A 256 c]) (hby : Bytes w A U) (hA : ∀ ad, A = some ad → ad.block ∉ p.all none)
    (hoff : hb ∉ p.all none ∧ g4 ∉ p.all none) (hb4 : Blk w g4 93 (([.func (.func 73) #[] #[.pointer (some ⟨jb, 0, none⟩), .pointer (some ⟨nb, 0, none⟩), .pointer (some ⟨hb, 0, none⟩)], .func (.func 36) #[.pointer (some ⟨p.gd, 0, none⟩)] #[],
      .func (.func 74) #[] #[.pointer (some ⟨jb, 0, none⟩), .pointer (some ⟨nb2, 0, none⟩)]] ++ [.func (.func 36) #[.pointer (some ⟨p.gd, 0, none⟩)] #[]] ++ sp : List Value)).toArray) (hd : JD w p L) :
    Calls Tryz.prog 32 #[.slice (some ⟨g4, 0, none⟩) 4 c4] w fun e w' => e = .returned (.int .i64 0) ∧ (∃ Z : List UInt8, Z = List.replicate 1280 0 ∧ JD w' p (jcutL L Z U k)) ∧ Near (p.all none) w w' := by
  refine (jall_any [(73, #[], #[.pointer (some ⟨jb, 0, none⟩), .pointer (some ⟨nb, 0, none⟩), .pointer (some ⟨hb, 0, none⟩)]), (36, #[.pointer (some ⟨p.gd, 0, none⟩)], #[]), (74, #[], #[.pointer (some ⟨jb, 0, none⟩), .pointer (some ⟨nb2, 0, none⟩)]), (36, #[.pointer (some ⟨p.gd, 0, none⟩)], #[])] g4 4 c4
    (fun i w' => (∃ Z : List UInt8, Z = List.replicate 1280 0 ∧ JD w' p (if i = 0 then L else if i ≤ 2 then Go.wr L (256 * (8 + k)) U else jcutL L Z U k)) ∧ Near (p.all none) w w') w rfl (by omega) ?_ ?_ ?_ ⟨⟨_, rfl, hd⟩, Near.refl _ _⟩).mono ?_
  · rintro i w' hi ⟨_, hk⟩
    have hb' := hb4.near hk hoff.2
    have hi4 : i < 4 := hi
    rcases (by omega : i = 0 ∨ i = 1 ∨ i = 2 ∨ i = 3) with rfl | rfl | rfl | rfl <;> exact hb'.at_ _ rfl
  · intro i hi args w'
    have hi4 : i < 4 := hi
    rcases (by omega : i = 0 ∨ i = 1 ∨ i = 2 ∨ i = 3) with rfl | rfl | rfl | rfl
    · exact callCut2 args w'
    · exact callFlushC args w'
    · exact callCut3 args w'
    · exact callFlushC args w'
  · rintro i w' hi ⟨⟨Z, hZ, hd'⟩, hk⟩
    have hi4 : i < 4 := hi
    rcases (by omega : i = 0 ∨ i = 1 ∨ i = 2 ∨ i = 3) with rfl | rfl | rfl | rfl
    · refine (cut2_any A c U hU hc (h1.near hk) (hob.near hk hoff.1) (Bytes.near hby hk hA) hA hoff.1 hd').mono ?_
      rintro e w2 ⟨rfl, h1, h2⟩
      exact ⟨rfl, ⟨Z, hZ, h1⟩, hk.trans h2⟩
    · refine (jdflush hd').mono ?_
      rintro e w2 ⟨rfl, h1, h2⟩
      exact ⟨rfl, ⟨Z, hZ, h1⟩, hk.trans h2⟩
    · refine (cut3_any (h2.near hk) hd').mono ?_
      rintro e w2 ⟨rfl, ⟨Z2, hZ2, h1⟩, h2⟩
      exact ⟨rfl, ⟨Z2, hZ2, h1⟩, hk.trans h2⟩
    · refine (jdflush hd').mono ?_
      rintro e w2 ⟨rfl, h1, h2⟩
      exact ⟨rfl, ⟨Z, hZ, h1⟩, hk.trans h2⟩
  · rintro e w' ⟨rfl, ⟨Z, hZ, h1⟩, h2⟩
    exact ⟨rfl, ⟨Z, hZ, h1⟩, h2⟩
/-- Behind the first loop: the function that writes the header. -/
structure CuR1 (W : World) (jb k : Nat) (v : Value) (wr : World) (S nb hb : Nat) (A : Option Addr) (c : Nat) (sp : List Value) : Prop where
  own : OwnsC 93 1 wr S v 1 [.func (.func 73) #[] #[.pointer (some ⟨jb, 0, none⟩), .pointer (some ⟨nb, 0, none⟩), .pointer (some ⟨hb, 0, none⟩)]] sp
  n : Blk wr nb 3 #[.int .i64 (k : Int)]
  h : Blk wr hb 39 #[.slice A 256 c]
  by_ : Bytes wr A (Hd.bytes (Slot.fU k) [])
  c256 : 256 ≤ c
  low : W.heap.size ≤ nb ∧ W.heap.size ≤ hb ∧ ∀ ad, A = some ad → W.heap.size ≤ ad.block
  top : nb < S ∧ hb < S ∧ ∀ ad, A = some ad → ad.block < S
  s : W.heap.size ≤ S ∧ S ≤ wr.heap.size
  bel : Below W.heap.size W wr
/-- Behind the second loop: and the function that writes noughts. -/
structure CuR2 (W W1 : World) (jb gd k : Nat) (v : Value) (wr : World) (S nb hb nb2 : Nat) (sp : List Value) : Prop where
  own : OwnsC 93 1 wr S v 3 [.func (.func 73) #[] #[.pointer (some ⟨jb, 0, none⟩), .pointer (some ⟨nb, 0, none⟩), .pointer (some ⟨hb, 0, none⟩)], .func (.func 36) #[.pointer (some ⟨gd, 0, none⟩)] #[],
    .func (.func 74) #[] #[.pointer (some ⟨jb, 0, none⟩), .pointer (some ⟨nb2, 0, none⟩)]] sp
  n2 : Blk wr nb2 3 #[.int .i64 (k : Int)]
  low : W.heap.size ≤ nb2
  ne : ∀ g, v.ownBlock = some g → nb2 ≠ g
  bel : Below S W1 wr
set_option maxRecDepth 100000 in
set_option maxHeartbeats 4000000 in
theorem jcut_one {w : World} {gj : Nat} {p : Pl} {L : List UInt8} {l : List SlT} (op : Int) (k : Nat) (hk : k < 16) (hone : ∀ i, i < 16 → decide (op < (jst l i).2.1) = decide (i = k)) (h : JR w gj p L l) :
    Calls Tryz.prog 26 #[.pointer (some ⟨gj, 0, none⟩), .int .i64 op] w fun e w' => e = .returned (.int .i64 0) ∧
      (∃ Z : List UInt8, Z = List.replicate 1280 0 ∧ JR w' gj p (jcutL L Z (Hd.bytes (Slot.fU k) []) k) (l.set k (4, 0, 0, false))) ∧ Near (gj :: p.all none) w w' := by
  have HP := Lib.hid (And.intro h.jd.lt (And.intro h.off (And.intro h.lt (And.intro hk hone))))
  have H0 := Lib.hid h
  have hB2 := ((Below.refl w.heap.size w).alloc (Nat.le_refl _) (.cells #[.pointer (some ⟨gj, 0, none⟩)] 26)).alloc (by simp) (.cells #[.int .i64 op] 3)
  have hu2 := jup_any (h.below hB2)
  clear h hB2 hone
  refine callsIn_wide (n := 3).1 ?_
  refine callsIn_of_wp_marks Tryz.func26 rfl trivial ?_ rfl
  simp only [Tryz.ntmps26, List.size_toArray, List.length_cons, List.length_nil, Nat.reduceAdd, Nat.reduceSub, Array.replicate_succ, Array.replicate_zero, List.push_toArray, List.append_toArray, List.nil_append, List.cons_append]
  refine wpIn_wide.2 ?_
  go_wp2_with fail
  refine hu2.mono ?_
  rintro e w1 ⟨rfl, hw⟩
  obtain rfl := hw.symm
  clear hw hu2
  go_wp2_with fail
  refine (slotsf_any gj 70 #[.pointer (some ⟨w.heap.size + 1, 0, none⟩)] _).mono ?_
  rintro e w' ⟨rfl, rfl⟩
  have hgm : p.gm < w.heap.size := HP.out.1 _ (by simp [Pl.all])
  have hS : CuSt w gj p L l op (.slice none 0 0) (((((w.alloc (.cells #[.pointer (some ⟨gj, 0, none⟩)] 26)).alloc (.cells #[.int .i64 op] 3)).alloc (.cells #[.slice none 0 0] 136)).alloc (.cells #[.pointer (some ⟨gj, 0, none⟩)] 26)).alloc (.cells #[.func (.func 70) #[] #[.pointer (some ⟨w.heap.size + 1, 0, none⟩)]] 135)) := by
    have hbl := (((((Below.refl w.heap.size w).alloc (Nat.le_refl _) (.cells #[.pointer (some ⟨gj, 0, none⟩)] 26)).alloc (by simp) (.cells #[.int .i64 op] 3)).alloc (by simp; omega) (.cells #[.slice none 0 0] 136)).alloc (by simp; omega) (.cells #[.pointer (some ⟨gj, 0, none⟩)] 26)).alloc (by simp; omega) (.cells #[.func (.func 70) #[] #[.pointer (some ⟨w.heap.size + 1, 0, none⟩)]] 135)
    exact ⟨((((Blk.new w _ _).alloc _).alloc _).alloc _).alloc _, (((Blk.new' _ _ _ (by simp)).alloc _).alloc _).alloc _, ((Blk.new' _ _ _ (by simp)).alloc _).alloc _, (Blk.new' _ _ _ (by simp)).alloc _, Blk.new' _ _ _ (by simp), H0.out.below hbl, Near.below hbl⟩
  have hz5 : (((((w.alloc (.cells #[.pointer (some ⟨gj, 0, none⟩)] 26)).alloc (.cells #[.int .i64 op] 3)).alloc (.cells #[.slice none 0 0] 136)).alloc (.cells #[.pointer (some ⟨gj, 0, none⟩)] 26)).alloc (.cells #[.func (.func 70) #[] #[.pointer (some ⟨w.heap.size + 1, 0, none⟩)]] 135)).heap.size = w.heap.size + 5 := by simp
  have eb : (((w.alloc (.cells #[.pointer (some ⟨gj, 0, none⟩)] 26)).alloc (.cells #[.int .i64 op] 3)).alloc (.cells #[.slice none 0 0] 136)).heap.size = w.heap.size + 3 := by simp
  rw [eb]
  simp only [show w.heap.size + 1 + 1 = w.heap.size + 2 from rfl, show w.heap.size + 3 + 1 = w.heap.size + 4 from rfl]
  generalize ((((w.alloc (.cells #[.pointer (some ⟨gj, 0, none⟩)] 26)).alloc (.cells #[.int .i64 op] 3)).alloc (.cells #[.slice none 0 0] 136)).alloc (.cells #[.pointer (some ⟨gj, 0, none⟩)] 26)).alloc (.cells #[.func (.func 70) #[] #[.pointer (some ⟨w.heap.size + 1, 0, none⟩)]] 135) = w5 at hS hz5 ⊢
  have H5 := Lib.hid (And.intro hS (And.intro hz5 hgm))
  clear hS hz5 eb hgm
  go_wp2_with fail
  refine wpIn_wide (n := 3).1 ?_
  refine wpIn_rangeRow rfl (by omega) (gf := 115) (lb := #[.pointer (some ⟨w.heap.size + 3, 0, none⟩), .pointer (some ⟨w.heap.size + 4, 0, none⟩)]) rfl trivial (enters_of Tryz.func115 (by kernel_rfl) rfl)
    (fun _ => #[.int .i64 (k : Int), .agg (slc (jst l k)).toArray]) (fun _ => rfl) 1 (fun i W => CuI w gj p L l op k i W) (fun _ _ => False)
    (fun i W W' h kw => ?hI) (fun c W W' h kw => h.elim) ⟨_, H5.out.1, .inl ⟨rfl, rfl⟩⟩ ?row ?round ?done ?stop
  case hI =>
    obtain ⟨v, h1, h2⟩ := h
    exact ⟨v, h1.keptW kw (by rw [H5.out.2.1]; omega) H5.out.2.2, h2.keptW kw⟩
  case row =>
    refine cut_row 2 (by omega) k HP.out.2.2.2.1 (xb := w.heap.size + 1) (gj := gj) (p := p) (L := L) HP.out.2.2.2.2 _ fun i W h => ?_
    obtain ⟨v, h1, h2⟩ := h
    exact ⟨h1.bj, h1.bs, h1.x, h1.jr⟩
  case stop =>
    rintro D c W hD h
    exact h.elim
  case round =>
    intro y i W hl1 hl2 hI hi
    obtain rfl : i = 0 := by omega
    obtain ⟨v, hv, ⟨-, rfl⟩ | ⟨h0, -⟩⟩ := hI
    case inr => omega
    have HI := Lib.hid hv
    clear hv
    gi_wp2_with fail
    refine ⟨Below.refl _ _, fun W6 hW6 => ?_⟩
    have h6 := HI.out.keptW hW6 (by rw [H5.out.2.1]; omega) H5.out.2.2
    have c7 := h6.wh.at_ 0 (v := .slice none 0 0) rfl
    have hs6 : w.heap.size + 5 ≤ W6.heap.size := by have := hW6.size; have := H5.out.2.1; omega
    have HX := Lib.hid (And.intro h6 hs6)
    clear HI hW6 h6 hs6
    have ha := Lib.hid ((Below.refl W6.heap.size W6).alloc (Nat.le_refl _) (.cells #[.int .i64 (k : Int)] 3))
    gi_wp2_with (first
      | ((with_reducible show wpListIn _ _ _ _ _ ((⟨some 33, _, _, _, _, _⟩ : Oper) :: _) _ _); refine wpListIn_round (by rfl) ?_; refine wpList_append_vals (o := ⟨some 33, _, _, _, _, _⟩) (by rfl) _ _ _ (by rfl) (w.heap.size + 5) 3 (.int .i64 0) 1 8 Tryz.underlying136 infoInt (by rfl) (by omega) (.slice none 0 0) 0 [] [] (by rfl) (OwnsC.nil _ _ _ _) (some ⟨W6.heap.size, 0, none⟩) 1 1 [.int .i64 (k : Int)] (by rfl) (by rfl) (fun _ => ⟨W6.heap.size, 0, rfl, fun j v hv => by rw [(Blk.new W6 3 #[.int .i64 (k : Int)]).cell]; simpa using hv⟩) (by simp [Value.oneCell']) (by simp [maxLen]) (by omega) (by have := HX.out.2; have := ha.out.size; omega) ?_; intro v4 W8 sp4 ho4 hg4 hv4 hn4; refine stopped ?_)
      | fail)
    refine Stopped.mk ?_
    obtain ⟨A4, c4, rfl, -, -, -, -⟩ := OwnsC.reads ho4
    have hb8 := ha.out.trans ((Below.refl W6.heap.size _).grown hg4 (by simp) (fun j hj => by simp [Value.ownBlock] at hj))
    have hk8 := Kept.below (B := w5.heap.size) hb8
    have h8 := HX.out.1.keptW hk8 (by rw [H5.out.2.1]; omega) H5.out.2.2
    have q7 := h8.wh.at_ 0 (v := .slice none 0 0) rfl
    have f7 := h8.wh.frozen 0
    have HY := Lib.hid (And.intro h8 (And.intro ho4 (KeepsFrom.below (B := w5.heap.size) hb8)))
    clear ho4 hg4 hv4 hn4 hb8 hk8 h8 ha
    refine ⟨rfl, ?_⟩
    gi_wp2_with fail
    have hu := (Upd.refl (w.heap.size + 2) W8).set 0 (.slice A4 (0 + 1) c4)
    have hn9 : Near [w.heap.size + 2] W8 (W8.setCell ⟨w.heap.size + 2, 0, none⟩ (.slice A4 (0 + 1) c4)) := Near.upd hu (List.mem_singleton_self _)
    have hx : ∀ x, x < w.heap.size + 2 → x ∉ [w.heap.size + 2] := fun x hx hm => by rw [List.mem_singleton] at hm; omega
    refine ⟨HY.out.2.2.trans (KeepsFrom.near hn9 (fun x hx => by rw [List.mem_singleton.1 hx, H5.out.2.1]; omega)), .slice A4 (0 + 1) c4, ⟨HY.out.1.j.near hn9 (by simp), HY.out.1.x.near hn9 (by simp), (HY.out.1.wh.set_ 0 _).sub rfl, HY.out.1.bj.near hn9 (by simp), HY.out.1.bs.near hn9 (by simp), ?_, HY.out.1.nr.high hn9 (by simp)⟩, .inr ⟨rfl, sp4, OwnsC.nearJ HY.out.2.1 hn9 (fun g hg => by have := (OwnsC.lt HY.out.2.1 g hg).1; simp; omega)⟩⟩
    exact HY.out.1.jr.near' hn9 (by have := HP.out.2.2.1; omega) (fun hm => by have := HP.out.1 _ hm; omega)
  case done =>
    intro D W hD hI hK
    obtain ⟨v, hv, ⟨h0, -⟩ | ⟨-, sp, ho⟩⟩ := hI
    case inl => omega
    rcases ho with ⟨-, h0, -⟩ | ⟨gw, cw, rfl, hgw, hbw, -⟩
    · cases h0
    have HW := Lib.hid (And.intro hv (And.intro hbw (And.intro hgw (And.intro hK (show w.heap.size + 5 ≤ D by rw [← H5.out.2.1]; exact hD)))))
    have c7 := hv.wh.at_ 0 (v := .slice (some ⟨gw, 0, none⟩) 1 cw) rfl
    clear hv hbw hgw hK hD H5
    go_wp2_with fail
    clear c7
    go_loopw [9, 39] (fun v i wr => (i = .int .i64 0 ∧ v = .slice none 0 0 ∧ wr = W) ∨ (i = .int .i64 1 ∧ ∃ S nb hb A c sp, CuR1 W w.heap.size k v wr S nb hb A c sp)) (fun _ i _ => 1 - (intOf i).toNat)
    case atStart => exact .inl ⟨rfl, rfl, rfl⟩
    case round =>
      rcases hrel with ⟨rfl, rfl, rfl⟩ | ⟨rfl, hR⟩
      · have cw0 := HW.out.2.1.at_ 0 (v := .int .i64 (k : Int)) rfl
        go_wp2_with fail
        refine (sunw_any (k : Int) _).mono ?_
        rintro e w3 ⟨E, rfl, hE, hEg, hEn, hEl, hbx⟩
        rw [show Slot.unw (k : Int) = (0, Hd.bytes (Slot.fU (k : Int)) []) by unfold Slot.unw; rw [if_neg (by omega)]] at hEl ⊢
        have hl256 : (Hd.bytes (Slot.fU (k : Int)) []).length = 256 := by rw [Hd.bytes_length]; rfl
        obtain ⟨EA, En, El⟩ := E
        dsimp only at hEl hEn
        rw [← hEl] at hl256
        have HEL := Lib.hid hEl
        clear hEl
        rw [hl256] at hEn
        subst hEn
        have hE3 : Bytes w3 EA El := hE.bytes
        have ha1 := (Below.refl wr.heap.size wr).alloc (Nat.le_refl _) (.cells #[.int .i64 (k : Int)] 3)
        have hn3 := (Blk.new wr 3 #[.int .i64 (k : Int)]).below hbx (by simp)
        have hB3 := ha1.trans (hbx.mono ha1.size)
        have hEA : ∀ ad, EA = some ad → wr.heap.size ≤ ad.block ∧ ad.block < w3.heap.size := fun ad e => ⟨by have := hEg ad.block (by rw [Ent.blk, e]; rfl); simp at this; omega, hE.lt ad.block (by rw [Ent.blk, e]; rfl)⟩
        have ha4 := ((Below.refl w3.heap.size w3).alloc (Nat.le_refl _) (.cells #[.slice EA 256 256] 39)).alloc (by simp) (.cells #[.func (.func 73) #[] #[.pointer (some ⟨w.heap.size, 0, none⟩), .pointer (some ⟨wr.heap.size, 0, none⟩), .pointer (some ⟨w3.heap.size, 0, none⟩)]] 93)
        have hb4 := (Blk.new w3 39 #[.slice EA 256 256]).alloc (.cells #[.func (.func 73) #[] #[.pointer (some ⟨w.heap.size, 0, none⟩), .pointer (some ⟨wr.heap.size, 0, none⟩), .pointer (some ⟨w3.heap.size, 0, none⟩)]] 93)
        have hf4 := Blk.new' (w3.alloc (.cells #[.slice EA 256 256] 39)) 93 #[.func (.func 73) #[] #[.pointer (some ⟨w.heap.size, 0, none⟩), .pointer (some ⟨wr.heap.size, 0, none⟩), .pointer (some ⟨w3.heap.size, 0, none⟩)]] (n := w3.heap.size + 1) (by simp)
        have H4 := Lib.hid (And.intro (hB3.trans (ha4.mono hB3.size)) (And.intro (hn3.below ha4 hn3.lt) (And.intro hb4 (And.intro (Bytes.below hE3 ha4) (And.intro hEA (And.intro hf4 (And.intro (show wr.heap.size ≤ w3.heap.size from Nat.le_trans ha1.size hbx.size) hl256)))))))
        clear hE hEg hbx hE3 ha1 hn3 hB3 hEA ha4 hb4 hf4
        unfold Ent.val
        dsimp only
        rw [hl256]
        clear hl256 cw0
        go_wp2_with (first
          | (((with_reducible show wpList _ _ _ ((⟨some 51, _, _, _, _, _⟩ : Oper) :: _) _ _); skip); refine wpList_append_vals (o := ⟨some 51, _, _, _, _, _⟩) (by rfl) _ _ _ (by rfl) (w3.heap.size + 2) 93 .nilFunc 1 8 Tryz.underlying140 infoFn0 (by rfl) (by omega) (.slice none 0 0) 0 [] [] (by rfl) (OwnsC.nil _ _ _ _) (some ⟨w3.heap.size + 1, 0, none⟩) 1 1 [.func (.func 73) #[] #[.pointer (some ⟨w.heap.size, 0, none⟩), .pointer (some ⟨wr.heap.size, 0, none⟩), .pointer (some ⟨w3.heap.size, 0, none⟩)]] (by rfl) (by rfl) (fun _ => ⟨w3.heap.size + 1, 0, rfl, fun j v hv => by rw [H4.out.2.2.2.2.2.1.cell]; simpa using hv⟩) (by simp [Value.oneCell']) (by simp [maxLen]) (by omega) (by simp) ?_; intro v5 w5 sp5 ho5 hg5 _ _; have hb5 := ((Below.refl _ _).grown hg5 (Nat.le_refl _) (fun j hj => by simp [Value.ownBlock] at hj)); have HX := Lib.hid (And.intro ho5 hb5); clear ho5 hg5 hb5)
          | fail)
        have hs4 : ((w3.alloc (.cells #[.slice EA 256 256] 39)).alloc (.cells #[.func (.func 73) #[] #[.pointer (some ⟨w.heap.size, 0, none⟩), .pointer (some ⟨wr.heap.size, 0, none⟩), .pointer (some ⟨w3.heap.size, 0, none⟩)]] 93)).heap.size = w3.heap.size + 2 := by simp
        have hl3 := H4.out.2.2.2.2.2.2.1
        have hn4 := H4.out.2.1.lt
        have hsx := HX.out.2.size
        refine ⟨.inr ⟨rfl, _, wr.heap.size, w3.heap.size, EA, 256, sp5, ⟨HX.out.1, H4.out.2.1.below HX.out.2 H4.out.2.1.lt, H4.out.2.2.1.below HX.out.2 H4.out.2.2.1.lt, ?_, Nat.le_refl _, ⟨Nat.le_refl _, hl3, fun ad e => (H4.out.2.2.2.2.1 ad e).1⟩, ⟨by omega, by omega, fun ad e => by have := (H4.out.2.2.2.2.1 ad e).2; omega⟩, ⟨by omega, by omega⟩, H4.out.1.trans (HX.out.2.mono H4.out.1.size)⟩⟩, by simp [intOf]⟩
        rw [← HEL.out]
        exact Bytes.below H4.out.2.2.2.1 HX.out.2
      · obtain ⟨S, nb, hb, A, c, sp1, hR⟩ := hR
        have hJ := HW.out.1.jr.near (Near.below hR.bel)
        have hjb := HW.out.1.j.below hR.bel HW.out.1.j.lt
        have hwb := HW.out.1.wh.below hR.bel HW.out.1.wh.lt
        have hgw := HW.out.2.1.below hR.bel HW.out.2.1.lt
        have cj := hjb.at_ 0 (v := .pointer (some ⟨gj, 0, none⟩)) rfl
        have cg := hJ.jb.at_ 0 (jc_0 _ _)
        have c7 := hwb.at_ 0 (v := .slice (some ⟨gw, 0, none⟩) 1 cw) rfl
        obtain ⟨A1, c1, rfl, -, -, -, -⟩ := OwnsC.reads hR.own
        have ha := (Below.refl wr.heap.size wr).alloc (Nat.le_refl _) (.cells #[.func (.func 36) #[.pointer (some ⟨p.gd, 0, none⟩)] #[]] 93)
        have HR := Lib.hid (And.intro hR (And.intro hJ (And.intro hjb (And.intro hwb (And.intro hgw ha)))))
        clear hR hJ hjb hwb hgw ha
        go_wp2_with (first
          | (((with_reducible show wpList _ _ _ ((⟨some 60, _, _, _, _, _⟩ : Oper) :: _) _ _); skip); refine wpList_append_vals (o := ⟨some 60, _, _, _, _, _⟩) (by rfl) _ _ _ (by rfl) S 93 .nilFunc 1 8 Tryz.underlying140 infoFn0 (by rfl) (by omega) (.slice A1 1 c1) 1 _ sp1 (by rfl) (HR.out.1.own.alloc _) (some ⟨wr.heap.size, 0, none⟩) 1 1 [.func (.func 36) #[.pointer (some ⟨p.gd, 0, none⟩)] #[]] (by rfl) (by rfl) (fun _ => ⟨wr.heap.size, 0, rfl, fun j v hv => by rw [(Blk.new wr 93 #[.func (.func 36) #[.pointer (some ⟨p.gd, 0, none⟩)] #[]]).cell]; simpa using hv⟩) (by simp [Value.oneCell']) (by simp [maxLen]) (by omega) (by have := HR.out.1.s.2; have := HR.out.2.2.2.2.2.size; omega) ?_; intro v2 w2 sp2 ho2 hg2 _ _; refine stopped ?_)
          | fail)
        refine Stopped.mk ?_
        have hbS : Below S wr w2 := (HR.out.2.2.2.2.2.mono HR.out.1.s.2).grown hg2 (by have := HR.out.1.s.2; have := HR.out.2.2.2.2.2.size; omega) (fun j hj => (OwnsC.lt HR.out.1.own j hj).1)
        obtain ⟨A2, c2, rfl, -, -, -, -⟩ := OwnsC.reads ho2
        have hWS := HR.out.1.s.1
        have hl1 := HW.out.1.j.lt
        have hl2 := HW.out.1.wh.lt
        have hl3 := HW.out.2.1.lt
        have k1 := HR.out.2.2.1.below hbS (by omega)
        have k2 := HR.out.2.2.2.1.below hbS (by omega)
        have k3 := HR.out.2.2.2.2.1.below hbS (by omega)
        have k4 := HR.out.1.n.below hbS HR.out.1.top.1
        have k5 := HR.out.1.h.below hbS HR.out.1.top.2.1
        have k6 : Bytes w2 A (Hd.bytes (Slot.fU k) []) := fun hn => by
          obtain ⟨b0, o0, e0, hc0⟩ := HR.out.1.by_ hn
          exact ⟨b0, o0, e0, fun j v hv => (hbS.cell (show b0 < S from HR.out.1.top.2.2 _ e0)).trans (hc0 j v hv)⟩
        have hs2 := hbS.size
        have H2 := Lib.hid (And.intro ho2 (And.intro k1 (And.intro k2 (And.intro k3 (And.intro k4 (And.intro k5 (And.intro k6 (And.intro (HR.out.1.bel.trans (hbS.mono hWS)) (show S ≤ w2.heap.size by have := HR.out.1.s.2; omega)))))))))
        have HL := Lib.hid (And.intro HR.out.1.c256 (And.intro HR.out.1.low (And.intro HR.out.1.top hWS)))
        clear ho2 k1 k2 k3 k4 k5 k6 hs2 hg2 hbS HR hWS hl1 hl2 hl3 cj cg c7
        have c7 := H2.out.2.2.1.at_ 0 (v := .slice (some ⟨gw, 0, none⟩) 1 cw) rfl
        go_wp2_with fail
        clear c7
        go_loopw [9, 63] (fun v i wr => (i = .int .i64 0 ∧ v = .slice A2 2 c2 ∧ wr = w2) ∨ (i = .int .i64 1 ∧ ∃ nb2 sp, CuR2 W w2 w.heap.size p.gd k v wr S nb hb nb2 sp)) (fun _ i _ => 1 - (intOf i).toNat)
        case atStart => exact .inl ⟨rfl, rfl, rfl⟩
        case round =>
          rcases hrel with ⟨rfl, rfl, rfl⟩ | ⟨rfl, hR⟩
          · have cw0 := H2.out.2.2.2.1.at_ 0 (v := .int .i64 (k : Int)) rfl
            have hn2 := (Blk.new wr 3 #[.int .i64 (k : Int)]).alloc (.cells #[.func (.func 74) #[] #[.pointer (some ⟨w.heap.size, 0, none⟩), .pointer (some ⟨wr.heap.size, 0, none⟩)]] 93)
            have hf2 := Blk.new' (wr.alloc (.cells #[.int .i64 (k : Int)] 3)) 93 #[.func (.func 74) #[] #[.pointer (some ⟨w.heap.size, 0, none⟩), .pointer (some ⟨wr.heap.size, 0, none⟩)]] (n := wr.heap.size + 1) (by simp)
            have hb2 := ((Below.refl wr.heap.size wr).alloc (Nat.le_refl _) (.cells #[.int .i64 (k : Int)] 3)).alloc (by simp) (.cells #[.func (.func 74) #[] #[.pointer (some ⟨w.heap.size, 0, none⟩), .pointer (some ⟨wr.heap.size, 0, none⟩)]] 93)
            have H3 := Lib.hid (And.intro hn2 (And.intro hf2 hb2))
            clear hn2 hf2 hb2
            go_wp2_with (first
              | (((with_reducible show wpList _ _ _ ((⟨some 70, _, _, _, _, _⟩ : Oper) :: _) _ _); skip); refine wpList_append_vals (o := ⟨some 70, _, _, _, _, _⟩) (by rfl) _ _ _ (by rfl) S 93 .nilFunc 1 8 Tryz.underlying140 infoFn0 (by rfl) (by omega) (.slice A2 2 c2) 2 _ sp2 (by rfl) ((H2.out.1.alloc _).alloc _) (some ⟨wr.heap.size + 1, 0, none⟩) 1 1 [.func (.func 74) #[] #[.pointer (some ⟨w.heap.size, 0, none⟩), .pointer (some ⟨wr.heap.size, 0, none⟩)]] (by rfl) (by rfl) (fun _ => ⟨wr.heap.size + 1, 0, rfl, fun j v hv => by rw [H3.out.2.1.cell]; simpa using hv⟩) (by simp [Value.oneCell']) (by simp [maxLen]) (by omega) (by have := H2.out.2.2.2.2.2.2.2.2; have := H3.out.2.2.size; omega) ?_; intro v3 w3 sp3 ho3 hg3 hv3 _; refine stopped ?_)
              | fail)
            refine Stopped.mk ?_
            obtain ⟨A3, c3, rfl, -, -, -, -⟩ := OwnsC.reads ho3
            have ho2l := OwnsC.lt H2.out.1
            have hn3 : Near (Value.slice A2 2 c2).ownBlock.toList _ w3 := Near.grown hg3 (fun x hx => Option.mem_toList.2 hx)
            have hn5 := H3.out.1.near hn3 (fun hm => by have := (ho2l _ (Option.mem_toList.1 hm)).2; omega)
            have hb3 : Below S wr w3 := (H3.out.2.2.mono H2.out.2.2.2.2.2.2.2.2).grown hg3 (by have := H2.out.2.2.2.2.2.2.2.2; have := H3.out.2.2.size; omega) (fun j hj => (ho2l j hj).1)
            have hne : ∀ g, (Value.slice A3 (2 + 1) c3).ownBlock = some g → wr.heap.size ≠ g := fun g hg => by
              rcases hv3 with e | e
              · rw [hg] at e
                have := (ho2l g e.symm).2; omega
              · rw [hg] at e
                injection e with e
                simp at e; omega
            have HX := Lib.hid (And.intro ho3 (And.intro hn5 (And.intro hb3 hne)))
            clear ho3 hn5 hb3 hne hn3 ho2l hg3 hv3 cw0
            go_wp2_with fail
            refine ⟨?_, by simp [intOf]⟩
            repeat apply Exists.intro
            exact ⟨.inr ⟨rfl, wr.heap.size, sp3, HX.out.1, HX.out.2.1, H2.out.2.2.2.2.2.2.2.1.size, HX.out.2.2.2, HX.out.2.2.1⟩, rfl⟩
          · obtain ⟨nb2, sp3, hR⟩ := hR
            have hWS := HL.out.2.2.2
            have hl1 := HW.out.1.j.lt
            have hl2 := HW.out.1.wh.lt
            have hl3 := HW.out.2.1.lt
            have k1 := H2.out.2.1.below hR.bel (by omega)
            have k2 := H2.out.2.2.1.below hR.bel (by omega)
            have k3 := H2.out.2.2.2.1.below hR.bel (by omega)
            have k4 := H2.out.2.2.2.2.1.below hR.bel HL.out.2.2.1.1
            have k5 := H2.out.2.2.2.2.2.1.below hR.bel HL.out.2.2.1.2.1
            have k6 : Bytes wr A (Hd.bytes (Slot.fU k) []) := fun hn => by
              obtain ⟨b0, o0, e0, hc0⟩ := H2.out.2.2.2.2.2.2.1 hn
              exact ⟨b0, o0, e0, fun j v hv => (hR.bel.cell (show b0 < S from HL.out.2.2.1.2.2 _ e0)).trans (hc0 j v hv)⟩
            have hWw := H2.out.2.2.2.2.2.2.2.1.trans (hR.bel.mono hWS)
            have hJ := HW.out.1.jr.near (Near.below hWw)
            have cj := k1.at_ 0 (v := .pointer (some ⟨gj, 0, none⟩)) rfl
            have cg := hJ.jb.at_ 0 (jc_0 _ _)
            obtain ⟨A3, c3, rfl, -, -, -, -⟩ := OwnsC.reads hR.own
            have hSs : S ≤ wr.heap.size := by have := H2.out.2.2.2.2.2.2.2.2; have := hR.bel.size; omega
            have ha := (Below.refl wr.heap.size wr).alloc (Nat.le_refl _) (.cells #[.func (.func 36) #[.pointer (some ⟨p.gd, 0, none⟩)] #[]] 93)
            have HR := Lib.hid (And.intro hR (And.intro hJ (And.intro k1 (And.intro k2 (And.intro k3 (And.intro k4 (And.intro k5 (And.intro k6 (And.intro hWw (And.intro hSs ha))))))))))
            clear hR hJ k1 k2 k3 k4 k5 k6 hWw hSs ha hWS hl1 hl2 hl3 H2
            go_wp2_with (first
              | (((with_reducible show wpList _ _ _ ((⟨some 79, _, _, _, _, _⟩ : Oper) :: _) _ _); skip); refine wpList_append_vals (o := ⟨some 79, _, _, _, _, _⟩) (by rfl) _ _ _ (by rfl) S 93 .nilFunc 1 8 Tryz.underlying140 infoFn0 (by rfl) (by omega) (.slice A3 3 c3) 3 _ sp3 (by rfl) (HR.out.1.own.alloc _) (some ⟨wr.heap.size, 0, none⟩) 1 1 [.func (.func 36) #[.pointer (some ⟨p.gd, 0, none⟩)] #[]] (by rfl) (by rfl) (fun _ => ⟨wr.heap.size, 0, rfl, fun j v hv => by rw [(Blk.new wr 93 #[.func (.func 36) #[.pointer (some ⟨p.gd, 0, none⟩)] #[]]).cell]; simpa using hv⟩) (by simp [Value.oneCell']) (by simp [maxLen]) (by omega) (by have := HR.out.2.2.2.2.2.2.2.2.2.1; have := HR.out.2.2.2.2.2.2.2.2.2.2.size; omega) ?_; intro v4 w4 sp4 ho4 hg4 _ _; refine stopped ?_)
              | fail)
            refine Stopped.mk ?_
            have hn4 : Near (Value.slice A3 3 c3).ownBlock.toList _ w4 := Near.grown hg4 (fun x hx => Option.mem_toList.2 hx)
            have hbS : Below S wr w4 := (HR.out.2.2.2.2.2.2.2.2.2.2.mono HR.out.2.2.2.2.2.2.2.2.2.1).grown hg4 (by have := HR.out.2.2.2.2.2.2.2.2.2.1; have := HR.out.2.2.2.2.2.2.2.2.2.2.size; omega) (fun j hj => (OwnsC.lt HR.out.1.own j hj).1)
            have hm4 := (HR.out.1.n2.alloc (.cells #[.func (.func 36) #[.pointer (some ⟨p.gd, 0, none⟩)] #[]] 93)).near hn4 (fun hm => HR.out.1.ne _ (Option.mem_toList.1 hm) rfl)
            have hWS := HL.out.2.2.2
            have hl1 := HW.out.1.j.lt
            have hl2 := HW.out.1.wh.lt
            have hl3 := HW.out.2.1.lt
            have k1 := HR.out.2.2.1.below hbS (by omega)
            have k2 := HR.out.2.2.2.1.below hbS (by omega)
            have k3 := HR.out.2.2.2.2.1.below hbS (by omega)
            have k4 := HR.out.2.2.2.2.2.1.below hbS HL.out.2.2.1.1
            have k5 := HR.out.2.2.2.2.2.2.1.below hbS HL.out.2.2.1.2.1
            have k6 : Bytes w4 A (Hd.bytes (Slot.fU k) []) := fun hn => by
              obtain ⟨b0, o0, e0, hc0⟩ := HR.out.2.2.2.2.2.2.2.1 hn
              exact ⟨b0, o0, e0, fun j v hv => (hbS.cell (show b0 < S from HL.out.2.2.1.2.2 _ e0)).trans (hc0 j v hv)⟩
            have hWw := HR.out.2.2.2.2.2.2.2.2.1.trans (hbS.mono hWS)
            have hJ := HW.out.1.jr.near (Near.below hWw)
            have cg := hJ.jb.at_ 0 (jc_0 _ _)
            rcases ho4 with ⟨-, h0, -⟩ | ⟨g4, c4, rfl, hg4', hb4, -⟩
            · cases h0
            have hws := HW.out.1.nr.size
            have hP := HP.out.1
            have hoff : ∀ x, w.heap.size ≤ x → x ∉ p.all none := fun x hx hm => by have := hP x hm; omega
            have hK1 : CutK w4 w.heap.size nb gj p k := ⟨k1, k4, cg, hk, ⟨hoff _ (Nat.le_refl _), hoff _ (by have := HL.out.2.1.1; omega), HP.out.2.1⟩⟩
            have hK2 : CutK w4 w.heap.size nb2 gj p k := ⟨k1, hm4, cg, hk, ⟨hoff _ (Nat.le_refl _), hoff _ (by have := HR.out.1.low; omega), HP.out.2.1⟩⟩
            have H4 := Lib.hid (And.intro hK1 (And.intro hK2 (And.intro k5 (And.intro k6 (And.intro hb4 (And.intro hJ (And.intro (And.intro k1 k2) (And.intro k3 hWw))))))))
            have HO := Lib.hid (And.intro (hoff hb (by have := HL.out.2.1.2.1; omega)) (And.intro (show g4 ∉ p.all none from hoff _ (by omega)) (And.intro (show ∀ ad, A = some ad → ad.block ∉ p.all none from fun ad e => hoff _ (by have := HL.out.2.1.2.2 ad e; omega)) hoff)))
            clear hn4 hbS hm4 k1 k2 k3 k4 k5 k6 hWw hJ cg cj hK1 hK2 hb4 hoff hP hws hWS hl1 hl2 hl3 hg4 hg4'
            go_wp2_with fail
            refine (jcutall (by rw [Hd.bytes_length]; rfl) HL.out.1 H4.out.1 H4.out.2.1 H4.out.2.2.1 H4.out.2.2.2.1 HO.out.2.2.1 ⟨HO.out.1, HO.out.2.1⟩ H4.out.2.2.2.2.1 H4.out.2.2.2.2.2.1.jd).mono ?_
            rintro e w9 ⟨rfl, ⟨Z, hZ, hd9⟩, hn9⟩
            have hj9 := H4.out.2.2.2.2.2.2.1.1.near hn9 (HO.out.2.2.2 _ (Nat.le_refl _))
            have hw9 := H4.out.2.2.2.2.2.2.1.2.near hn9 (HO.out.2.2.2 _ (by omega))
            have hg9 := H4.out.2.2.2.2.2.2.2.1.near hn9 (HO.out.2.2.2 _ (by have := HW.out.2.2.1; omega))
            have hb9 := H4.out.2.2.2.2.2.1.jb.near hn9 HP.out.2.1
            have hnW : Near (p.all none) W w9 := (Near.below H4.out.2.2.2.2.2.2.2.2).trans hn9
            have hK9 : w9.heap[D]? = some (.deferred (some [])) := (hnW.block D (Array.getElem?_eq_some_iff.1 HW.out.2.2.2.1).1 (HO.out.2.2.2 D (by have := HW.out.2.2.2.2; omega))).trans HW.out.2.2.2.1
            have c7 := hw9.at_ 0 (v := .slice (some ⟨gw, 0, none⟩) 1 cw) rfl
            have H9 := Lib.hid (And.intro hZ (And.intro hd9 (And.intro hj9 (And.intro hg9 (And.intro hb9 (And.intro hnW hK9))))))
            clear hZ hd9 hn9 hj9 hw9 hg9 hb9 hnW hK9 H4 HR cg
            go_wp2_with fail
            clear c7
            go_loopw [86] (fun i wr => (i = .int .i64 0 ∧ wr = w9) ∨ (i = .int .i64 1 ∧ JR wr gj p (jcutL L Z (Hd.bytes (Slot.fU k) []) k) (l.set k (4, 0, 0, false)) ∧ Near (gj :: p.all none) W wr ∧ wr.heap[D]? = some (.deferred (some [])))) (fun i _ => 1 - (intOf i).toNat)
            case atStart => exact .inl ⟨rfl, rfl⟩
            case round =>
              rcases hrel with ⟨rfl, rfl⟩ | ⟨rfl, hJ, hn, hK⟩
              · have cw0 := H9.out.2.2.2.1.at_ 0 (v := .int .i64 (k : Int)) rfl
                have cj := H9.out.2.2.1.at_ 0 (v := .pointer (some ⟨gj, 0, none⟩)) rfl
                have hJb := H9.out.2.2.2.2.1
                have hn16 := HW.out.1.jr.n16
                have HN := Lib.hid hn16
                clear hn16
                go_wp2_with (first
                  | ((with_reducible show wpList _ _ _ ((⟨none, _, _, _, _, _⟩ : Oper) :: _) _ _); refine wpList_store_in (o := ⟨none, _, _, _, _, _⟩) hJb (by rfl) _ _ _ (by rfl) (1 + k * 4) (by rfl) #[.int .i64 4, .int .i64 0, .int .i64 0, .bool false] (by rfl) sizeSt (by rfl) (by rw [jc_size, HN.out]; omega) (st_one _ _ _ _) ?_; intro w7 hg7 hu7; refine stopped ?_)
                  | fail)
                refine Stopped.mk ?_
                have hb7 : Blk w7 gj 91 (jc p.gd (l.set k (4, 0, 0, false))) := by
                  rw [← jc_set p.gd l k _ (by rw [HN.out]; exact hk), show 1 + 4 * k = 1 + k * 4 by omega]
                  exact hg7
                have hgj := HP.out.2.1
                have hn7 : Near [gj] wr w7 := Near.upd hu7 (List.mem_singleton_self _)
                have hd7 := H9.out.2.1.near' hn7 (by
                  unfold Pl.all at hgj
                  simp at hgj ⊢
                  exact ⟨fun e => hgj.1 e.symm, fun e => hgj.2.1 e.symm, fun e => hgj.2.2 e.symm⟩)
                have hK7 : w7.heap[D]? = some (.deferred (some [])) := (hn7.block D (Array.getElem?_eq_some_iff.1 H9.out.2.2.2.2.2.2).1 (by have := HP.out.2.2.1; have := HW.out.2.2.2.2; simp; omega)).trans H9.out.2.2.2.2.2.2
                have HE := Lib.hid (And.intro (JR.mk hd7 hb7 (by rw [List.length_set]; exact HN.out)) (And.intro ((H9.out.2.2.2.2.2.1.wider (fun x hx => List.mem_cons_of_mem _ hx)).trans (hn7.wider (fun x hx => by rw [List.mem_singleton.1 hx]; exact List.mem_cons_self ..))) hK7))
                clear hb7 hgj hn7 hd7 hK7 hg7 hu7 hJb cw0 cj
                go_wp2_with fail
                exact ⟨.inr ⟨rfl, HE.out⟩, by simp [intOf]⟩
              · have HE := Lib.hid (And.intro hJ (And.intro hn hK))
                clear hJ hn hK
                go_wp2_with fail
                refine ⟨by simp, .inl ⟨_, _, rfl, run_takeDeferred HE.out.2.2, ?_⟩⟩
                have k1 := mark_kept (B := w.heap.size + 5) HW.out.2.2.2.2 HE.out.2.2
                refine ⟨_, results_tmp1 (by rfl) _ _, ?_⟩
                refine ⟨rfl, ⟨Z, H9.out.1, HE.out.1.keptW k1 (by have := HP.out.1 p.gm (by simp [Pl.all]); omega)⟩, ?_⟩
                exact (((HW.out.1.nr.wider (fun x hx => by cases hx)).trans HE.out.2.1)).keptW k1 (by omega)
end Go.Proofs.YtfoegmjpfkmggaaGreatDoor

/- The chapter's journal with a byte of a prepare turned, and cut: what is answered then. Plain facts. No condition. -/
namespace Go.Proofs.YtfoegmjpfkmggaaGreatDoor
open Go.RowKit
/-! ### A byte that is turned -/
def flp (L : List UInt8) (i : Nat) (m : UInt8) : List UInt8 := L.set i (L.getD i 0 ^^^ m)
theorem flp_length (L : List UInt8) (i : Nat) (m : UInt8) : (flp L i m).length = L.length := List.length_set ..
theorem flp_in {L : List UInt8} {a n i : Nat} (m : UInt8) (hi : i < n) (hl : a + n ≤ L.length) : ((flp L (a + i) m).drop a).take n = flp ((L.drop a).take n) i m := by
  have e : ((L.drop a).take n).getD i 0 = L.getD (a + i) 0 := by rw [List.getD_eq_getElem?_getD, List.getD_eq_getElem?_getD, List.getElem?_take, if_pos hi, List.getElem?_drop]
  unfold flp
  rw [e]
  generalize L.getD (a + i) 0 ^^^ m = v
  apply List.ext_getElem?
  intro j
  rw [List.getElem?_set, List.getElem?_take, List.getElem?_take, List.getElem?_drop, List.getElem?_drop, List.getElem?_set, List.length_take, List.length_drop]
  by_cases hj : j < n
  · rw [if_pos hj, if_pos hj]
    by_cases h1 : i = j
    · subst h1; rw [if_pos rfl, if_pos rfl, if_pos (by omega), if_pos (by omega)]
    · rw [if_neg h1, if_neg (by omega)]
  · rw [if_neg hj, if_neg hj, if_neg (by omega)]
theorem flp_off {L : List UInt8} {a n q : Nat} (m : UInt8) (h : q < a ∨ a + n ≤ q) : ((flp L q m).drop a).take n = (L.drop a).take n := by
  unfold flp
  generalize L.getD q 0 ^^^ m = v
  apply List.ext_getElem?
  intro j
  rw [List.getElem?_take, List.getElem?_drop, List.getElem?_take, List.getElem?_drop, List.getElem?_set]
  by_cases hj : j < n
  · rw [if_pos hj, if_pos hj, if_neg (by omega)]
  · rw [if_neg hj, if_neg hj]
/-! ### The prepare of op 17, view 2, with the byte turned -/
def k0Sum : List UInt8 := [227, 176, 196, 66, 152, 252, 28, 20, 154, 251, 244, 200, 153, 111, 185, 36]
def kRest : List UInt8 := Hd.rest (jm 17 2 0) k0Sum
def kSum : List UInt8 := [115, 83, 183, 243, 137, 173, 124, 59, 131, 231, 114, 178, 188, 7, 216, 36]
def kBad : List UInt8 := [138, 93, 200, 221, 195, 74, 126, 255, 217, 138, 64, 137, 148, 249, 173, 120]
theorem k0Sum_eq : Sha.sum [] = k0Sum := by
  refine ShaN.toNat_inj ?_
  rw [ShaN.sumN_eq [] 1 (by decide +kernel)]
  decide +kernel
theorem kRest_length : kRest.length = 240 := by decide +kernel
theorem kSum_eq : Sha.sum kRest = kSum := by
  refine ShaN.toNat_inj ?_
  rw [ShaN.sumN_eq kRest 4 (by decide +kernel), kRest_length]
  decide +kernel
theorem kBad_eq : Sha.sum (kRest.set 44 1) = kBad := by
  refine ShaN.toNat_inj ?_
  have hl : (kRest.set 44 1).length = 240 := by rw [List.length_set, kRest_length]
  rw [ShaN.sumN_eq (kRest.set 44 1) 4 (by rw [hl]; decide +kernel), hl]
  decide +kernel
theorem jX17_eq : jX 17 2 [] = kSum ++ (kRest ++ List.replicate 1024 0) := by
  have h1 : Hd.bytes (jm 17 2 ([] : List UInt8).length) [] = kSum ++ kRest := by
    unfold Hd.bytes Hd.head
    rw [k0Sum_eq, List.append_nil, show Hd.rest (jm 17 2 ([] : List UInt8).length) k0Sum = kRest from rfl, kSum_eq]
  unfold jX fillN
  rw [h1, List.append_assoc, List.length_append, kRest_length]
  rfl
theorem jX17_turned : (Slot.prep (flp (jX 17 2 []) 60 1) 1).1 = false := by
  have e : flp (jX 17 2 []) 60 1 = kSum ++ (kRest.set 44 1 ++ List.replicate 1024 0) := by
    have hz : (kSum ++ (kRest ++ List.replicate 1024 0)).getD 60 0 = 0 := by
      rw [List.getD_eq_getElem?_getD, List.getElem?_append_right (by decide), List.getElem?_append_left (by rw [kRest_length]; decide)]
      decide +kernel
    unfold flp
    rw [jX17_eq, hz, List.set_append_right _ _ (by decide), List.set_append_left _ _ (by rw [kRest_length]; decide)]
    rfl
  have hl : (kRest.set 44 1).length = 240 := by rw [List.length_set, kRest_length]
  have ht : (kSum ++ (kRest.set 44 1 ++ List.replicate 1024 0)).take 256 = kSum ++ kRest.set 44 1 := by
    rw [← List.append_assoc, List.take_append_of_le_length (by rw [List.length_append, hl]; decide), List.take_of_length_le (by rw [List.length_append, hl]; decide)]
  have hr : (Hd.read (kSum ++ kRest.set 44 1)).1 ≠ 0 := by
    have h1 : (kSum ++ kRest.set 44 1).drop 16 = kRest.set 44 1 := rfl
    have h2 : (kSum ++ kRest.set 44 1).take 16 = kSum := rfl
    have h3 : (kSum ++ kRest.set 44 1).length = 256 := by rw [List.length_append, hl]; rfl
    unfold Hd.read
    rw [if_neg (by rw [h3]; simp), h1, h2, kBad_eq, if_pos (by decide)]
    decide
  unfold Slot.prep
  rw [e, if_neg (by rw [List.length_append, List.length_append, hl, List.length_replicate]; decide), ht, if_pos hr]
  rfl
/-! ### The rings, step by step -/
def jK1 : List UInt8 := jwr (jL0 (Dsk.new 104).L) (jX 17 2 []) 1
def jK2 : List UInt8 := flp jK1 (29 * 256 + 60) 1
def jK3 : List UInt8 := jcutL jK2 (List.replicate 1280 0) (Hd.bytes (Slot.fU 1) []) 1
theorem jK1_len : 26624 ≤ jK1.length := by unfold jK1; rw [jwr_length jL0_len (jX_len jm17_ok) (by omega)]; exact jL0_len
theorem jK2_len : 26624 ≤ jK2.length := by unfold jK2; rw [flp_length]; exact jK1_len
theorem jL0_hd {n : Nat} (hn : n < 16) : jhd (jL0 (Dsk.new 104).L) n = Hd.bytes (Slot.fU n) [] := by
  unfold jL0
  rw [jhd_fmt jD0_len (List.length_replicate ..) (jheads_length 16) hn, jheads_at n 16 hn]
theorem jL0_pr {n : Nat} (hn : n < 16) : jpr (jL0 (Dsk.new 104).L) n = List.replicate 1280 0 := by
  unfold jL0
  rw [jpr_fmt jD0_len (List.length_replicate ..) (jheads_length 16) hn, List.drop_replicate, List.take_replicate, show min 1280 (20480 - 1280 * n) = 1280 by omega]
theorem jK1_pr : jpr jK1 1 = jX 17 2 [] := by unfold jK1; rw [jpr_jwr jL0_len (jX_len jm17_ok) (by omega) (by omega), if_pos rfl]
theorem jK2_pr : jpr jK2 1 = flp (jX 17 2 []) 60 1 := by
  rw [← jK1_pr]
  exact flp_in (a := 256 * (24 + 5 * 1)) (i := 60) 1 (by omega) (by have := jK1_len; omega)
theorem jK2_hd_ne {n : Nat} (hn : n < 16) (h1 : n ≠ 1) : jhd jK2 n = Hd.bytes (Slot.fU n) [] := by
  have e : jhd jK2 n = jhd jK1 n := flp_off 1 (by omega)
  unfold jK1 at e
  rw [e, jhd_jwr jL0_len (jX_len jm17_ok) (by omega) hn, if_neg h1, jL0_hd hn]
theorem jK2_pr_ne {n : Nat} (hn : n < 16) (h1 : n ≠ 1) : jpr jK2 n = List.replicate 1280 0 := by
  have e : jpr jK2 n = jpr jK1 n := flp_off 1 (by omega)
  unfold jK1 at e
  rw [e, jpr_jwr jL0_len (jX_len jm17_ok) (by omega) hn, if_neg h1, jL0_pr hn]
def lK1 : List SlT := l00.set 1 (1, 17, 2, false)
def lK2 : List SlT := lK1.set 1 (3, 17, 2, false)
def lK3 : List SlT := lK2.set 1 (4, 0, 0, false)
theorem jK2_get : jget jK2 lK1 17 = ((13, Hd.none_, []), lK2) := by
  have hg : ¬ jgood jK2 lK1 17 = true := by
    unfold jgood
    rw [show jsl 17 = 1 from rfl, jK2_pr, show (Slot.prep (flp (jX 17 2 []) 60 1) ((1 : Nat) : Int)).1 = false from jX17_turned]
    simp
  unfold jget
  rw [if_neg (by omega), if_neg (by decide +kernel), if_neg (by decide +kernel), if_neg hg]
  rfl
theorem jK3_get (L : List UInt8) : jget L lK3 17 = ((6, Hd.none_, []), lK3) := by
  unfold jget
  rw [if_neg (by omega), if_pos (.inl (by decide +kernel))]
theorem lK2_one : ∀ i, i < 16 → decide (16 < (jst lK2 i).2.1) = decide (i = 1) := by decide +kernel
theorem jK3_open : jopd jK3 16 = List.replicate 16 (4, 0, 0, false) := by
  have hU : (Hd.bytes (Slot.fU 1) []).length = 256 := by rw [Hd.bytes_length]; rfl
  have h1 : (wr jK2 (256 * (8 + 1)) (Hd.bytes (Slot.fU 1) [])).length = jK2.length := wr_length (by have := jK2_len; omega)
  apply List.ext_getElem
  · rw [jopd_length, List.length_replicate]
  · intro i g1 g2
    have hi : i < 16 := by rw [jopd_length] at g1; exact g1
    have e1 : jhd jK3 i = if i = 1 then Hd.bytes (Slot.fU 1) [] else jhd jK2 i := by
      unfold jK3 jcutL
      rw [jhd_wr_pr (by rw [h1]; exact jK2_len) (List.length_replicate ..) (by omega) hi, jhd_wr_hd jK2_len hU (by omega) hi]
    have e2 : jpr jK3 i = if i = 1 then List.replicate 1280 0 else jpr jK2 i := by
      unfold jK3 jcutL
      rw [jpr_wr_pr (by rw [h1]; exact jK2_len) (List.length_replicate ..) (by omega) hi, jpr_wr_hd jK2_len hU (by omega)]
    rw [jopd_at, if_pos hi, List.getElem_replicate, e1, e2]
    by_cases e : i = 1
    · subst e
      rw [if_pos rfl, if_pos rfl]
      exact jp_judge_empty 1 (by omega)
    · rw [if_neg e, if_neg e, jK2_hd_ne hi e, jK2_pr_ne hi e]
      exact jp_judge_empty i hi
/-- A message that is no prepare. -/
def jo3 : HdF := setF (jm 3 0 0) 0 3
theorem jo3_in : Hd.in_ jo3 := by unfold Hd.in_ jo3 setF jm setF fP; simp
theorem jo3_bytes : Slot.bytes jo3 [] = (2, []) := by
  have h1 : Hd.ok (setF jo3 2 ([] : List UInt8).length) = true := by decide +kernel
  have hs : Msg.seal_ jo3 [] = (0, Hd.bytes (setF jo3 2 ([] : List UInt8).length) []) := by
    unfold Msg.seal_
    rw [if_neg (by simp), if_pos h1]
  unfold Slot.bytes
  rw [hs, if_pos rfl, if_neg (by decide +kernel)]
end Go.Proofs.YtfoegmjpfkmggaaGreatDoor

/- The chapter's examples of journals are answered as it says: the statement, as a call. No condition. (Printed by gen/jz.py.) -/
namespace Go.Proofs.YtfoegmjpfkmggaaGreatDoor
open Go.RowKit
theorem jopen_small {w : World} {p : Pl} {d : Dsk} (h : DkOk w p none d none) (ho : d.out = false) (hN : d.N < 104) : Calls Tryz.prog 14 #[.pointer (some ⟨p.gd, 0, none⟩)] w fun e w' => e = .returned (.tuple #[.pointer none, .int .i64 5]) ∧ w' = w := by
  have hr := jready_up h ho
  rw [if_pos hN] at hr
  clear h ho hN
  go_enter Tryz.func14, Tryz.ntmps14
  go_wp2_with fail
  refine hr.mono ?_
  rintro e w1 ⟨rfl, hw⟩
  obtain rfl := hw.symm
  clear hr hw
  go_wp2
  go_ret2
  exact ⟨rfl, rfl⟩
theorem jK2_t : ((jget jK2 lK1 17).1.1 == 13 && (Hd.beq (jget jK2 lK1 17).1.2.1 zeroHd && decide ((jget jK2 lK1 17).1.2.2 = []))) = true := by
  rw [jK2_get]
  simp [zeroHd_beq]
theorem jK3_t (L : List UInt8) : ((jget L lK3 17).1.1 == 6 && (Hd.beq (jget L lK3 17).1.2.1 zeroHd && decide ((jget L lK3 17).1.2.2 = []))) = true := by
  rw [jK3_get]
  simp [zeroHd_beq]
theorem JD.turned {w w' : World} {gj : Nat} {p : Pl} {L L' : List UInt8} {l : List SlT} (h : JR w gj p L l) (hd : JD w' p L') (k : Near [p.gl] w w') : JR w' gj p L' l :=
  ⟨hd, h.jb.near k (fun hx => h.off (by rw [List.mem_singleton.1 hx]; simp [Pl.all])), h.n16⟩
set_option maxRecDepth 100000 in
set_option maxHeartbeats 4000000 in
theorem jknown_any (w : World) : Calls Tryz.prog 5 #[] w fun e w' => e = .returned (.bool true) ∧ Below w.heap.size w w' := by
  go_enter Tryz.func5, Tryz.ntmps5
  go_wp2_with fail
  refine (jfresh_any w).mono ?_
  rintro e w1 ⟨p, gj, rfl, hJ, hX, hB⟩
  have H1 := Lib.hid (And.intro hJ (And.intro hX hB))
  clear hJ hX hB
  go_wp2_with fail
  refine (new_all 103 (by omega) w1).mono ?_
  rintro e w2 ⟨q, rfl, hd, hge, hb⟩
  have hq : ∀ x ∈ gj :: p.all none, x < w1.heap.size := fun x hx => by
    rcases List.mem_cons.1 hx with rfl | hx
    · exact H1.out.1.lt
    · exact H1.out.1.jd.lt x hx
  have hqX : q.gd ∉ gj :: p.all none ∧ q.gl ∉ gj :: p.all none ∧ q.gm ∉ gj :: p.all none := ⟨fun hx => by have := hq _ hx; omega, fun hx => by have := hq _ hx; omega, fun hx => by have := hq _ hx; omega⟩
  have H2 := Lib.hid (And.intro (H1.out.1.below hb) (And.intro hd (And.intro hqX (And.intro (Near.below (X := gj :: p.all none) hb) (show w1.heap.size ≤ w2.heap.size from hb.size)))))
  clear hd hge hb hq hqX
  go_wp2_with fail
  refine (jawake_any w2).mono ?_
  rintro e w3 ⟨rfl, hb⟩
  have H3 := Lib.hid (And.intro (H2.out.1.below hb) (And.intro (H2.out.2.1.near (Near.below (X := []) hb) ⟨by simp, by simp, by simp⟩) (H2.out.2.2.2.1.trans (Near.below hb))))
  clear hb
  go_wp2_with fail
  refine (jprep_any 17 2 [] (by simp) w3).mono ?_
  rintro e w4 ⟨g4, c4, rfl, hg4, -, hc4, hb⟩
  have H4 := Lib.hid (And.intro (H3.out.1.below hb) (And.intro (H3.out.2.1.near (Near.below (X := []) hb) ⟨by simp, by simp, by simp⟩) (And.intro (H3.out.2.2.trans (Near.below hb)) hc4)))
  clear hb hg4 hc4 H3
  go_wp2_with fail
  refine (jputm_any 17 2 [] jm17_ok (some ⟨g4, 0, none⟩) c4 (Reads.nil _ _) H4.out.2.2.2 H4.out.1).mono ?_
  rintro e w5 ⟨rfl, hJ, hn⟩
  have H5 := Lib.hid (And.intro (show JR w5 gj p jK1 lK1 from hJ) (And.intro (H4.out.2.1.near hn H2.out.2.2.1) (H4.out.2.2.1.trans hn)))
  clear hJ hn H4
  go_wp2_with fail
  refine (jopen_small ⟨H5.out.2.1, trivial, Dsk.Ok.new (by omega)⟩ rfl (by show 103 < 104; omega)).mono ?_
  rintro e w5' ⟨rfl, hw⟩
  obtain rfl := hw.symm
  clear hw
  go_wp2_with fail
  refine (jprep_any 3 0 [] (by simp) w5).mono ?_
  rintro e w6 ⟨g6, c6, rfl, hg6, -, hc6, hb⟩
  have H6 := Lib.hid (And.intro (H5.out.1.below hb) (And.intro (H5.out.2.2.trans (Near.below hb)) hc6))
  have hQ := (Blk.new w6 41 #[.int .i64 0, .int .i64 0, .int .i64 0, .int .i64 0, .int .i64 0, .int .i64 0, .int .i64 0, .int .i64 0, .int .i64 0, .int .u64 0, .int .u64 0, .int .i64 0, .int .i64 0, .int .u64 0, .int .i64 0, .int .i64 0, .slice none 0 0]).sub zeroMsg_cells.symm
  have ha := (Below.refl w6.heap.size w6).alloc (Nat.le_refl _) (.cells #[.int .i64 0, .int .i64 0, .int .i64 0, .int .i64 0, .int .i64 0, .int .i64 0, .int .i64 0, .int .i64 0, .int .i64 0, .int .u64 0, .int .u64 0, .int .i64 0, .int .i64 0, .int .u64 0, .int .i64 0, .int .i64 0, .slice none 0 0] 41)
  clear hb hg6 hc6 H5
  go_wp2_with (first
    | ((with_reducible show wpList _ _ _ ((⟨none, _, _, _, _, _⟩ : Oper) :: _) _ _); refine wpList_store_blk (o := ⟨none, _, _, _, _, _⟩) (hQ) (by rfl) _ _ _ (by rfl) (by rfl) (msgc (jm 3 0 0) (.slice (some ⟨g6, 0, none⟩) 0 c6)) (by rfl) (sizeMsg) (msgc_size _ _) (msgc_size _ _) (msgc_one _ _ rfl) ?_; intro w7 h7 hu7; refine stopped ?_)
    | fail)
  refine Stopped.mk ?_
  have hb7 := ha.upd hu7 (Nat.le_refl _)
  have q0 := h7.at_ 0 (v := .int .i64 2) rfl
  have f0 := h7.frozen 0
  have h8 := (h7.set_ 0 (.int .i64 3)).sub (show _ = msgc jo3 (.slice (some ⟨g6, 0, none⟩) 0 c6) from rfl)
  have hu8 := (Upd.refl w6.heap.size w7).set 0 (.int .i64 3)
  have hb8 := hb7.upd hu8 (Nat.le_refl _)
  have H8 := Lib.hid (And.intro h8 hb8)
  clear hQ ha hu7 h7 hb7 h8 hu8 hb8
  go_wp2_with fail
  clear q0 f0
  generalize w7.setCell ⟨w6.heap.size, 0, none⟩ (.int .i64 3) = w8 at H8 ⊢
  refine (jdturn 29 60 1 (by omega) (by omega) (H6.out.1.below H8.out.2).jd).mono ?_
  rintro e w9 ⟨rfl, hd9, hn9⟩
  have hgl : ∀ x ∈ [p.gl], x ∈ gj :: p.all none := fun x hx => by rw [List.mem_singleton.1 hx]; simp [Pl.all]
  have hm9 : w6.heap.size ∉ gj :: p.all none := fun hx => by
    have h1 := H6.out.1.lt
    rcases List.mem_cons.1 hx with e | hx
    · omega
    · have := H6.out.1.jd.lt _ hx; omega
  have H9 := Lib.hid (And.intro (show JR w9 gj p jK2 lK1 from JD.turned (H6.out.1.below H8.out.2) hd9 hn9) (And.intro (H8.out.1.near (hn9.wider hgl) hm9) (And.intro ((H6.out.2.1.trans (Near.below H8.out.2)).trans (hn9.wider hgl)) (And.intro hm9 H6.out.2.2))))
  have q8 := H9.out.2.1
  clear hd9 hn9 hgl hm9 H8 H6
  go_wp2_with (first
    | ((with_reducible show wpList _ _ _ ((⟨some 52, _, _, _, _, _⟩ : Oper) :: _) _ _); refine wpList_want (by rfl) ?_; refine wpList_load_blk (o := ⟨some 52, _, _, _, _, _⟩) (q8) (by rfl) _ _ (by rfl) (by rfl) _ Tryz.underlying41 (by rfl) (sizeMsg) (msgc_size _ _) ?_)
    | fail)
  refine (jput_err jo3 (some ⟨g6, 0, none⟩) 0 c6 [] 2 (by omega) jo3_bytes rfl (Reads.nil _ _) H9.out.2.2.2.2 jo3_in H9.out.1).mono ?_
  rintro e w10 ⟨rfl, hJ, hn⟩
  have H10 := Lib.hid (And.intro hJ (H9.out.2.2.1.trans hn))
  clear hJ hn q8 H9
  go_wp2_with fail
  rw [← zeroMsg_cells]
  refine (jgets_any 17 zeroHd none 0 0 [] 13 rfl (Reads.nil _ _) H10.out.1 (fun ad e => by cases e)).mono ?_
  rintro e w11 ⟨rfl, hJ, hn⟩
  rw [jK2_t]
  have H11 := Lib.hid (And.intro (show JR w11 gj p jK2 lK2 by rw [jK2_get] at hJ; exact hJ) (H10.out.2.trans (hn.wider (fun x hx => by rw [List.mem_singleton.1 hx]; exact List.mem_cons_self ..))))
  clear hJ hn H10
  go_wp2_with fail
  refine (jslots_any H11.out.1).mono ?_
  rintro e w12 ⟨v, rfl, ⟨sp, hs⟩, hb⟩
  obtain ⟨A, c, rfl, hc, hcm, hr, -⟩ := OwnsC.reads hs
  obtain ⟨b, off, rfl, hcell⟩ := hr (by rw [← List.length_pos_iff, slcs_length]; decide +kernel)
  have hrg : w12.rangeAt b (off + 1 * 4) (slc (3, 17, 2, false)) := fun j u hu => by
    have hj : j < 4 := by have := (List.getElem?_eq_some_iff.1 hu).1; simpa [slc] using this
    have h1 : 1 < lK2.length := by decide +kernel
    have := hcell (1 * 4 + j) u (by rw [Nat.mul_comm, slcs_at lK2 1 j hj h1]; exact hu)
    rw [← Nat.add_assoc] at this
    exact this
  have e0 := hrg 0 (.int .i64 3) rfl
  have e1 := hrg 1 (.int .i64 17) rfl
  have e2 := hrg 2 (.int .i64 2) rfl
  have e3 := hrg 3 (.bool false) rfl
  have H12 := Lib.hid (And.intro (H11.out.1.below hb) (H11.out.2.trans (Near.below hb)))
  clear hs hc hcm hr hcell hb hrg H11
  simp only [Nat.one_mul, Nat.add_zero] at e0 e1 e2 e3
  go_wp2_with (first
    | ((with_reducible show wpList _ _ _ ((⟨some 75, _, _, _, _, _⟩ : Oper) :: _) _ _); refine wpList_want (by rfl) ?_; refine wpList_run (o := ⟨some 75, _, _, _, _, _⟩) _ (by rfl) (exec_neq_st _ _ _ _ (by rfl) (3, 17, 2, false) (3, 17, 2, false) (by rfl) (by rfl)) ?_)
    | fail)
  refine (jcut_one 16 1 (by omega) lK2_one H12.out.1).mono ?_
  rintro e w13 ⟨rfl, ⟨Z, rfl, hJ⟩, hn⟩
  have H13 := Lib.hid (And.intro (show JR w13 gj p jK3 lK3 from hJ) (H12.out.2.trans hn))
  clear hJ hn e0 e1 e2 e3 H12
  go_wp2_with fail
  rw [← zeroMsg_cells]
  refine (jgets_any 17 zeroHd none 0 0 [] 6 rfl (Reads.nil _ _) H13.out.1 (fun ad e => by cases e)).mono ?_
  rintro e w14 ⟨rfl, hJ, hn⟩
  rw [jK3_t]
  have H14 := Lib.hid (And.intro (show JR w14 gj p jK3 lK3 by rw [jK3_get] at hJ; exact hJ) (H13.out.2.trans (hn.wider (fun x hx => by rw [List.mem_singleton.1 hx]; exact List.mem_cons_self ..))))
  clear hJ hn H13
  go_wp2_with fail
  refine (jopen_any H14.out.1.jd).mono ?_
  rintro e w15 ⟨gk, rfl, hgk, hJk, hb⟩
  rw [jK3_open] at hJk
  have H15 := Lib.hid (And.intro hJk (H14.out.2.trans (Near.below hb)))
  clear hgk hJk hb H14
  go_wp2_with fail
  refine (jempty_true H15.out.1).mono ?_
  rintro e w16 ⟨rfl, hb⟩
  have HE := Lib.hid (H1.out.2.2.trans ((H15.out.2.trans (Near.below hb)).toBelow (fun x hx => H1.out.2.1 x hx) H1.out.2.2.size))
  clear hb H15
  go_wp2
  go_ret
  exact ⟨rfl, HE.out⟩
end Go.Proofs.YtfoegmjpfkmggaaGreatDoor

/- A place that any number says: what it answers. Condition: the numbers are Go's ints. -/
namespace Go.Proofs.YtfoegmjpfkmggaaGreatDoor
open Go.RowKit
/-- The place below n that x says. -/
def pickN (x n : Int) : Nat := if n < 1 then 0 else (x % n).toNat
theorem pickN_lt (x n : Int) (h : 1 ≤ n) : (pickN x n : Int) < n := by
  unfold pickN
  rw [if_neg (by omega)]
  have h1 := Int.emod_nonneg x (show n ≠ 0 by omega)
  have h2 := Int.emod_lt_of_pos x (show 0 < n by omega)
  omega
set_option maxHeartbeats 400000 in
theorem pick_any (x n : Int) (hn : n ≤ 9223372036854775807) (hn1 : 1 ≤ n) (w : World) :
    Calls Tryz.prog 11 #[.int .i64 x, .int .i64 n] w fun e w' => e = .returned (.int .i64 (pickN x n)) ∧ w' = w := by
  have e1 : (pickN x n : Int) = x % n := by
    unfold pickN; rw [if_neg (by omega)]; have h1 := Int.emod_nonneg x (show n ≠ 0 by omega); omega
  rw [e1]
  clear e1
  have h1 := Int.emod_nonneg x (show n ≠ 0 by omega)
  have h2 := Int.emod_lt_of_pos x (show 0 < n by omega)
  have H1 : x.tmod n = (if 0 ≤ x ∨ x % n = 0 then x % n else x % n - n) := by
    rw [Int.tmod_eq_emod]
    have hd : n ∣ x ↔ x % n = 0 := Int.dvd_iff_emod_eq_zero
    by_cases h0 : 0 ≤ x
    · simp [h0]
    · by_cases h3 : x % n = 0
      · simp [h3, hd]
      · simp [h0, h3, hd]; omega
  obtain ⟨r, hr⟩ : ∃ r, r = x % n := ⟨_, rfl⟩
  rw [← hr] at h1 h2 H1 ⊢
  clear hr
  by_cases hp : 0 ≤ x ∨ r = 0
  · rw [if_pos hp] at H1
    have H := Lib.hid H1
    clear H1 hp
    have hn0 : (n == 0) = false := by rw [beq_eq_false_iff_ne]; omega
    go_enter Tryz.func11, Tryz.ntmps11
    go_wp2
    all_goals have h3 := H.out
    · exfalso; omega
    · go_ret
      exact ⟨ret_int h3, rfl⟩
  · rw [if_neg hp] at H1
    have H := Lib.hid H1
    clear H1 hp
    go_enter Tryz.func11, Tryz.ntmps11
    go_wp2
    all_goals have h3 := H.out
    · go_ret
      exact ⟨ret_int (by rw [h3, IntWalk.wrap64_in _ ⟨by omega, by omega⟩]; omega), rfl⟩
    · exfalso; omega
end Go.Proofs.YtfoegmjpfkmggaaGreatDoor
