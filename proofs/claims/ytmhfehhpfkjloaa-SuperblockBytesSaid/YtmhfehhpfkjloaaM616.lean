/- Two superblocks compared: the kit's SameSuper. Condition: the heads can be read. -/
import Derived.Test.YtmhfehhpfkjloaaM615
import Derived.Laws.StructEq
namespace Go
theorem wpQuiet_run6 {P : Program} {ops : Array Oper} {C : World → Prop} {Q : Act → Prop} {rest : List Oper} {o : Oper} {a : Act} (hgd : o.guard = none) (v : Value) (hr : ∀ w, C w → (execOp a.eval o).run P w = .ok (.value v) w) (h : wpQuiet P ops C Q rest (a.put o.dst v)) : wpQuiet P ops C Q (o :: rest) a := by
  refine wpQuiet_step fun K hK => ?_
  rw [if_pos (by simp [Region.wanted, hgd])]
  refine ⟨v, fun w hw => ?_, hK _ h⟩
  unfold Oper.quietAt
  rw [hr w hw]
  exact ⟨rfl, rfl⟩
end Go
namespace Go.Proofs.Ytmhfehhpfkjloaa
open Go.RowKit
theorem noselRef6 : Try.prog.eqGuardType Try.prog.depth 23 = false := by kernel_rfl
theorem heldRef6 : Try.prog.stoodInHeld 23 = false := by kernel_rfl
set_option maxRecDepth 100000 in
theorem eqRef6 (w : World) (a b c d : Int) : (Op.equalIn 10000 23 (.agg #[.int .i64 a, .int .i64 b]) (.agg #[.int .i64 c, .int .i64 d])).run Try.prog w = .ok ((a == c) && (b == d)) w := by
  have hu : Try.prog.underlying 23 = some (.struct (Try.prog.fieldsOf 23)) := by kernel_rfl
  rw [show (10000 : Nat) = 9999 + 1 from rfl, run_equalIn_struct w 9999 23 _ _ hu heldRef6]
  have e : Try.prog.fieldsOf 23 = (match Try.prog.underlying 23 with | some (.struct fs) => fs | _ => #[]) := rfl
  rw [e, Try.underlying23]
  have ei := Try.underlying3
  simp [Op.eqFields, part, go_sem, ei]
  by_cases h1 : a = c <;> by_cases h2 : b = d <;> simp [h1, h2]
theorem exec_neq_Ref6 {o : Oper} {ac : Act} (w : World) (x y : Operand) (r : TypeId) (ho : o.op = .binOp .neq 23 x y r) (a b c d : Int) (hx : ac.eval x = .agg #[.int .i64 a, .int .i64 b]) (hy : ac.eval y = .agg #[.int .i64 c, .int .i64 d]) :
    (execOp ac.eval o).run Try.prog w = .ok (.value (.bool (!((a == c) && (b == d))))) w := by
  unfold execOp
  simp only [ho, hx, hy, Sem.run_bind, run_eqGuard_agg w .neq 23 x y _ _ noselRef6, Result.andThen_ok, run_neq_struct, eqRef6, Sem.run_pure]
theorem noselHead6 : Try.prog.eqGuardType Try.prog.depth 102 = false := by kernel_rfl
theorem heldHead6 : Try.prog.stoodInHeld 102 = false := by kernel_rfl
set_option maxRecDepth 100000 in
theorem eqHead6 (w : World) (a b c d : Int) : (Op.equalIn 10000 102 (.agg #[.int .i64 a, .int .i64 b]) (.agg #[.int .i64 c, .int .i64 d])).run Try.prog w = .ok ((a == c) && (b == d)) w := by
  have hu : Try.prog.underlying 102 = some (.struct (Try.prog.fieldsOf 102)) := by kernel_rfl
  rw [show (10000 : Nat) = 9999 + 1 from rfl, run_equalIn_struct w 9999 102 _ _ hu heldHead6]
  have e : Try.prog.fieldsOf 102 = (match Try.prog.underlying 102 with | some (.struct fs) => fs | _ => #[]) := rfl
  rw [e, Try.underlying102]
  have ei := Try.underlying3
  simp [Op.eqFields, part, go_sem, ei]
  by_cases h1 : a = c <;> by_cases h2 : b = d <;> simp [h1, h2]
theorem exec_neq_Head6 {o : Oper} {ac : Act} (w : World) (x y : Operand) (r : TypeId) (ho : o.op = .binOp .neq 102 x y r) (a b c d : Int) (hx : ac.eval x = .agg #[.int .i64 a, .int .i64 b]) (hy : ac.eval y = .agg #[.int .i64 c, .int .i64 d]) :
    (execOp ac.eval o).run Try.prog w = .ok (.value (.bool (!((a == c) && (b == d))))) w := by
  unfold execOp
  simp only [ho, hx, hy, Sem.run_bind, run_eqGuard_agg w .neq 102 x y _ _ noselHead6, Result.andThen_ok, run_neq_struct, eqHead6, Sem.run_pure]
theorem range_near {w w' : World} {b off : Nat} {cs : List Value} {X : List Nat} (h : w.rangeAt b off cs) (k : Near X w w') (hn : b ∉ X) : w'.rangeAt b off cs := fun j v hv =>
  (k.cell (p := ⟨b, off + j, none⟩) (World.block_lt_of_cell? w _ (h j v hv)) hn).trans (h j v hv)
/-- Ahead of each head that is compared. -/
def SameHRel (w : World) (hs ks : List (Int × Int)) (v : Value) (wr : World) : Prop := ∃ i : Nat, i ≤ hs.length ∧ v = .int .i64 (i : Int) ∧ hs.take i = ks.take i ∧ Below w.heap.size w wr
theorem sizeRef6 : (Try.prog.info? 23).map (·.size) = some 2 := by kernel_rfl
set_option maxRecDepth 100000 in
set_option maxHeartbeats 8000000 in
theorem sameSuper_vars (x0 x1 x2 x3 x4 x5 x6 x7 x8 y0 y1 y2 y3 y4 y5 y6 y7 y8 : Int) (FE GE : Bool) (A B : Option Addr) (m c n d : Nat) (hs ks : List (Int × Int)) (w : World) (hm : m = hs.length) (hn : n = ks.length) (hl : hs.length ≤ 1000) (hA : Heads w A hs) (hB : Heads w B ks) :
    Calls Try.prog 16 #[.agg #[.int .i64 x0, .int .i64 x1, .int .i64 x2, .int .i64 x3, .int .i64 x4, .int .i64 x5, .int .i64 x6, .int .i64 x7, .int .i64 x8, .bool FE, .slice A m c], .agg #[.int .i64 y0, .int .i64 y1, .int .i64 y2, .int .i64 y3, .int .i64 y4, .int .i64 y5, .int .i64 y6, .int .i64 y7, .int .i64 y8, .bool GE, .slice B n d]] w fun e w' => e = .returned (.bool (decide (x0 = y0 ∧ x1 = y1 ∧ x2 = y2 ∧ x3 = y3 ∧ x4 = y4 ∧ x5 = y5 ∧ x6 = y6 ∧ x7 = y7 ∧ x8 = y8 ∧ FE = GE ∧ hs = ks))) ∧ Below w.heap.size w w' := by
  have HM := Lib.hid (And.intro hm (And.intro hn hl))
  have hm1 : m ≤ 1000 := by omega
  clear hm hn hl
  have hb1 := ((Below.refl w.heap.size w).alloc (Nat.le_refl _) (.cells #[.int .i64 x0, .int .i64 x1, .int .i64 x2, .int .i64 x3, .int .i64 x4, .int .i64 x5, .int .i64 x6, .int .i64 x7, .int .i64 x8, .bool FE, .slice A m c] 26)).alloc (by simp) (.cells #[.int .i64 y0, .int .i64 y1, .int .i64 y2, .int .i64 y3, .int .i64 y4, .int .i64 y5, .int .i64 y6, .int .i64 y7, .int .i64 y8, .bool GE, .slice B n d] 26)
  have hx1 : Blk ((w.alloc (.cells #[.int .i64 x0, .int .i64 x1, .int .i64 x2, .int .i64 x3, .int .i64 x4, .int .i64 x5, .int .i64 x6, .int .i64 x7, .int .i64 x8, .bool FE, .slice A m c] 26)).alloc (.cells #[.int .i64 y0, .int .i64 y1, .int .i64 y2, .int .i64 y3, .int .i64 y4, .int .i64 y5, .int .i64 y6, .int .i64 y7, .int .i64 y8, .bool GE, .slice B n d] 26)) w.heap.size 26 #[.int .i64 x0, .int .i64 x1, .int .i64 x2, .int .i64 x3, .int .i64 x4, .int .i64 x5, .int .i64 x6, .int .i64 x7, .int .i64 x8, .bool FE, .slice A m c] := (Blk.new w _ _).alloc _
  have hy1 : Blk ((w.alloc (.cells #[.int .i64 x0, .int .i64 x1, .int .i64 x2, .int .i64 x3, .int .i64 x4, .int .i64 x5, .int .i64 x6, .int .i64 x7, .int .i64 x8, .bool FE, .slice A m c] 26)).alloc (.cells #[.int .i64 y0, .int .i64 y1, .int .i64 y2, .int .i64 y3, .int .i64 y4, .int .i64 y5, .int .i64 y6, .int .i64 y7, .int .i64 y8, .bool GE, .slice B n d] 26)) (w.heap.size + 1) 26 #[.int .i64 y0, .int .i64 y1, .int .i64 y2, .int .i64 y3, .int .i64 y4, .int .i64 y5, .int .i64 y6, .int .i64 y7, .int .i64 y8, .bool GE, .slice B n d] := Blk.new' _ _ _ (by simp)
  generalize hw1 : (w.alloc (.cells #[.int .i64 x0, .int .i64 x1, .int .i64 x2, .int .i64 x3, .int .i64 x4, .int .i64 x5, .int .i64 x6, .int .i64 x7, .int .i64 x8, .bool FE, .slice A m c] 26)).alloc (.cells #[.int .i64 y0, .int .i64 y1, .int .i64 y2, .int .i64 y3, .int .i64 y4, .int .i64 y5, .int .i64 y6, .int .i64 y7, .int .i64 y8, .bool GE, .slice B n d] 26) = w1 at hb1 hx1 hy1
  have H0 := Lib.hid (And.intro hb1 (And.intro (hA.below hb1) (hB.below hb1)))
  have HC := Lib.hid (And.intro hx1 hy1)
  clear hb1 hx1 hy1 hA hB
  by_cases q0 : m = n
  case neg =>
    rw [show decide (x0 = y0 ∧ x1 = y1 ∧ x2 = y2 ∧ x3 = y3 ∧ x4 = y4 ∧ x5 = y5 ∧ x6 = y6 ∧ x7 = y7 ∧ x8 = y8 ∧ FE = GE ∧ hs = ks) = false from decide_eq_false (fun h => q0 (by rw [HM.out.1, HM.out.2.1, h.2.2.2.2.2.2.2.2.2.2]))]
    have q : ((m : Int) != (n : Int)) = true := by rw [bne_iff_ne]; omega
    (have c10 := HC.out.1.at_ 10 (v := .slice A m c) rfl; have e10 := HC.out.2.at_ 10 (v := .slice B n d) rfl)
    go_enter Try.func16, Try.ntmps16
    go_wp2_with fail
    go_ret
    exact ⟨rfl, H0.out.1⟩
  subst q0
  by_cases q1 : x0 = y0
  case neg =>
    rw [show decide (x0 = y0 ∧ x1 = y1 ∧ x2 = y2 ∧ x3 = y3 ∧ x4 = y4 ∧ x5 = y5 ∧ x6 = y6 ∧ x7 = y7 ∧ x8 = y8 ∧ FE = GE ∧ hs = ks) = false from decide_eq_false (fun h => q1 h.1)]
    have qq : (x0 != y0) = true := by rw [bne_iff_ne]; exact q1
    (have c10 := HC.out.1.at_ 10 (v := .slice A m c) rfl; have e10 := HC.out.2.at_ 10 (v := .slice B m d) rfl; have c0 := HC.out.1.at_ 0 (v := .int .i64 x0) rfl; have e0 := HC.out.2.at_ 0 (v := .int .i64 y0) rfl)
    go_enter Try.func16, Try.ntmps16
    go_wp2_with fail
    go_ret
    exact ⟨rfl, H0.out.1⟩
  subst q1
  by_cases q2 : x1 = y1
  case neg =>
    rw [show decide (x0 = x0 ∧ x1 = y1 ∧ x2 = y2 ∧ x3 = y3 ∧ x4 = y4 ∧ x5 = y5 ∧ x6 = y6 ∧ x7 = y7 ∧ x8 = y8 ∧ FE = GE ∧ hs = ks) = false from decide_eq_false (fun h => q2 h.2.1)]
    have qq : (x1 != y1) = true := by rw [bne_iff_ne]; exact q2
    (have c10 := HC.out.1.at_ 10 (v := .slice A m c) rfl; have e10 := HC.out.2.at_ 10 (v := .slice B m d) rfl; have c0 := HC.out.1.at_ 0 (v := .int .i64 x0) rfl; have e0 := HC.out.2.at_ 0 (v := .int .i64 x0) rfl; have c1 := HC.out.1.at_ 1 (v := .int .i64 x1) rfl; have e1 := HC.out.2.at_ 1 (v := .int .i64 y1) rfl)
    go_enter Try.func16, Try.ntmps16
    go_wp2_with fail
    go_ret
    exact ⟨rfl, H0.out.1⟩
  subst q2
  by_cases q3 : x2 = y2
  case neg =>
    rw [show decide (x0 = x0 ∧ x1 = x1 ∧ x2 = y2 ∧ x3 = y3 ∧ x4 = y4 ∧ x5 = y5 ∧ x6 = y6 ∧ x7 = y7 ∧ x8 = y8 ∧ FE = GE ∧ hs = ks) = false from decide_eq_false (fun h => q3 h.2.2.1)]
    have qq : (x2 != y2) = true := by rw [bne_iff_ne]; exact q3
    (have c10 := HC.out.1.at_ 10 (v := .slice A m c) rfl; have e10 := HC.out.2.at_ 10 (v := .slice B m d) rfl; have c0 := HC.out.1.at_ 0 (v := .int .i64 x0) rfl; have e0 := HC.out.2.at_ 0 (v := .int .i64 x0) rfl; have c1 := HC.out.1.at_ 1 (v := .int .i64 x1) rfl; have e1 := HC.out.2.at_ 1 (v := .int .i64 x1) rfl; have c2 := HC.out.1.at_ 2 (v := .int .i64 x2) rfl; have e2 := HC.out.2.at_ 2 (v := .int .i64 y2) rfl)
    go_enter Try.func16, Try.ntmps16
    go_wp2_with fail
    go_ret
    exact ⟨rfl, H0.out.1⟩
  subst q3
  by_cases q4 : x3 = y3
  case neg =>
    rw [show decide (x0 = x0 ∧ x1 = x1 ∧ x2 = x2 ∧ x3 = y3 ∧ x4 = y4 ∧ x5 = y5 ∧ x6 = y6 ∧ x7 = y7 ∧ x8 = y8 ∧ FE = GE ∧ hs = ks) = false from decide_eq_false (fun h => q4 h.2.2.2.1)]
    have qq : (x3 != y3) = true := by rw [bne_iff_ne]; exact q4
    (have c10 := HC.out.1.at_ 10 (v := .slice A m c) rfl; have e10 := HC.out.2.at_ 10 (v := .slice B m d) rfl; have c0 := HC.out.1.at_ 0 (v := .int .i64 x0) rfl; have e0 := HC.out.2.at_ 0 (v := .int .i64 x0) rfl; have c1 := HC.out.1.at_ 1 (v := .int .i64 x1) rfl; have e1 := HC.out.2.at_ 1 (v := .int .i64 x1) rfl; have c2 := HC.out.1.at_ 2 (v := .int .i64 x2) rfl; have e2 := HC.out.2.at_ 2 (v := .int .i64 x2) rfl; have c3 := HC.out.1.at_ 3 (v := .int .i64 x3) rfl; have e3 := HC.out.2.at_ 3 (v := .int .i64 y3) rfl)
    go_enter Try.func16, Try.ntmps16
    go_wp2_with fail
    go_ret
    exact ⟨rfl, H0.out.1⟩
  subst q4
  by_cases q5 : x4 = y4
  case neg =>
    rw [show decide (x0 = x0 ∧ x1 = x1 ∧ x2 = x2 ∧ x3 = x3 ∧ x4 = y4 ∧ x5 = y5 ∧ x6 = y6 ∧ x7 = y7 ∧ x8 = y8 ∧ FE = GE ∧ hs = ks) = false from decide_eq_false (fun h => q5 h.2.2.2.2.1)]
    have qq : (x4 != y4) = true := by rw [bne_iff_ne]; exact q5
    (have c10 := HC.out.1.at_ 10 (v := .slice A m c) rfl; have e10 := HC.out.2.at_ 10 (v := .slice B m d) rfl; have c0 := HC.out.1.at_ 0 (v := .int .i64 x0) rfl; have e0 := HC.out.2.at_ 0 (v := .int .i64 x0) rfl; have c1 := HC.out.1.at_ 1 (v := .int .i64 x1) rfl; have e1 := HC.out.2.at_ 1 (v := .int .i64 x1) rfl; have c2 := HC.out.1.at_ 2 (v := .int .i64 x2) rfl; have e2 := HC.out.2.at_ 2 (v := .int .i64 x2) rfl; have c3 := HC.out.1.at_ 3 (v := .int .i64 x3) rfl; have e3 := HC.out.2.at_ 3 (v := .int .i64 x3) rfl; have c4 := HC.out.1.at_ 4 (v := .int .i64 x4) rfl; have e4 := HC.out.2.at_ 4 (v := .int .i64 y4) rfl)
    go_enter Try.func16, Try.ntmps16
    go_wp2_with fail
    go_ret
    exact ⟨rfl, H0.out.1⟩
  subst q5
  by_cases q6 : x5 = y5
  case neg =>
    rw [show decide (x0 = x0 ∧ x1 = x1 ∧ x2 = x2 ∧ x3 = x3 ∧ x4 = x4 ∧ x5 = y5 ∧ x6 = y6 ∧ x7 = y7 ∧ x8 = y8 ∧ FE = GE ∧ hs = ks) = false from decide_eq_false (fun h => q6 h.2.2.2.2.2.1)]
    have qq : (x5 != y5) = true := by rw [bne_iff_ne]; exact q6
    (have c10 := HC.out.1.at_ 10 (v := .slice A m c) rfl; have e10 := HC.out.2.at_ 10 (v := .slice B m d) rfl; have c0 := HC.out.1.at_ 0 (v := .int .i64 x0) rfl; have e0 := HC.out.2.at_ 0 (v := .int .i64 x0) rfl; have c1 := HC.out.1.at_ 1 (v := .int .i64 x1) rfl; have e1 := HC.out.2.at_ 1 (v := .int .i64 x1) rfl; have c2 := HC.out.1.at_ 2 (v := .int .i64 x2) rfl; have e2 := HC.out.2.at_ 2 (v := .int .i64 x2) rfl; have c3 := HC.out.1.at_ 3 (v := .int .i64 x3) rfl; have e3 := HC.out.2.at_ 3 (v := .int .i64 x3) rfl; have c4 := HC.out.1.at_ 4 (v := .int .i64 x4) rfl; have e4 := HC.out.2.at_ 4 (v := .int .i64 x4) rfl; have c5 := HC.out.1.at_ 5 (v := .int .i64 x5) rfl; have e5 := HC.out.2.at_ 5 (v := .int .i64 y5) rfl)
    go_enter Try.func16, Try.ntmps16
    go_wp2_with fail
    go_ret
    exact ⟨rfl, H0.out.1⟩
  subst q6
  by_cases q7 : x6 = y6
  case neg =>
    rw [show decide (x0 = x0 ∧ x1 = x1 ∧ x2 = x2 ∧ x3 = x3 ∧ x4 = x4 ∧ x5 = x5 ∧ x6 = y6 ∧ x7 = y7 ∧ x8 = y8 ∧ FE = GE ∧ hs = ks) = false from decide_eq_false (fun h => q7 h.2.2.2.2.2.2.1)]
    have qq : (x6 != y6) = true := by rw [bne_iff_ne]; exact q7
    (have c10 := HC.out.1.at_ 10 (v := .slice A m c) rfl; have e10 := HC.out.2.at_ 10 (v := .slice B m d) rfl; have c0 := HC.out.1.at_ 0 (v := .int .i64 x0) rfl; have e0 := HC.out.2.at_ 0 (v := .int .i64 x0) rfl; have c1 := HC.out.1.at_ 1 (v := .int .i64 x1) rfl; have e1 := HC.out.2.at_ 1 (v := .int .i64 x1) rfl; have c2 := HC.out.1.at_ 2 (v := .int .i64 x2) rfl; have e2 := HC.out.2.at_ 2 (v := .int .i64 x2) rfl; have c3 := HC.out.1.at_ 3 (v := .int .i64 x3) rfl; have e3 := HC.out.2.at_ 3 (v := .int .i64 x3) rfl; have c4 := HC.out.1.at_ 4 (v := .int .i64 x4) rfl; have e4 := HC.out.2.at_ 4 (v := .int .i64 x4) rfl; have c5 := HC.out.1.at_ 5 (v := .int .i64 x5) rfl; have e5 := HC.out.2.at_ 5 (v := .int .i64 x5) rfl; have c6 := HC.out.1.at_ 6 (v := .int .i64 x6) rfl; have e6 := HC.out.2.at_ 6 (v := .int .i64 y6) rfl)
    go_enter Try.func16, Try.ntmps16
    go_wp2_with fail
    go_ret
    exact ⟨rfl, H0.out.1⟩
  subst q7
  by_cases q8 : x7 = y7 ∧ x8 = y8
  case neg =>
    rw [show decide (x0 = x0 ∧ x1 = x1 ∧ x2 = x2 ∧ x3 = x3 ∧ x4 = x4 ∧ x5 = x5 ∧ x6 = x6 ∧ x7 = y7 ∧ x8 = y8 ∧ FE = GE ∧ hs = ks) = false from decide_eq_false (fun h => q8 ⟨h.2.2.2.2.2.2.2.1, h.2.2.2.2.2.2.2.2.1⟩)]
    have qq : (!((x7 == y7) && (x8 == y8))) = true := by
      rw [Bool.not_eq_true', Bool.and_eq_false_iff]
      by_cases q7 : x7 = y7
      · exact .inr (by rw [beq_eq_false_iff_ne]; exact fun e => q8 ⟨q7, e⟩)
      · exact .inl (by rw [beq_eq_false_iff_ne]; exact q7)
    (have c10 := HC.out.1.at_ 10 (v := .slice A m c) rfl; have e10 := HC.out.2.at_ 10 (v := .slice B m d) rfl; have c0 := HC.out.1.at_ 0 (v := .int .i64 x0) rfl; have e0 := HC.out.2.at_ 0 (v := .int .i64 x0) rfl; have c1 := HC.out.1.at_ 1 (v := .int .i64 x1) rfl; have e1 := HC.out.2.at_ 1 (v := .int .i64 x1) rfl; have c2 := HC.out.1.at_ 2 (v := .int .i64 x2) rfl; have e2 := HC.out.2.at_ 2 (v := .int .i64 x2) rfl; have c3 := HC.out.1.at_ 3 (v := .int .i64 x3) rfl; have e3 := HC.out.2.at_ 3 (v := .int .i64 x3) rfl; have c4 := HC.out.1.at_ 4 (v := .int .i64 x4) rfl; have e4 := HC.out.2.at_ 4 (v := .int .i64 x4) rfl; have c5 := HC.out.1.at_ 5 (v := .int .i64 x5) rfl; have e5 := HC.out.2.at_ 5 (v := .int .i64 x5) rfl; have c6 := HC.out.1.at_ 6 (v := .int .i64 x6) rfl; have e6 := HC.out.2.at_ 6 (v := .int .i64 x6) rfl; have c7 := HC.out.1.at_ 7 (v := .int .i64 x7) rfl; have e7 := HC.out.2.at_ 7 (v := .int .i64 y7) rfl; have c8 := HC.out.1.at_ 8 (v := .int .i64 x8) rfl; have e8 := HC.out.2.at_ 8 (v := .int .i64 y8) rfl)
    go_enter Try.func16, Try.ntmps16
    go_wp2_with (first
      | ((with_reducible show wpList _ _ _ ((⟨some 64, _, _, _, _, _⟩ : Oper) :: _) _ _); refine wpList_want (by rfl) ?_; refine wpList_load_mid (o := ⟨some 64, _, _, _, _, _⟩) (range2 (b := w.heap.size) (off := 7) (u := .int .i64 x7) (v := .int .i64 x8) (exact c7) (exact c8)) (by rfl) _ _ (by rfl) (by rfl) _ Try.underlying23 (by rfl) sizeRef6 (by rfl) ?_)
      | ((with_reducible show wpList _ _ _ ((⟨some 66, _, _, _, _, _⟩ : Oper) :: _) _ _); refine wpList_want (by rfl) ?_; refine wpList_load_mid (o := ⟨some 66, _, _, _, _, _⟩) (range2 (b := w.heap.size + 1) (off := 7) (u := .int .i64 y7) (v := .int .i64 y8) (exact e7) (exact e8)) (by rfl) _ _ (by rfl) (by rfl) _ Try.underlying23 (by rfl) sizeRef6 (by rfl) ?_)
      | (((with_reducible show wpList _ _ _ ((⟨some 67, _, _, _, _, _⟩ : Oper) :: _) _ _); skip); refine wpList_want (by rfl) ?_; refine wpList_run (o := ⟨some 67, _, _, _, _, _⟩) _ (by rfl) (exec_neq_Ref6 _ _ _ _ (by rfl) x7 x8 y7 y8 (by rfl) (by rfl)) ?_)
      | fail)
    go_ret
    exact ⟨rfl, H0.out.1⟩
  obtain ⟨q8, q9⟩ := q8
  subst q8
  subst q9
  by_cases q9 : FE = GE
  case neg =>
    rw [show decide (x0 = x0 ∧ x1 = x1 ∧ x2 = x2 ∧ x3 = x3 ∧ x4 = x4 ∧ x5 = x5 ∧ x6 = x6 ∧ x7 = x7 ∧ x8 = x8 ∧ FE = GE ∧ hs = ks) = false from decide_eq_false (fun h => q9 h.2.2.2.2.2.2.2.2.2.1)]
    have qq : (!(FE == GE)) = true := by cases FE <;> cases GE <;> simp_all
    (have c10 := HC.out.1.at_ 10 (v := .slice A m c) rfl; have e10 := HC.out.2.at_ 10 (v := .slice B m d) rfl; have c0 := HC.out.1.at_ 0 (v := .int .i64 x0) rfl; have e0 := HC.out.2.at_ 0 (v := .int .i64 x0) rfl; have c1 := HC.out.1.at_ 1 (v := .int .i64 x1) rfl; have e1 := HC.out.2.at_ 1 (v := .int .i64 x1) rfl; have c2 := HC.out.1.at_ 2 (v := .int .i64 x2) rfl; have e2 := HC.out.2.at_ 2 (v := .int .i64 x2) rfl; have c3 := HC.out.1.at_ 3 (v := .int .i64 x3) rfl; have e3 := HC.out.2.at_ 3 (v := .int .i64 x3) rfl; have c4 := HC.out.1.at_ 4 (v := .int .i64 x4) rfl; have e4 := HC.out.2.at_ 4 (v := .int .i64 x4) rfl; have c5 := HC.out.1.at_ 5 (v := .int .i64 x5) rfl; have e5 := HC.out.2.at_ 5 (v := .int .i64 x5) rfl; have c6 := HC.out.1.at_ 6 (v := .int .i64 x6) rfl; have e6 := HC.out.2.at_ 6 (v := .int .i64 x6) rfl; have c7 := HC.out.1.at_ 7 (v := .int .i64 x7) rfl; have e7 := HC.out.2.at_ 7 (v := .int .i64 x7) rfl; have c8 := HC.out.1.at_ 8 (v := .int .i64 x8) rfl; have e8 := HC.out.2.at_ 8 (v := .int .i64 x8) rfl; have c9 := HC.out.1.at_ 9 (v := .bool FE) rfl; have e9 := HC.out.2.at_ 9 (v := .bool GE) rfl)
    go_enter Try.func16, Try.ntmps16
    go_wp2_with (first
      | ((with_reducible show wpList _ _ _ ((⟨some 64, _, _, _, _, _⟩ : Oper) :: _) _ _); refine wpList_want (by rfl) ?_; refine wpList_load_mid (o := ⟨some 64, _, _, _, _, _⟩) (range2 (b := w.heap.size) (off := 7) (u := .int .i64 x7) (v := .int .i64 x8) (exact c7) (exact c8)) (by rfl) _ _ (by rfl) (by rfl) _ Try.underlying23 (by rfl) sizeRef6 (by rfl) ?_)
      | ((with_reducible show wpList _ _ _ ((⟨some 66, _, _, _, _, _⟩ : Oper) :: _) _ _); refine wpList_want (by rfl) ?_; refine wpList_load_mid (o := ⟨some 66, _, _, _, _, _⟩) (range2 (b := w.heap.size + 1) (off := 7) (u := .int .i64 x7) (v := .int .i64 x8) (exact e7) (exact e8)) (by rfl) _ _ (by rfl) (by rfl) _ Try.underlying23 (by rfl) sizeRef6 (by rfl) ?_)
      | (((with_reducible show wpList _ _ _ ((⟨some 67, _, _, _, _, _⟩ : Oper) :: _) _ _); skip); refine wpList_want (by rfl) ?_; refine wpList_run (o := ⟨some 67, _, _, _, _, _⟩) _ (by rfl) (exec_neq_Ref6 _ _ _ _ (by rfl) x7 x8 x7 x8 (by rfl) (by rfl)) ?_)
      | fail)
    go_ret
    exact ⟨rfl, H0.out.1⟩
  subst q9
  have HP : Hid (decide (x0 = x0 ∧ x1 = x1 ∧ x2 = x2 ∧ x3 = x3 ∧ x4 = x4 ∧ x5 = x5 ∧ x6 = x6 ∧ x7 = x7 ∧ x8 = x8 ∧ FE = FE ∧ hs = ks) = decide (hs = ks)) := Lib.hid (by congr 1; simp)
  rw [HP.out]
  (have c10 := HC.out.1.at_ 10 (v := .slice A m c) rfl; have e10 := HC.out.2.at_ 10 (v := .slice B m d) rfl; have c0 := HC.out.1.at_ 0 (v := .int .i64 x0) rfl; have e0 := HC.out.2.at_ 0 (v := .int .i64 x0) rfl; have c1 := HC.out.1.at_ 1 (v := .int .i64 x1) rfl; have e1 := HC.out.2.at_ 1 (v := .int .i64 x1) rfl; have c2 := HC.out.1.at_ 2 (v := .int .i64 x2) rfl; have e2 := HC.out.2.at_ 2 (v := .int .i64 x2) rfl; have c3 := HC.out.1.at_ 3 (v := .int .i64 x3) rfl; have e3 := HC.out.2.at_ 3 (v := .int .i64 x3) rfl; have c4 := HC.out.1.at_ 4 (v := .int .i64 x4) rfl; have e4 := HC.out.2.at_ 4 (v := .int .i64 x4) rfl; have c5 := HC.out.1.at_ 5 (v := .int .i64 x5) rfl; have e5 := HC.out.2.at_ 5 (v := .int .i64 x5) rfl; have c6 := HC.out.1.at_ 6 (v := .int .i64 x6) rfl; have e6 := HC.out.2.at_ 6 (v := .int .i64 x6) rfl; have c7 := HC.out.1.at_ 7 (v := .int .i64 x7) rfl; have e7 := HC.out.2.at_ 7 (v := .int .i64 x7) rfl; have c8 := HC.out.1.at_ 8 (v := .int .i64 x8) rfl; have e8 := HC.out.2.at_ 8 (v := .int .i64 x8) rfl; have c9 := HC.out.1.at_ 9 (v := .bool FE) rfl; have e9 := HC.out.2.at_ 9 (v := .bool FE) rfl)
  go_enter Try.func16, Try.ntmps16
  go_wp2_with (first
      | ((with_reducible show wpList _ _ _ ((⟨some 64, _, _, _, _, _⟩ : Oper) :: _) _ _); refine wpList_want (by rfl) ?_; refine wpList_load_mid (o := ⟨some 64, _, _, _, _, _⟩) (range2 (b := w.heap.size) (off := 7) (u := .int .i64 x7) (v := .int .i64 x8) (exact c7) (exact c8)) (by rfl) _ _ (by rfl) (by rfl) _ Try.underlying23 (by rfl) sizeRef6 (by rfl) ?_)
      | ((with_reducible show wpList _ _ _ ((⟨some 66, _, _, _, _, _⟩ : Oper) :: _) _ _); refine wpList_want (by rfl) ?_; refine wpList_load_mid (o := ⟨some 66, _, _, _, _, _⟩) (range2 (b := w.heap.size + 1) (off := 7) (u := .int .i64 x7) (v := .int .i64 x8) (exact e7) (exact e8)) (by rfl) _ _ (by rfl) (by rfl) _ Try.underlying23 (by rfl) sizeRef6 (by rfl) ?_)
      | (((with_reducible show wpList _ _ _ ((⟨some 67, _, _, _, _, _⟩ : Oper) :: _) _ _); skip); refine wpList_want (by rfl) ?_; refine wpList_run (o := ⟨some 67, _, _, _, _, _⟩) _ (by rfl) (exec_neq_Ref6 _ _ _ _ (by rfl) x7 x8 x7 x8 (by rfl) (by rfl)) ?_)
      | fail)
  go_loopw [5] (fun v wr => SameHRel w1 hs ks v wr) (fun v _ => m - (intOf v).toNat)
  case atStart => exact ⟨0, Nat.zero_le _, rfl, rfl, Below.refl _ _⟩
  case round =>
    obtain ⟨i, hi, rfl, htk, hBr⟩ := hrel
    have HTK := Lib.hid (And.intro htk hBr)
    have f10 := (HC.out.1.below hBr HC.out.1.lt).at_ 10 (v := .slice A m c) rfl
    have g10 := (HC.out.2.below hBr HC.out.2.lt).at_ 10 (v := .slice B m d) rfl
    have hA1 := H0.out.2.1.below hBr
    have hB1 := H0.out.2.2.below hBr
    clear htk
    have hi : i ≤ m := by rw [HM.out.1]; exact hi
    by_cases hlt : i < m
    · have hih : i < hs.length := by rw [← HM.out.1]; exact hlt
      have hik : i < ks.length := by rw [← HM.out.2.1]; exact hlt
      obtain ⟨b1, o1, rfl, hc1⟩ := hA1 (by rw [← HM.out.1]; omega)
      obtain ⟨b2, o2, rfl, hc2⟩ := hB1 (by rw [← HM.out.2.1]; omega)
      obtain ⟨d1, d2⟩ := hc1 i hih
      obtain ⟨d3, d4⟩ := hc2 i hik
      rw [Nat.mul_comm] at d1 d3
      rw [show o1 + (2 * i + 1) = o1 + i * 2 + 1 by omega] at d2
      rw [show o2 + (2 * i + 1) = o2 + i * 2 + 1 by omega] at d4
      obtain ⟨u1, u2, hu⟩ : ∃ a b, hs[i]'hih = (a, b) := ⟨_, _, rfl⟩
      obtain ⟨v1, v2, hv⟩ : ∃ a b, ks[i]'hik = (a, b) := ⟨_, _, rfl⟩
      rw [hu] at d1 d2
      rw [hv] at d3 d4
      have HX := Lib.hid (And.intro hu hv)
      have HD := Lib.hid (And.intro (show wr.rangeAt b1 (o1 + i * 2) [.int .i64 u1, .int .i64 u2] from range2 d1 d2) (show wr.rangeAt b2 (o2 + i * 2) [.int .i64 v1, .int .i64 v2] from range2 d3 d4))
      have HLB := Lib.hid (And.intro (World.block_lt_of_cell? wr _ d1) (World.block_lt_of_cell? wr _ d3))
      have hib : i < 65536 := by omega
      have HC2 := Lib.hid (And.intro (HC.out.1.below hBr HC.out.1.lt) (HC.out.2.below hBr HC.out.2.lt))
      clear d1 d2 d3 d4 hc1 hc2 hu hv hA1 hB1 hw1 hBr c10 e10 c0 c1 c2 c3 c4 c5 c6 c7 c8 c9 e0 e1 e2 e3 e4 e5 e6 e7 e8 e9
      go_wp2_with fail
      have hC0 := (Near.refl [] wr).drew
      refine wp_region_tree (Near [] wr) [] (PlanT.takes [0, 2, 5, 7] (PlanT.takes [1, 6] (PlanT.takes [3, 8] (PlanT.takes [4, 9] (PlanT.takes [10] .done))))) (by kernel_rfl) (by kernel_rfl) (hC0) ?_
      refine wpTree_pure _ _ _ (by rfl) (by rfl) ?_
      dsimp only [List.filterMap, List.getElem?_cons_zero, List.getElem?_cons_succ]
      repeat (go_big_quiet_step (fail))
      refine wpQuiet_nil ?_
      refine wpTree_takeL _ _ _ (by rfl) (by rfl) (hC0) ?_
      dsimp only [List.filterMap, List.getElem?_cons_zero, List.getElem?_cons_succ]
      (refine wpQuiet_load_cell (fun w' hw' => (Blk.near HC2.out.1 hw' (by simp)).at_ 10 (v := .slice (some ⟨b1, o1, none⟩) m c) rfl) (by rfl) _ _ (by rfl) (by rfl) _ Try.underlying24 (by rfl) ?_; simp only [Act.put, List.setIfInBounds_toArray, List.set_cons_zero, List.set_cons_succ])
      (refine wpQuiet_load_cell (fun w' hw' => (Blk.near HC2.out.2 hw' (by simp)).at_ 10 (v := .slice (some ⟨b2, o2, none⟩) m d) rfl) (by rfl) _ _ (by rfl) (by rfl) _ Try.underlying24 (by rfl) ?_; simp only [Act.put, List.setIfInBounds_toArray, List.set_cons_zero, List.set_cons_succ])
      refine wpQuiet_nil ?_
      refine wpTree_pure _ _ _ (by rfl) (by rfl) ?_
      dsimp only [List.filterMap, List.getElem?_cons_zero, List.getElem?_cons_succ]
      repeat (go_big_quiet_step (fail))
      refine wpQuiet_nil ?_
      refine wpTree_takeL _ _ _ (by rfl) (by rfl) (hC0) ?_
      dsimp only [List.filterMap, List.getElem?_cons_zero, List.getElem?_cons_succ]
      (refine wpQuiet_load_mid (fun w' hw' => range_near HD.out.1 hw' (by simp)) (by rfl) _ _ (by rfl) (by rfl) _ Try.underlying102 (by rfl) (sizeHead) (by rfl) ?_; simp only [Act.put, List.setIfInBounds_toArray, List.set_cons_zero, List.set_cons_succ])
      (refine wpQuiet_load_mid (fun w' hw' => range_near HD.out.2 hw' (by simp)) (by rfl) _ _ (by rfl) (by rfl) _ Try.underlying102 (by rfl) (sizeHead) (by rfl) ?_; simp only [Act.put, List.setIfInBounds_toArray, List.set_cons_zero, List.set_cons_succ])
      refine wpQuiet_nil ?_
      have hb0 : Below w1.heap.size w1 wr.drew := HTK.out.2.drew
      refine wpTree_takeL _ _ _ (by rfl) (by rfl) hC0 ?_
      dsimp only [List.filterMap, List.getElem?_cons_zero, List.getElem?_cons_succ]
      refine wpQuiet_run6 (by rfl) _ (fun w' _ => exec_neq_Head6 w' _ _ _ (by rfl) u1 u2 v1 v2 (by rfl) (by rfl)) ?_
      simp only [Act.put, List.setIfInBounds_toArray, List.set_cons_zero, List.set_cons_succ]
      refine wpQuiet_nil ?_
      refine wpTree_done ?_
      have HB0 := Lib.hid hb0
      clear hb0 hC0 f10 g10
      by_cases he : u1 = v1 ∧ u2 = v2
      · obtain ⟨rfl, rfl⟩ := he
        simp only [beq_self_eq_true, Bool.and_self, Bool.not_true]
        go_wp2
        go_roundw
        case rel =>
          refine ⟨i + 1, by rw [← HM.out.1]; omega, by go_num, ?_, HB0.out⟩
          rw [List.take_succ_eq_append_getElem hih, List.take_succ_eq_append_getElem hik, HTK.out.1, HX.out.1, HX.out.2]
        case measure => simp [intOf]; omega
      · have hne : (!((u1 == v1) && (u2 == v2))) = true := by
          rw [Bool.not_eq_true', Bool.and_eq_false_iff]
          by_cases q : u1 = v1
          · exact .inr (by rw [beq_eq_false_iff_ne]; exact fun e => he ⟨q, e⟩)
          · exact .inl (by rw [beq_eq_false_iff_ne]; exact q)
        have HF : Hid (decide (hs = ks) = false) := Lib.hid (decide_eq_false (fun e => he (by
          have h1 := HX.out.1
          have h2 := HX.out.2
          subst e
          rw [h1] at h2
          exact ⟨congrArg Prod.fst h2, congrArg Prod.snd h2⟩)))
        rw [hne]
        clear hne
        go_wp2
        go_ret
        exact ⟨by rw [HF.out]; rfl, H0.out.1.trans (HB0.out.mono H0.out.1.size)⟩
    · obtain rfl : i = m := by omega
      have HF : Hid (decide (hs = ks) = true) := Lib.hid (decide_eq_true (by
        have h := HTK.out.1
        have h1 := HM.out.1
        have h2 := HM.out.2.1
        rw [List.take_of_length_le (by omega), List.take_of_length_le (by omega)] at h
        exact h))
      clear c10 e10 c0 c1 c2 c3 c4 c5 c6 c7 c8 c9 e0 e1 e2 e3 e4 e5 e6 e7 e8 e9 hA1 hB1 hw1 hBr
      go_wp2
      go_ret
      exact ⟨by rw [HF.out]; rfl, H0.out.1.trans (HTK.out.2.mono H0.out.1.size)⟩
end Go.Proofs.Ytmhfehhpfkjloaa

/- The law's formatted disk, what opens, the chapter's examples that wake. No condition. -/
namespace Go.Proofs.Ytmhfehhpfkjloaa
open Go.RowKit
def Sp.sameB (s t : SpT) : Bool := decide (s.1 0 = t.1 0 ∧ s.1 1 = t.1 1 ∧ s.1 2 = t.1 2 ∧ s.1 3 = t.1 3 ∧ s.1 4 = t.1 4 ∧ s.1 5 = t.1 5 ∧ s.1 6 = t.1 6 ∧ s.1 7 = t.1 7 ∧ s.1 8 = t.1 8 ∧ s.2.1 = t.2.1 ∧ s.2.2 = t.2.2)
theorem Sp.sameB_iff {s t : SpT} : Sp.sameB s t = true ↔ Sp.same s t := by
  unfold Sp.sameB
  rw [decide_eq_true_iff]
  constructor
  · rintro ⟨h0, h1, h2, h3, h4, h5, h6, h7, h8, h9, h10⟩
    refine ⟨fun i hi => ?_, h9, h10⟩
    have : i = 0 ∨ i = 1 ∨ i = 2 ∨ i = 3 ∨ i = 4 ∨ i = 5 ∨ i = 6 ∨ i = 7 ∨ i = 8 := by omega
    rcases this with rfl | rfl | rfl | rfl | rfl | rfl | rfl | rfl | rfl <;> assumption
  · rintro ⟨h, h9, h10⟩
    exact ⟨h 0 (by omega), h 1 (by omega), h 2 (by omega), h 3 (by omega), h 4 (by omega), h 5 (by omega), h 6 (by omega), h 7 (by omega), h 8 (by omega), h9, h10⟩
theorem Sp.same.symm {s t : SpT} (h : Sp.same s t) : Sp.same t s := ⟨fun i hi => (h.1 i hi).symm, h.2.1.symm, h.2.2.symm⟩
theorem Sp.same.trans {s t u : SpT} (h : Sp.same s t) (k : Sp.same t u) : Sp.same s u := ⟨fun i hi => (h.1 i hi).trans (k.1 i hi), h.2.1.trans k.2.1, h.2.2.trans k.2.2⟩
theorem Sp.sameB_congr {s t u v : SpT} (h : Sp.same s t) (k : Sp.same u v) : Sp.sameB s u = Sp.sameB t v := by
  rw [Bool.eq_iff_iff, Sp.sameB_iff, Sp.sameB_iff]
  exact ⟨fun x => (h.symm.trans x).trans k, fun x => (h.trans x).trans k.symm⟩
theorem sameSuper_any (f g : HdF) (fe ge : Bool) (A B : Option Addr) (m c n d : Nat) (hs ks : List (Int × Int)) (w : World) (hm : m = hs.length) (hn : n = ks.length) (hl : hs.length ≤ 1000) (hA : Heads w A hs) (hB : Heads w B ks) :
    Calls Try.prog 16 #[.agg (spc f fe (.slice A m c)), .agg (spc g ge (.slice B n d))] w fun e w' => e = .returned (.bool (Sp.sameB (f, fe, hs) (g, ge, ks))) ∧ Below w.heap.size w w' :=
  sameSuper_vars _ _ _ _ _ _ _ _ _ _ _ _ _ _ _ _ _ _ fe ge A B m c n d hs ks w hm hn hl hA hB
theorem Sp.read_heads (b : List UInt8) : (Sp.read b).2.2.2.length ≤ 32 := by
  rcases Sp.read_cases b with (h | h) | ⟨h, -, h2, -⟩
  · rw [h]; exact Nat.zero_le _
  · rw [h]; exact Nat.zero_le _
  · rw [h]; exact (Sp.ok_spec h2).2.1
theorem Sp.open_heads (d : Dsk) (f : Option Fus) : (Sp.open_ d f).2.2.2.length ≤ 32 := by
  unfold Sp.open_
  split
  · exact Nat.zero_le _
  split
  · rcases Sp.best_picked d.cpys with e | ⟨b, _, e, _⟩
    · rw [e]; exact Nat.zero_le _
    · rw [e]; exact Sp.read_heads b
  · exact Nat.zero_le _
set_option maxRecDepth 100000 in
set_option maxHeartbeats 2000000 in
theorem opens_any (g : HdF) (ge : Bool) (A : Option Addr) (n c : Nat) (ks : List (Int × Int)) (w : World) {p : Pl} {gf : Option Nat} {d : Dsk} {f : Option Fus} (hn : n = ks.length) (hh : Heads w A ks) (h : DkOk w p gf d f) :
    Calls Try.prog 34 #[.pointer (some ⟨p.gd, 0, none⟩), .agg (spc g ge (.slice A n c))] w fun e w' => e = .returned (.bool (decide ((Sp.open_ d f).1 = 0) && Sp.sameB (Sp.open_ d f).2 (g, ge, ks))) ∧ Below w.heap.size w w' := by
  subst hn
  have hz := zeroSuper
  obtain ⟨w0, hw0⟩ : ∃ w0, w0 = w.alloc (.cells (spc g ge (.slice A ks.length c)) 26) := ⟨_, rfl⟩
  have hx : Blk w0 w.heap.size 26 (spc g ge (.slice A ks.length c)) := hw0 ▸ Blk.new w _ _
  have hb0 : Below w.heap.size w w0 := hw0 ▸ (Below.refl w.heap.size w).alloc (Nat.le_refl _) _
  have hop := spOpen_all w0 (h.near (Near.below hb0))
  have H0 := Lib.hid (And.intro hx (And.intro hb0 (And.intro hop (hh.below hb0))))
  clear hx hb0 hop hh h
  go_enter Try.func34, Try.ntmps34
  go_wp2_with fail
  rw [← hw0]
  clear hw0
  refine H0.out.2.2.1.mono ?_
  rintro e w1 ⟨⟨B, fs, fe, dd, hs, rfl, hsm, hhd, hle, hfr⟩, hb1⟩
  have hlen := Sp.open_heads d f
  rw [← hsm.2.2] at hlen
  have hcg : Sp.sameB (Sp.open_ d f).2 (g, ge, ks) = Sp.sameB (fs, fe, hs) (g, ge, ks) := Sp.sameB_congr hsm.symm ⟨fun _ _ => rfl, rfl, rfl⟩
  obtain ⟨code, hcode⟩ : ∃ c, c = (Sp.open_ d f).1 := ⟨_, rfl⟩
  rw [← hcode]
  have HCG := Lib.hid (And.intro hcg hcode)
  have H1 := Lib.hid (And.intro (H0.out.1.below hb1 H0.out.1.lt) (And.intro (H0.out.2.1.trans (hb1.mono H0.out.2.1.size)) (And.intro hhd (And.intro (H0.out.2.2.2.below hb1) (show hs.length ≤ 32 from hlen)))))
  clear hsm hhd hle hfr hb1 hlen hcg hcode H0
  have hB2 := (Below.refl w1.heap.size w1).alloc (Nat.le_refl _) (.cells spz 26)
  have hn2 := Blk.new w1 26 spz
  have HN := Lib.hid (And.intro hB2 hn2)
  clear hB2 hn2
  by_cases hc : code = 0
  · subst hc
    go_wp2_with (first
      | ((with_reducible show wpList _ _ _ ((⟨none, _, _, _, _, _⟩ : Oper) :: _) _ _); refine wpList_store_blk (o := ⟨none, _, _, _, _, _⟩) (HN.out.2) (by rfl) _ _ _ (by rfl) (by rfl) (spc fs fe (.slice B hs.length dd)) (by rfl) (sizeSuper) (spc_size _ _ _) (spc_size _ _ _) (spc_one _ _ _ rfl) ?_; intro w2 h2 hu2; have hb2 := HN.out.1.upd hu2 (Nat.le_refl _); have H2 := Lib.hid (And.intro h2 (And.intro hb2 (And.intro (H1.out.1.below hb2 H1.out.1.lt) (And.intro (H1.out.2.2.1.below hb2) (And.intro (H1.out.2.2.2.1.below hb2) (H1.out.2.1.trans (hb2.mono H1.out.2.1.size))))))); clear h2 hu2 hb2)
      | ((with_reducible show wpList _ _ _ ((⟨some 15, _, _, _, _, _⟩ : Oper) :: _) _ _); refine wpList_want (by rfl) ?_; refine wpList_load_blk (o := ⟨some 15, _, _, _, _, _⟩) (H2.out.1) (by rfl) _ _ (by rfl) (by rfl) _ Try.underlying26 (by rfl) (sizeSuper) (by exact spc_size _ _ _) ?_)
      | ((with_reducible show wpList _ _ _ ((⟨some 16, _, _, _, _, _⟩ : Oper) :: _) _ _); refine wpList_want (by rfl) ?_; refine wpList_load_blk (o := ⟨some 16, _, _, _, _, _⟩) (H2.out.2.2.1) (by rfl) _ _ (by rfl) (by rfl) _ Try.underlying26 (by rfl) (sizeSuper) (by exact spc_size _ _ _) ?_)
      | fail)
    refine (sameSuper_any fs g fe ge B A hs.length dd ks.length c hs ks w2 rfl rfl (by have := H1.out.2.2.2.2; omega) H2.out.2.2.2.1 H2.out.2.2.2.2.1).mono ?_
    rintro e w3 ⟨rfl, hb3⟩
    have H3 := Lib.hid (H2.out.2.2.2.2.2.trans (hb3.mono H2.out.2.2.2.2.2.size))
    clear hb3
    obtain ⟨bb, hbb⟩ : ∃ b, b = Sp.sameB (fs, fe, hs) (g, ge, ks) := ⟨_, rfl⟩
    rw [← hbb]
    have HBB := Lib.hid hbb
    clear hbb
    go_wp2
    go_ret
    exact ⟨by rw [← HCG.out.2, HCG.out.1, ← HBB.out, decide_eq_true rfl, Bool.true_and]; rfl, H3.out⟩
  · have hc' : (code == 0) = false := by rw [beq_eq_false_iff_ne]; exact hc
    have HCC := Lib.hid hc
    clear hc
    go_wp2_with (first
      | ((with_reducible show wpList _ _ _ ((⟨none, _, _, _, _, _⟩ : Oper) :: _) _ _); refine wpList_store_blk (o := ⟨none, _, _, _, _, _⟩) (HN.out.2) (by rfl) _ _ _ (by rfl) (by rfl) (spc fs fe (.slice B hs.length dd)) (by rfl) (sizeSuper) (spc_size _ _ _) (spc_size _ _ _) (spc_one _ _ _ rfl) ?_; intro w2 h2 hu2; have hb2 := HN.out.1.upd hu2 (Nat.le_refl _); have H2 := Lib.hid (H1.out.2.1.trans (hb2.mono H1.out.2.1.size)); clear h2 hu2 hb2)
      | fail)
    go_ret
    exact ⟨by rw [← HCG.out.2, decide_eq_false HCC.out, Bool.false_and]; rfl, H2.out⟩
end Go.Proofs.Ytmhfehhpfkjloaa

/- The law's formatted disk. No condition. -/
namespace Go.Proofs.Ytmhfehhpfkjloaa
open Go.RowKit
theorem first_ok : Sp.ok (viewedS 1 4) = true := by decide
theorem viewed_seq (n s v : Int) : Sp.seq n (viewedS s v) = viewedS n v := by
  unfold Sp.seq viewedS
  refine Prod.ext (funext fun i => ?_) rfl
  show (if i = 0 then n else viewF s v i) = viewF n v i
  unfold viewF
  by_cases h : i = 0
  · rw [if_pos h, if_pos h]
  · rw [if_neg h, if_neg h, if_neg h]
/-- A disk that lies behind what was there, all copies of which are a superblock. -/
structure Form (w w' : World) (p : Pl) (d : Dsk) (s : SpT) : Prop where
  dk : DkOk w' p none d none
  up : Up8 d
  n : d.N = 8
  all : AllAre d (Sp.bytes s)
  fresh : w.heap.size ≤ p.gd ∧ w.heap.size ≤ p.gl ∧ w.heap.size ≤ p.gm
  below : Below w.heap.size w w'
set_option maxRecDepth 100000 in
set_option maxHeartbeats 2000000 in
theorem formatted_any (w : World) : Calls Try.prog 31 #[] w fun e w' => ∃ p d, e = .returned (.tuple #[.pointer (some ⟨p.gd, 0, none⟩), .bool true]) ∧ Form w w' p d (viewedS 1 4) := by
  have hnew := new_all 8 (by omega) w
  have HN := Lib.hid hnew
  clear hnew
  go_enter Try.func31, Try.ntmps31
  go_wp2_with fail
  refine HN.out.mono ?_
  rintro e w1 ⟨p, rfl, hd, hfr, hb⟩
  have H1 := Lib.hid (And.intro (show DkOk w1 p none (Dsk.new 8) none from ⟨hd, trivial, Dsk.Ok.new (by omega)⟩) (And.intro hfr hb))
  clear hd hfr hb HN
  go_wp2_with fail
  refine (first_any w1).mono ?_
  rintro e w2 ⟨rfl, hb2⟩
  have hdk2 := H1.out.1.near (Near.below hb2)
  have hfo := spFormat_all (viewF 1 4) false none 0 0 [] w2 rfl (by simp) (fun h => absurd h (by simp)) hdk2
  obtain ⟨d', e', u', n', a'⟩ := format_up8 Up8.new (s := viewedS 1 4) (by rw [viewed_seq]; exact first_ok)
  rw [show ((viewF 1 4, false, []) : SpT) = viewedS 1 4 from rfl, e'] at hfo
  rw [viewed_seq] at a'
  have H2 := Lib.hid (And.intro hfo (And.intro u' (And.intro n' (And.intro a' (H1.out.2.2.trans (hb2.mono H1.out.2.2.size))))))
  clear hfo u' n' a' e' hb2 hdk2
  go_wp2_with fail
  refine H2.out.1.mono ?_
  rintro e w3 ⟨rfl, hdk3, hn3⟩
  have H3 := Lib.hid (And.intro hdk3 hn3)
  clear hdk3 hn3
  go_wp2
  refine bodyPost_ret (results_tmp2 (by rfl) _ _ _) rfl ?_
  refine ⟨p, d', rfl, H3.out.1, H2.out.2.1, H2.out.2.2.1, H2.out.2.2.2.1, H1.out.2.1, ?_⟩
  refine below_near H2.out.2.2.2.2 H3.out.2 (fun x hx => ?_) H2.out.2.2.2.2.size
  have h := H1.out.2.1
  simp [Pl.all] at hx
  rcases hx with rfl | rfl | rfl <;> omega
end Go.Proofs.Ytmhfehhpfkjloaa

/- The chapter's examples that wake. No condition. -/
namespace Go.Proofs.Ytmhfehhpfkjloaa
open Go.RowKit
/-- What is open where all copies are a superblock. -/
theorem open_form {d : Dsk} (hu : Up8 d) {s : SpT} (hok : Sp.ok s = true) (h : AllAre d (Sp.bytes s)) : ∃ t, Sp.same t s ∧ Sp.open_ d none = (0, t) ∧ Sp.best d.cpys = (t, Sp.bytes s) := by
  obtain ⟨h1, h2⟩ := Sp.read_bytes s hok
  have h0 := (Sp.ok_spec hok).1.1
  have e0 := h2.1 0 (by omega)
  obtain ⟨h3, h4⟩ := open_all4 hu h h1 (by rw [e0]; omega)
  exact ⟨_, h2, h3, h4⟩
theorem viewed_ok : Sp.ok (viewedS 2 5) = true := by decide
/-- A write of a view behind a format. -/
theorem write_form {d : Dsk} (hu : Up8 d) {n v u : Int} (hok : Sp.ok (viewedS n v) = true) (hok2 : Sp.ok (viewedS (n + 1) u) = true) (h : AllAre d (Sp.bytes (viewedS n v))) (m : Int) :
    ∃ d', Sp.write d none (viewedS m u) = ((0, viewedS (n + 1) u), d', none) ∧ Up8 d' ∧ d'.N = d.N ∧ AllAre d' (Sp.bytes (viewedS (n + 1) u)) := by
  obtain ⟨t, h1, h2, h3⟩ := open_form hu hok h
  have e0 : t.1 0 = n := h1.1 0 (by omega)
  have hn : n + 1 ≤ 1073741824 := ((Sp.ok_spec hok2).1.2.1 0 (by simp)).2
  have hl : (Sp.bytes (viewedS n v)).length = 512 := Sp.bytes_length _ (Sp.ok_spec hok).2.1
  obtain ⟨d', e1, u1, n1, a1⟩ := write_up8s hu h2 h3 hl (by rw [e0]; omega) (s := viewedS m u) (by rw [e0, viewed_seq]; exact hok2)
  rw [e0, viewed_seq] at e1 a1
  exact ⟨d', e1, u1, n1, a1⟩
set_option maxRecDepth 100000 in
set_option maxHeartbeats 4000000 in
theorem awake06_any (w : World) : Calls Try.prog 18 #[] w fun e w' => e = .returned (.bool true) ∧ Below w.heap.size w w' := by
  have hz := zeroSuper
  go_enter Try.func18, Try.ntmps18
  go_wp2_with fail
  refine (formatted_any w).mono ?_
  rintro e w1 ⟨p, d, rfl, hf⟩
  have H1 := Lib.hid hf
  clear hf
  go_wp2_with fail
  refine (first_any w1).mono ?_
  rintro e w2 ⟨rfl, hb2⟩
  have H2 := Lib.hid (And.intro (H1.out.dk.near (Near.below hb2)) (H1.out.below.trans (hb2.mono H1.out.below.size)))
  clear hb2
  go_wp2_with fail
  refine (opens_any (viewF 1 4) false none 0 0 [] w2 rfl (fun h => absurd h (by simp)) H2.out.1).mono ?_
  rintro e w3 ⟨rfl, hb3⟩
  have ht : (decide ((Sp.open_ d none).1 = 0) && Sp.sameB (Sp.open_ d none).2 (viewF 1 4, false, [])) = true := by
    obtain ⟨t, h1, h2, -⟩ := open_form H1.out.up first_ok H1.out.all
    rw [h2]
    simp only [decide_true, Bool.true_and]
    exact Sp.sameB_iff.2 h1
  rw [ht]
  have H3 := Lib.hid (And.intro (H2.out.1.near (Near.below hb3)) (H2.out.2.trans (hb3.mono H2.out.2.size)))
  clear hb3 ht H2
  go_wp2_with fail
  refine (viewed_any 0 5 w3).mono ?_
  rintro e w4 ⟨rfl, hb4⟩
  obtain ⟨d5, e5, u5, n5, a5⟩ := write_form H1.out.up first_ok (u := 5) viewed_ok H1.out.all 0
  have hwr := spWrite_all (viewF 0 5) false none 0 0 [] w4 rfl (Nat.le_refl _) (by simp) (fun h => absurd h (by simp)) (fun _ ad e => by cases e) (H3.out.1.near (Near.below hb4))
  rw [show ((viewF 0 5, false, []) : SpT) = viewedS 0 5 from rfl, e5] at hwr
  have H4 := Lib.hid (And.intro hwr (And.intro u5 (And.intro a5 (H3.out.2.trans (hb4.mono H3.out.2.size)))))
  clear hwr u5 n5 a5 hb4 e5
  go_wp2_with fail
  refine H4.out.1.mono ?_
  rintro e w5 ⟨⟨B, fs, fe, dd, hs, rfl, hsm, hhd, hle, hfr⟩, hdk5, hn5⟩
  have hb5 := below_near H4.out.2.2.2 hn5 (fun x hx => by have h := H1.out.fresh; simp [Pl.all] at hx; rcases hx with rfl | rfl | rfl <;> omega) H4.out.2.2.2.size
  have hnil : hs = [] := hsm.2.2
  subst hnil
  have hx6 := Blk.new w5 26 spz
  have H5 := Lib.hid (And.intro hsm (And.intro hdk5 (And.intro hb5 hx6)))
  clear hsm hhd hle hfr hdk5 hn5 hb5 hx6 H3
  go_wp2_with (first
    | ((with_reducible show wpList _ _ _ ((⟨none, _, _, _, _, _⟩ : Oper) :: _) _ _); refine wpList_store_blk (o := ⟨none, _, _, _, _, _⟩) (H5.out.2.2.2) (by rfl) _ _ _ (by rfl) (by rfl) (spc fs fe (.slice B 0 dd)) (by rfl) (sizeSuper) (spc_size _ _ _) (spc_size _ _ _) (spc_one _ _ _ rfl) ?_; intro w6 h6 hu6)
    | fail)
  have hn6 : Near [] w5 w6 := (Near.below ((Below.refl w5.heap.size w5).alloc (Nat.le_refl _) _)).high (Near.upd (X := [w5.heap.size]) hu6 (by simp)) (by simp)
  have H6 := Lib.hid (And.intro h6 (And.intro (H5.out.2.1.near hn6) (below_near H5.out.2.2.1 hn6 (by simp) H5.out.2.2.1.size)))
  have hC0 := (Near.refl [] w6).drew
  clear h6 hu6 hn6
  refine wp_region_tree (Near [] w6) [] (PlanT.takes [0, 1, 2] (PlanT.takes [3] (.opt 4 (.opt 5 (PlanT.takes [6, 7, 8] (.opt 9 (.opt 10 (PlanT.takes [11, 12] .done) .no) .no)) .no) .no))) (by kernel_rfl) (by kernel_rfl) (hC0) ?_
  refine wpTree_pure _ _ _ (by rfl) (by rfl) ?_
  dsimp only [List.filterMap, List.getElem?_cons_zero, List.getElem?_cons_succ]
  repeat (go_big_quiet_step (fail))
  refine wpQuiet_nil ?_
  refine wpTree_takeL _ _ _ (by rfl) (by rfl) (hC0) ?_
  dsimp only [List.filterMap, List.getElem?_cons_zero, List.getElem?_cons_succ]
  (refine wpQuiet_want' (by rfl) ?_; refine wpQuiet_load_blk (fun w' hw' => Blk.near H6.out.1 hw' (by simp)) (by rfl) _ _ (by rfl) (by rfl) _ Try.underlying26 (by rfl) (sizeSuper) (by exact spc_size _ _ _) ?_; simp only [Act.put, List.setIfInBounds_toArray, List.set_cons_zero, List.set_cons_succ])
  refine wpQuiet_nil ?_
  refine wpTree_one _ rfl ?_
  go_wp2_with fail
  refine (viewed_any 2 5 w6.drew).mono ?_
  rintro e w7 ⟨rfl, hb7⟩
  have hC7 : Near [] w6 w7 := hC0.trans (Near.below hb7)
  clear hb7
  go_wp2_with fail
  refine TreeQ.in_ hC7 ?_
  refine wpTree_one _ rfl ?_
  go_wp2_with fail
  refine (sameSuper_any fs (viewF 2 5) fe false B none 0 dd 0 0 [] [] w7 rfl rfl (by simp) (fun h => absurd h (by simp)) (fun h => absurd h (by simp))).mono ?_
  rintro e w8 ⟨rfl, hb8⟩
  have hs8 : Sp.sameB (fs, fe, []) (viewF 2 5, false, []) = true := Sp.sameB_iff.2 H5.out.1
  rw [hs8]
  have hC8 : Near [] w6 w8 := hC7.trans (Near.below hb8)
  clear hb8 hs8
  go_wp2_with fail
  refine TreeQ.in_ hC8 ?_
  refine wpTree_pure _ _ _ (by rfl) (by rfl) ?_
  dsimp only [List.filterMap, List.getElem?_cons_zero, List.getElem?_cons_succ]
  repeat (go_big_quiet_step (fail))
  refine wpQuiet_nil ?_
  refine wpTree_one _ rfl ?_
  go_wp2_with fail
  refine (viewed_any 2 5 w8).mono ?_
  rintro e w9 ⟨rfl, hb9⟩
  have hC9 : Near [] w6 w9 := hC8.trans (Near.below hb9)
  clear hb9
  go_wp2_with fail
  refine TreeQ.in_ hC9 ?_
  refine wpTree_one _ rfl ?_
  go_wp2_with fail
  refine (opens_any (viewF 2 5) false none 0 0 [] w9 rfl (fun h => absurd h (by simp)) (H6.out.2.1.near hC9)).mono ?_
  rintro e w10 ⟨rfl, hb10⟩
  have ht : (decide ((Sp.open_ d5 none).1 = 0) && Sp.sameB (Sp.open_ d5 none).2 (viewF 2 5, false, [])) = true := by
    obtain ⟨t, h1, h2, -⟩ := open_form H4.out.2.1 (s := viewedS (1 + 1) 5) (by decide) H4.out.2.2.1
    rw [h2]
    simp only [decide_true, Bool.true_and]
    exact Sp.sameB_iff.2 h1
  rw [ht]
  have hC10 : Near [] w6 w10 := hC9.trans (Near.below hb10)
  clear hb10 ht
  go_wp2_with fail
  refine TreeQ.in_ hC10 ?_
  refine wpTree_pure _ _ _ (by rfl) (by rfl) ?_
  dsimp only [List.filterMap, List.getElem?_cons_zero, List.getElem?_cons_succ]
  repeat (go_big_quiet_step (fail))
  refine wpQuiet_nil ?_
  refine wpTree_done ?_
  have HB := Lib.hid (below_near H6.out.2.2 hC10 (by simp) H6.out.2.2.size)
  clear hC0 hC7 hC8 hC9 hC10
  go_wp2
  go_ret
  exact ⟨rfl, HB.out⟩
end Go.Proofs.Ytmhfehhpfkjloaa
