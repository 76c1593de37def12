/- The small functions of the layer of blocks: may a ref be one; may a block; a number laid, a number read. Conditions: numbers are Go's, lists can be read. -/
import Derived.Test.YtfpcldnefpmgcaaGrid
import Derived.Test.YtfpcldnefpmgcaaPlan
import Derived.Test.YtfpcldnefpmgcaaShape
import Derived.Test.YtfpcldnefpmgcaaSeal
namespace Go.Proofs.Ytfpcldnefpmgcaa
open Go.RowKit
set_option maxHeartbeats 400000 in
theorem place_any (a s : Int) (w : World) : Calls Try.prog 49 #[.agg #[.int .i64 a, .int .i64 s]] w fun e w' => e = .returned (.bool (refOk (a, s, ()))) ∧ Below w.heap.size w w' := by
  go_enter Try.func49, Try.ntmps49
  go_wp2
  all_goals
    go_ret
    refine ⟨?_, (Below.refl _ _).alloc (Nat.le_refl _) _⟩
    unfold refOk
    simp [*]
    try omega
set_option maxHeartbeats 400000 in
theorem named_any (a s : Int) (w : World) : Calls Try.prog 50 #[.agg #[.int .i64 a, .int .i64 s]] w fun e w' => e = .returned (.bool (refOk (a, s, ()))) ∧ Below w.heap.size w w' := by
  go_enter Try.func50, Try.ntmps50
  go_wp2
  all_goals
    go_ret
    refine ⟨?_, (Below.refl _ _).alloc (Nat.le_refl _) _⟩
    unfold refOk
    simp [*]
    try omega
theorem or_sum (a b k : Nat) (n : Nat) (hn : n = 2 ^ k) (ha : a < n) : a ||| (b * n) = a + b * n := by
  subst hn
  rw [Nat.mul_comm, Nat.or_comm, ← Nat.two_pow_add_eq_or_of_lt ha, Nat.add_comm]
theorem i64_or_nat (a b : Nat) (ha : a < 9223372036854775808) (hb : b < 9223372036854775808) : bits .or .i64 (a : Int) (b : Int) = ((a ||| b : Nat) : Int) := by
  have h2 : a ||| b < 2 ^ 63 := Nat.or_lt_two_pow (by omega) (by omega)
  show IntKind.i64.wrap ((BitVec.ofInt 64 (a : Int) ||| BitVec.ofInt 64 (b : Int)).toNat : Int) = _
  rw [BitVec.toNat_or, ofInt_u64 a (by omega), ofInt_u64 b (by omega), IntWalk.i64_left, IntWalk.wrap64_in _ ⟨by omega, by omega⟩]
theorem or4 (x0 x1 x2 x3 : UInt8) : bits BinOp.or IntKind.i64 (bits BinOp.or IntKind.i64 (bits BinOp.or IntKind.i64 (wrap64 (iu8 x0)) (wrap64 (wrap64 (iu8 x1) * 256))) (wrap64 (wrap64 (iu8 x2) * 65536))) (wrap64 (wrap64 (iu8 x3) * 16777216)) = (un4 x0 x1 x2 x3 : Int) := by
  have h0 := x0.toNat_lt; have h1 := x1.toNat_lt; have h2 := x2.toNat_lt; have h3 := x3.toNat_lt
  unfold iu8
  rw [IntWalk.wrap64_in (x0.toNat : Int) (by omega), IntWalk.wrap64_in (x1.toNat : Int) (by omega), IntWalk.wrap64_in (x2.toNat : Int) (by omega), IntWalk.wrap64_in (x3.toNat : Int) (by omega),
    IntWalk.wrap64_in ((x1.toNat : Int) * 256) (by omega), IntWalk.wrap64_in ((x2.toNat : Int) * 65536) (by omega), IntWalk.wrap64_in ((x3.toNat : Int) * 16777216) (by omega)]
  rw [show (x1.toNat : Int) * 256 = ((x1.toNat * 256 : Nat) : Int) by simp, show (x2.toNat : Int) * 65536 = ((x2.toNat * 65536 : Nat) : Int) by simp, show (x3.toNat : Int) * 16777216 = ((x3.toNat * 16777216 : Nat) : Int) by simp]
  rw [i64_or_nat _ _ (by omega) (by omega), or_sum _ _ 8 256 (by decide) (by omega), i64_or_nat _ _ (by omega) (by omega), or_sum _ _ 16 65536 (by decide) (by omega), i64_or_nat _ _ (by omega) (by omega), or_sum _ _ 24 16777216 (by decide) (by omega)]
  unfold un4
  omega
set_option maxHeartbeats 1000000 in
theorem number_any (A : Option Addr) (c p : Nat) (l : List UInt8) (hp : p + 4 ≤ l.length) (hl : l.length ≤ 2000) (w : World) (hb : Bytes w A l) :
    Calls Try.prog 51 #[.slice A l.length c, .int .i64 p] w fun e w' => e = .returned (.int .i64 (at4 l p)) ∧ Below w.heap.size w w' := by
  obtain ⟨b, off, rfl, hbl, hc⟩ := hb.at_ (by omega)
  have d0 := hc p (by omega)
  have d1 := hc (p + 1) (by omega)
  have d2 := hc (p + 2) (by omega)
  have d3 := hc (p + 3) (by omega)
  clear hc hb
  unfold at4
  generalize l.getD p 0 = x0 at d0 ⊢
  generalize l.getD (p + 1) 0 = x1 at d1 ⊢
  generalize l.getD (p + 2) 0 = x2 at d2 ⊢
  generalize l.getD (p + 3) 0 = x3 at d3 ⊢
  go_enter Try.func51, Try.ntmps51
  go_wp2
  go_quiet (fail)
  rw [or4]
  go_wp2
  go_ret
  exact ⟨rfl, below_drewN (Below.refl _ _) _⟩
/-- A list of refs can be read. -/
def Refs (w : World) (A : Option Addr) (l : List RefT) : Prop :=
  0 < l.length → ∃ b off, A = some ⟨b, off, none⟩ ∧ b < w.heap.size ∧ ∀ i, (h : i < l.length) → w.cell? ⟨b, off + i * 2, none⟩ = some (.int .i64 l[i].1) ∧ w.cell? ⟨b, off + i * 2 + 1, none⟩ = some (.int .i64 l[i].2.1)
theorem Refs.below {w w' : World} {A : Option Addr} {l : List RefT} (h : Refs w A l) (hb : Below w.heap.size w w') : Refs w' A l := fun hp => by
  obtain ⟨b, off, e, hlt, hc⟩ := h hp
  exact ⟨b, off, e, Nat.lt_of_lt_of_le hlt hb.size, fun i hi => ⟨(hb.cell (p := ⟨b, off + i * 2, none⟩) hlt).trans (hc i hi).1, (hb.cell (p := ⟨b, off + i * 2 + 1, none⟩) hlt).trans (hc i hi).2⟩⟩
instance {w w' : World} {A : Option Addr} {l : List RefT} : KeepsTo w w' (Refs w A l) (Refs w' A l) := ⟨fun hb h => h.below hb⟩
/-- A load of a whole array or struct out of the middle of a block. -/
theorem wpList_load_mid {P : Program} {w : World} {Q : Exit → Act → World → Prop} {ops : Array Oper} {rest : List Oper} {o : Oper} {a : Act} {b off : Nat} {cs : List Value} (hb : w.rangeAt b off cs) (hgd : o.guard = none) (ty : TypeId) (x : Operand) (ho : o.op = .load ty x)
    (hx : a.eval x = .pointer (some ⟨b, off, none⟩)) (d : TypeDesc) (hu : P.underlying ty = some d) (hd : d.isRow = true) {n : Nat} (hi : (P.info? ty).map (·.size) = some n) (hn : cs.length = n)
    (h : wpList P ops Q rest (a.put o.dst (.agg cs.toArray)) w) : wpList P ops Q (o :: rest) a w :=
  wpList_run (.agg cs.toArray) hgd (by
    unfold execOp
    simp only [ho, hx, Instr.loadAt, Instr.sureAddr, Sem.run_bind, Sem.run_pure, Result.andThen_ok, run_loadVar_mid w b off ty cs d hb hu hd (hn ▸ hi)]) h
theorem range2 {w : World} {b off : Nat} {u v : Value} (h1 : w.cell? ⟨b, off, none⟩ = some u) (h2 : w.cell? ⟨b, off + 1, none⟩ = some v) : w.rangeAt b off [u, v] := fun j x hx => by
  match j with
  | 0 => simp at hx; subst hx; exact h1
  | 1 => simp at hx; subst hx; exact h2
  | j + 2 => simp at hx
theorem size_ref : (Try.prog.info? 42).map (·.size) = some 2 := by kernel_rfl
/-- What the look at a block answers. -/
def GB.code (b : GBT) : Int := if GB.ok b then 0 else 2
theorem GB.code_ok {b : GBT} (h : GB.ok b = true) : GB.code b = 0 := by unfold GB.code; rw [if_pos h]
theorem GB.code_no {b : GBT} (h : GB.ok b = false) : GB.code b = 2 := by unfold GB.code; rw [if_neg (by rw [h]; simp)]
/-- Ahead of each ref that is looked at. -/
def CheckRel (w : World) (l : List RefT) (v : Value) (wr : World) : Prop :=
  ∃ i : Nat, i ≤ l.length ∧ v = .int .i64 (i : Int) ∧ (∀ j, (h : j < i) → (h2 : j < l.length) → refOk l[j] = true) ∧ Below w.heap.size w wr
set_option maxHeartbeats 1000000 in
set_option maxRecDepth 100000 in
theorem check_any (k ra rs : Int) (A B : Option Addr) (c d : Nat) (l : List RefT) (body : List UInt8) (hl : l.length ≤ 1000) (hb : body.length ≤ 5000) (w : World) (hr : Refs w A l) :
    Calls Try.prog 32 #[.agg #[.int .i64 k, .int .i64 ra, .int .i64 rs, .slice A l.length c, .slice B body.length d]] w fun e w' => e = .returned (.int .i64 (GB.code (k, (ra, rs, ()), l, body, ()))) ∧ Below w.heap.size w w' := by
  have hB0 : Below w.heap.size w (w.alloc (.cells #[.int .i64 k, .int .i64 ra, .int .i64 rs, .slice A l.length c, .slice B body.length d] 45)) := (Below.refl _ _).alloc (Nat.le_refl _) _
  have hr0 := Refs.below hr hB0
  by_cases h1 : k < 1
  · have hok : Hid (GB.ok (k, (ra, rs, ()), l, body, ()) = false) := Lib.hid (by unfold GB.ok; simp; omega)
    go_enter Try.func32, Try.ntmps32
    go_wp2
    go_ret
    exact ⟨ret_int (GB.code_no hok.out).symm, hB0⟩
  by_cases h2 : 15 < k
  · have hok : Hid (GB.ok (k, (ra, rs, ()), l, body, ()) = false) := Lib.hid (by unfold GB.ok; simp; omega)
    go_enter Try.func32, Try.ntmps32
    go_wp2
    go_ret
    exact ⟨ret_int (GB.code_no hok.out).symm, hB0⟩
  go_enter Try.func32, Try.ntmps32
  go_wp2_with fail
  have hg := Blk.new w 45 #[.int .i64 k, .int .i64 ra, .int .i64 rs, .slice A l.length c, .slice B body.length d]
  generalize w.alloc (.cells #[.int .i64 k, .int .i64 ra, .int .i64 rs, .slice A l.length c, .slice B body.length d] 45) = w1 at hg hB0 hr0 ⊢
  refine (place_any ra rs w1).mono ?_
  rintro e w2 ⟨rfl, hbx⟩
  (replace hr0 := keep hbx hr0; replace hg := keep hbx hg; replace hB0 := hB0.trans (hbx.mono hB0.size); clear hbx)
  have d2 := hg.cell 2
  have d3 := hg.cell 3
  have d4 := hg.cell 4
  cases hplace : refOk (ra, rs, ())
  · have hok : Hid (GB.ok (k, (ra, rs, ()), l, body, ()) = false) := Lib.hid (by unfold GB.ok; simp [hplace])
    clear hplace
    go_wp2
    go_ret
    exact ⟨ret_int (GB.code_no hok.out).symm, hB0⟩
  by_cases h3 : 16 < l.length
  · have hok : Hid (GB.ok (k, (ra, rs, ()), l, body, ()) = false) := Lib.hid (by unfold GB.ok; simp; omega)
    clear hplace
    go_wp2
    go_ret
    exact ⟨ret_int (GB.code_no hok.out).symm, hB0⟩
  by_cases h4 : 860 < body.length
  · have hok : Hid (GB.ok (k, (ra, rs, ()), l, body, ()) = false) := Lib.hid (by unfold GB.ok; simp; omega)
    clear hplace
    go_wp2
    go_ret
    exact ⟨ret_int (GB.code_no hok.out).symm, hB0⟩
  have hok : Hid (GB.ok (k, (ra, rs, ()), l, body, ()) = l.all refOk) := Lib.hid (by unfold GB.ok; simp [hplace]; omega)
  clear hplace
  clear d2 d3 d4
  have d2 : w2.cell? ⟨w.heap.size, 3, none⟩ = some (.slice A l.length c) := hg.at_ 3 (by simp)
  have d3 : w2.cell? ⟨w.heap.size, 4, none⟩ = some (.slice B body.length d) := hg.at_ 4 (by simp)
  go_wp2_with fail
  go_loopw [34] (fun v wr => CheckRel w l v wr) (fun v _ => l.length - (intOf v).toNat)
  case atStart => exact ⟨0, by omega, rfl, fun j h => absurd h (by omega), hB0⟩
  case round =>
    clear d2 d3 hg hr0 hB0
    obtain ⟨i, hi, rfl, hall, hBr⟩ := hrel
    have HA := Lib.hid hall
    clear hall
    by_cases hlt : i < l.length
    · have hrr := Refs.below hr hBr
      obtain ⟨b, off, rfl, hbl, hcells⟩ := hrr (by omega)
      obtain ⟨d1, d2⟩ := hcells i hlt
      have hR := Lib.hid (show l[i] = (l[i].1, l[i].2.1, ()) from rfl)
      generalize hx : l[i].1 = x at d1 hR
      generalize hy : l[i].2.1 = y at d2 hR
      clear hx hy hcells hrr
      go_wp2_with (first
        | (show wpList _ _ _ ((⟨some 40, _, _, _, _, _⟩ : Oper) :: _) _ _; refine wpList_load_mid (o := ⟨some 40, _, _, _, _, _⟩) (range2 (b := b) (off := off + i * 2) (u := .int .i64 x) (v := .int .i64 y) (d1) (d2)) (by rfl) _ _ (by rfl) (by rfl) _ Try.underlying42 (by rfl) size_ref (by rfl) ?_)
        | fail)
      have hbz := (Below.refl wr.heap.size wr).alloc (Nat.le_refl _) (.cells #[.int .i64 x, .int .i64 y] 42)
      generalize wr.alloc (.cells #[.int .i64 x, .int .i64 y] 42) = w4 at hbz ⊢
      refine (place_any x y w4).mono ?_
      rintro e w5 ⟨rfl, hbx⟩
      have hB5 := (hBr.trans (hbz.mono hBr.size)).trans (hbx.mono (by have := hBr.size; have := hbz.size; omega))
      clear d1 d2 hbz hbx hbl
      cases hpl : refOk (x, y, ())
      · have hno : Hid (GB.ok (k, (ra, rs, ()), l, body, ()) = false) := Lib.hid (by
          rw [hok.out]
          refine List.all_eq_false.2 ⟨l[i], List.getElem_mem hlt, ?_⟩
          rw [hR.out, hpl]; simp)
        clear hpl
        go_wp2
        go_ret
        exact ⟨ret_int (GB.code_no hno.out).symm, hB5⟩
      · have hPL := Lib.hid hpl
        clear hpl
        go_wp2
        go_roundw
        case rel => exact ⟨i + 1, by omega, by go_num, fun j hj h2 => by
          rcases Nat.lt_or_ge j i with h | h
          · exact HA.out j h h2
          · obtain rfl : j = i := by omega
            rw [hR.out]; exact hPL.out, hB5⟩
        case measure => simp [intOf]; omega
    · obtain rfl : i = l.length := by omega
      have hyes : Hid (GB.ok (k, (ra, rs, ()), l, body, ()) = true) := Lib.hid (by
        rw [hok.out]
        exact List.all_eq_true.2 fun r hr => by
          obtain ⟨j, hj, rfl⟩ := List.mem_iff_getElem.1 hr
          exact HA.out j hj hj)
      go_wp2
      go_ret
      exact ⟨ret_int (GB.code_ok hyes.out).symm, hBr⟩
end Go.Proofs.Ytfpcldnefpmgcaa
