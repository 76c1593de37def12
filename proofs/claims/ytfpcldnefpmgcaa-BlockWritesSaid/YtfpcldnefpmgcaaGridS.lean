/- Two blocks compared: two lists of refs, two blocks. Condition: the lists can be read. -/
import Derived.Test.YtfpcldnefpmgcaaGridD
import Derived.Laws.StructEq
namespace Go
open Go.RowKit
theorem wpQuiet_run {P : Program} {ops : Array Oper} {C : World → Prop} {Q : Act → Prop} {rest : List Oper} {o : Oper} {a : Act} (hgd : o.guard = none) (v : Value) (hr : ∀ w, C w → (execOp a.eval o).run P w = .ok (.value v) w) (h : wpQuiet P ops C Q rest (a.put o.dst v)) : wpQuiet P ops C Q (o :: rest) a := by
  refine wpQuiet_step fun K hK => ?_
  rw [if_pos (by simp [Region.wanted, hgd])]
  refine ⟨v, fun w hw => ?_, hK _ h⟩
  unfold Oper.quietAt
  rw [hr w hw]
  exact ⟨rfl, rfl⟩
namespace Proofs.Ytfpcldnefpmgcaa
open Go.RowKit
theorem noselRef : Try.prog.eqGuardType Try.prog.depth 42 = false := by kernel_rfl
theorem heldRef : Try.prog.stoodInHeld 42 = false := by kernel_rfl
theorem eqRef (w : World) (a b c d : Int) : (Op.equalIn 10000 42 (.agg #[.int .i64 a, .int .i64 b]) (.agg #[.int .i64 c, .int .i64 d])).run Try.prog w = .ok ((a == c) && (b == d)) w := by
  have hu : Try.prog.underlying 42 = some (.struct (Try.prog.fieldsOf 42)) := by kernel_rfl
  rw [show (10000 : Nat) = 9999 + 1 from rfl, run_equalIn_struct w 9999 42 _ _ hu heldRef]
  have e : Try.prog.fieldsOf 42 = (match Try.prog.underlying 42 with | some (.struct fs) => fs | _ => #[]) := rfl
  rw [e, Try.underlying42]
  have ei := Try.underlying3
  simp [Op.eqFields, part, go_sem, ei]
  by_cases h1 : a = c <;> by_cases h2 : b = d <;> simp [h1, h2]
theorem exec_neq_ref {o : Oper} {ac : Act} (w : World) (x y : Operand) (r : TypeId) (ho : o.op = .binOp .neq 42 x y r) (a b c d : Int) (hx : ac.eval x = .agg #[.int .i64 a, .int .i64 b]) (hy : ac.eval y = .agg #[.int .i64 c, .int .i64 d]) :
    (execOp ac.eval o).run Try.prog w = .ok (.value (.bool (!((a == c) && (b == d))))) w := by
  unfold execOp
  simp only [ho, hx, hy, Sem.run_bind, run_eqGuard_agg w .neq 42 x y _ _ noselRef, Result.andThen_ok, run_neq_struct, eqRef, Sem.run_pure]
theorem exec_eql_ref {o : Oper} {ac : Act} (w : World) (x y : Operand) (r : TypeId) (ho : o.op = .binOp .eql 42 x y r) (a b c d : Int) (hx : ac.eval x = .agg #[.int .i64 a, .int .i64 b]) (hy : ac.eval y = .agg #[.int .i64 c, .int .i64 d]) :
    (execOp ac.eval o).run Try.prog w = .ok (.value (.bool ((a == c) && (b == d)))) w := by
  unfold execOp
  simp only [ho, hx, hy, Sem.run_bind, run_eqGuard_agg w .eql 42 x y _ _ noselRef, Result.andThen_ok, run_eql_struct, eqRef, Sem.run_pure]
/-- Ahead of each ref that is compared. -/
def SameRel (w : World) (l l' : List RefT) (v : Value) (wr : World) : Prop :=
  ∃ i : Nat, i ≤ l.length ∧ v = .int .i64 (i : Int) ∧ l.take i = l'.take i ∧ Below w.heap.size w wr
set_option maxHeartbeats 1000000 in
theorem sameRefs_any (A B : Option Addr) (n m c d : Nat) (l l' : List RefT) (hn : n = l.length) (hm : m = l'.length) (hl : l.length ≤ 5000) (w : World) (h : Refs w A l) (h' : Refs w B l') :
    Calls Try.prog 34 #[.slice A n c, .slice B m d] w fun e w' => e = .returned (.bool (decide (l = l'))) ∧ Below w.heap.size w w' := by
  by_cases hnm : n = m
  case neg =>
    have hne : Hid (decide (l = l') = false) := Lib.hid (decide_eq_false (fun e => hnm (by rw [hn, hm, e])))
    rw [hne.out]
    clear hn hm
    have H1 : ((n : Int) != (m : Int)) = true := by rw [bne_iff_ne]; omega
    go_enter Try.func34, Try.ntmps34
    go_wp2
    go_ret
    exact ⟨rfl, Below.refl _ _⟩
  subst hnm
  have H1 : ((n : Int) != (n : Int)) = false := by simp
  have HN := Lib.hid hn
  have HM := Lib.hid hm
  have hn5 : n ≤ 5000 := by omega
  clear hn hm hl
  go_enter Try.func34, Try.ntmps34
  go_wp2
  go_loopw [5] (fun v wr => SameRel w l l' v wr) (fun v _ => n - (intOf v).toNat)
  case atStart => exact ⟨0, by omega, rfl, rfl, Below.refl _ _⟩
  case round =>
    obtain ⟨i, hi, rfl, htk, hBr⟩ := hrel
    rw [← HN.out] at hi
    have HTK := Lib.hid htk
    clear htk H1
    by_cases hlt : i < n
    · have hr1 := Refs.below h hBr
      have hr2 := Refs.below h' hBr
      obtain ⟨b1, o1, rfl, _, hc1⟩ := hr1 (by rw [← HN.out]; omega)
      obtain ⟨b2, o2, rfl, _, hc2⟩ := hr2 (by rw [← HM.out]; omega)
      have hil : i < l.length := by rw [← HN.out]; exact hlt
      have him : i < l'.length := by rw [← HM.out]; exact hlt
      obtain ⟨d1, d2⟩ := hc1 i hil
      obtain ⟨d3, d4⟩ := hc2 i him
      have hx1 := Lib.hid (show l[i] = (l[i].1, l[i].2.1, ()) from rfl)
      have hx2 := Lib.hid (show l'[i] = (l'[i].1, l'[i].2.1, ()) from rfl)
      generalize hy1 : l[i].1 = x1 at d1 hx1
      generalize hy2 : l[i].2.1 = x2 at d2 hx1
      generalize hy3 : l'[i].1 = x3 at d3 hx2
      generalize hy4 : l'[i].2.1 = x4 at d4 hx2
      clear hy1 hy2 hy3 hy4 hc1 hc2 hr1 hr2
      go_wp2_with fail
      refine wp_region_quiet_lit (by kernel_rfl) (by kernel_rfl) ?_
      repeat (go_big_quiet_step (fail))
      refine wpQuiet_run (by rfl) _ (fun w' _ => exec_neq_ref w' _ _ _ (by rfl) x1 x2 x3 x4 (by rfl) (by rfl)) ?_
      simp only [Act.put, List.setIfInBounds_toArray, List.set_cons_zero, List.set_cons_succ]
      refine wpQuiet_nil ?_
      rintro _ ⟨nq, rfl⟩
      have hBd : Below w.heap.size w (wr.drewN nq) := below_drewN hBr nq
      cases hq : ((x1 == x3) && (x2 == x4))
      · have hne : Hid (decide (l = l') = false) := Lib.hid (decide_eq_false (fun e => by
          subst e
          have := hx1.out.symm.trans hx2.out
          simp only [Prod.mk.injEq, and_true] at this
          rw [this.1, this.2] at hq
          simp at hq))
        clear hq
        go_wp2
        go_ret
        exact ⟨by rw [hne.out]; rfl, hBd⟩
      · have hst : Hid (l.take (i + 1) = l'.take (i + 1)) := Lib.hid (by
          simp only [Bool.and_eq_true, beq_iff_eq] at hq
          rw [List.take_succ_eq_append_getElem hil, List.take_succ_eq_append_getElem him, HTK.out, hx1.out, hx2.out, hq.1, hq.2])
        clear hq
        go_wp2
        go_roundw
        case rel => exact ⟨i + 1, by omega, by go_num, hst.out, hBd⟩
        case measure => simp [intOf]; omega
    · obtain rfl : i = n := by omega
      have heq : Hid (decide (l = l') = true) := Lib.hid (decide_eq_true (by
        have := HTK.out
        rwa [HN.out, List.take_length, ← HN.out, HM.out, List.take_length] at this))
      go_wp2
      go_ret
      exact ⟨by rw [heq.out]; rfl, hBr⟩
/-- A block as a value: its lists can be read. -/
structure GBIs (w : World) (b : GBT) (A : Option Addr) (c : Nat) (B : Option Addr) (d : Nat) : Prop where
  refs : Refs w A b.2.2.1
  body : Bytes w B b.2.2.2.1
  rl : b.2.2.1.length ≤ 5000
  bl : b.2.2.2.1.length ≤ 140737488351300
theorem GBIs.below {w w' : World} {b : GBT} {A B : Option Addr} {c d : Nat} (h : GBIs w b A c B d) (hb : Below w.heap.size w w') : GBIs w' b A c B d := ⟨h.refs.below hb, Bytes.below h.body hb, h.rl, h.bl⟩
instance {w w' : World} {b : GBT} {A B : Option Addr} {c d : Nat} : KeepsTo w w' (GBIs w b A c B d) (GBIs w' b A c B d) := ⟨fun hb h => h.below hb⟩
set_option maxHeartbeats 1000000 in
theorem sameBlock_any (k k' a a' s s' : Int) (l l' : List RefT) (m m' : List UInt8) (A A' B B' : Option Addr) (c c' d d' : Nat) (w : World) (h : GBIs w (k, (a, s, ()), l, m, ()) A c B d) (h' : GBIs w (k', (a', s', ()), l', m', ()) A' c' B' d') :
    Calls Try.prog 38 #[.agg #[.int .i64 k, .int .i64 a, .int .i64 s, .slice A l.length c, .slice B m.length d], .agg #[.int .i64 k', .int .i64 a', .int .i64 s', .slice A' l'.length c', .slice B' m'.length d']] w
      fun e w' => e = .returned (.bool (decide (k = k' ∧ (a = a' ∧ s = s') ∧ l = l' ∧ m = m'))) ∧ Below w.heap.size w w' := by
  obtain ⟨P, hP⟩ : ∃ P : Bool, P = decide (k = k' ∧ (a = a' ∧ s = s') ∧ l = l' ∧ m = m') := ⟨_, rfl⟩
  rw [← hP]
  have hB0 : Below w.heap.size w ((w.alloc (.cells #[.int .i64 k, .int .i64 a, .int .i64 s, .slice A l.length c, .slice B m.length d] 45)).alloc (.cells #[.int .i64 k', .int .i64 a', .int .i64 s', .slice A' l'.length c', .slice B' m'.length d'] 45)) := ((Below.refl _ _).alloc (Nat.le_refl _) _).alloc (by simp) _
  by_cases h1 : k = k'
  case neg =>
    have hp : Hid (P = false) := Lib.hid (by rw [hP]; exact decide_eq_false fun e => h1 e.1)
    have H1 : (k == k') = false := by rw [beq_eq_false_iff_ne]; exact h1
    clear hP h1
    go_enter Try.func38, Try.ntmps38
    go_wp2
    go_ret
    exact ⟨by rw [hp.out]; rfl, hB0⟩
  subst h1
  have H1 : (k == k) = true := by simp
  cases h2 : ((a == a') && (s == s'))
  · have hp : Hid (P = false) := Lib.hid (by
      rw [hP]; refine decide_eq_false fun e => ?_
      rw [e.2.1.1, e.2.1.2] at h2; simp at h2)
    have H2 := Lib.hid h2
    clear hP h2
    go_enter Try.func38, Try.ntmps38
    go_wp2_with (first
      | (show wpList _ _ _ ((⟨some 15, _, _, _, _, _⟩ : Oper) :: _) _ _; refine wpList_want (by rfl) ?_; refine wpList_run (o := ⟨some 15, _, _, _, _, _⟩) _ (by rfl) (exec_eql_ref _ _ _ _ (by rfl) a s a' s' (by rfl) (by rfl)) ?_; rw [H2.out])
      | fail)
    go_ret
    exact ⟨by rw [hp.out]; rfl, hB0⟩
  have h2' : a = a' ∧ s = s' := by simpa using h2
  have H2 := Lib.hid h2
  have HP : Hid (P = (decide (l = l') && decide (m = m'))) := Lib.hid (by rw [hP]; simp [h2'])
  clear h2 h2' hP
  have hg1 := (Blk.new w 45 #[.int .i64 k, .int .i64 a, .int .i64 s, .slice A l.length c, .slice B m.length d]).alloc (.cells #[.int .i64 k, .int .i64 a', .int .i64 s', .slice A' l'.length c', .slice B' m'.length d'] 45)
  have hg2 := Blk.new' (w.alloc (.cells #[.int .i64 k, .int .i64 a, .int .i64 s, .slice A l.length c, .slice B m.length d] 45)) 45 #[.int .i64 k, .int .i64 a', .int .i64 s', .slice A' l'.length c', .slice B' m'.length d'] (n := w.heap.size + 1) (by simp)
  go_enter Try.func38, Try.ntmps38
  go_wp2_with (first
    | (show wpList _ _ _ ((⟨some 15, _, _, _, _, _⟩ : Oper) :: _) _ _; refine wpList_want (by rfl) ?_; refine wpList_run (o := ⟨some 15, _, _, _, _, _⟩) _ (by rfl) (exec_eql_ref _ _ _ _ (by rfl) a s a' s' (by rfl) (by rfl)) ?_; rw [H2.out])
    | fail)
  generalize (w.alloc (.cells #[.int .i64 k, .int .i64 a, .int .i64 s, .slice A l.length c, .slice B m.length d] 45)).alloc (.cells #[.int .i64 k, .int .i64 a', .int .i64 s', .slice A' l'.length c', .slice B' m'.length d'] 45) = w1 at hB0 hg1 hg2 ⊢
  have hh := h.below hB0
  have hh' := h'.below hB0
  refine (sameRefs_any A A' l.length l'.length c c' l l' rfl rfl h.rl w1 hh.refs hh'.refs).mono ?_
  rintro e w2 ⟨rfl, hbx⟩
  (replace hh := keep hbx hh; replace hh' := keep hbx hh'; replace hg1 := keep hbx hg1; replace hg2 := keep hbx hg2; replace hB0 := hB0.trans (hbx.mono hB0.size); clear hbx)
  have d1 := hg1.at_ (v := .slice B m.length d) 4 (by simp)
  have d2 := hg2.at_ (v := .slice B' m'.length d') 4 (by simp)
  cases h3 : decide (l = l')
  · have hp : Hid (P = false) := Lib.hid (by rw [HP.out, h3]; rfl)
    clear h3
    go_wp2
    go_ret
    exact ⟨by rw [hp.out]; rfl, hB0⟩
  · have hp : Hid (P = decide (m = m')) := Lib.hid (by rw [HP.out, h3]; rfl)
    clear h3
    go_wp2_with fail
    refine (sameBytes_any B B' m.length m'.length d d' m m' rfl rfl w2 hh.body hh'.body).mono ?_
    rintro e w2 ⟨rfl, rfl⟩
    rw [← hp.out]
    go_wp2
    go_ret
    exact ⟨rfl, hB0⟩
end Proofs.Ytfpcldnefpmgcaa
end Go
