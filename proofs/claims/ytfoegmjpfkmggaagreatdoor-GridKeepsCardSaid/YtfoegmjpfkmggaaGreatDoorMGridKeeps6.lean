/- Two blocks compared: two lists of refs, two blocks. Condition: the lists can be read. -/
import Derived.Test.YtfoegmjpfkmggaaGreatDoorMGridKeeps5
import Derived.Laws.StructEq
import Derived.Deep.MidRow
import Derived.OrdersIn
namespace Go
open Go.RowKit
theorem wpQuiet_run {P : Program} {ops : Array Oper} {C : World → Prop} {Q : Act → Prop} {rest : List Oper} {o : Oper} {a : Act} (hgd : o.guard = none) (v : Value) (hr : ∀ w, C w → (execOp a.eval o).run P w = .ok (.value v) w) (h : wpQuiet P ops C Q rest (a.put o.dst v)) : wpQuiet P ops C Q (o :: rest) a := by
  refine wpQuiet_step fun K hK => ?_
  rw [if_pos (by simp [Region.wanted, hgd])]
  refine ⟨v, fun w hw => ?_, hK _ h⟩
  unfold Oper.quietAt
  rw [hr w hw]
  exact ⟨rfl, rfl⟩
namespace Proofs.YtfoegmjpfkmggaaGreatDoor
open Go.RowKit
theorem noselRef : Tryz.prog.eqGuardType Tryz.prog.depth 113 = false := by kernel_rfl
theorem heldRef : Tryz.prog.stoodInHeld 113 = false := by kernel_rfl
set_option maxRecDepth 100000 in
theorem eqRef (w : World) (a b c d : Int) : (Op.equalIn 10000 113 (.agg #[.int .i64 a, .int .i64 b]) (.agg #[.int .i64 c, .int .i64 d])).run Tryz.prog w = .ok ((a == c) && (b == d)) w := by
  have hu : Tryz.prog.underlying 113 = some (.struct (Tryz.prog.fieldsOf 113)) := by kernel_rfl
  rw [show (10000 : Nat) = 9999 + 1 from rfl, run_equalIn_struct w 9999 113 _ _ hu heldRef]
  have e : Tryz.prog.fieldsOf 113 = (match Tryz.prog.underlying 113 with | some (.struct fs) => fs | _ => #[]) := rfl
  rw [e, Tryz.underlying113]
  have ei := Tryz.underlying3
  simp [Op.eqFields, part, go_sem, ei]
  by_cases h1 : a = c <;> by_cases h2 : b = d <;> simp [h1, h2]
theorem exec_neq_ref {o : Oper} {ac : Act} (w : World) (x y : Operand) (r : TypeId) (ho : o.op = .binOp .neq 113 x y r) (a b c d : Int) (hx : ac.eval x = .agg #[.int .i64 a, .int .i64 b]) (hy : ac.eval y = .agg #[.int .i64 c, .int .i64 d]) :
    (execOp ac.eval o).run Tryz.prog w = .ok (.value (.bool (!((a == c) && (b == d))))) w := by
  unfold execOp
  simp only [ho, hx, hy, Sem.run_bind, run_eqGuard_agg w .neq 113 x y _ _ noselRef, Result.andThen_ok, run_neq_struct, eqRef, Sem.run_pure]
theorem exec_eql_ref {o : Oper} {ac : Act} (w : World) (x y : Operand) (r : TypeId) (ho : o.op = .binOp .eql 113 x y r) (a b c d : Int) (hx : ac.eval x = .agg #[.int .i64 a, .int .i64 b]) (hy : ac.eval y = .agg #[.int .i64 c, .int .i64 d]) :
    (execOp ac.eval o).run Tryz.prog w = .ok (.value (.bool ((a == c) && (b == d)))) w := by
  unfold execOp
  simp only [ho, hx, hy, Sem.run_bind, run_eqGuard_agg w .eql 113 x y _ _ noselRef, Result.andThen_ok, run_eql_struct, eqRef, Sem.run_pure]
/-- Ahead of each ref that is compared. -/
def SameRel (w : World) (l l' : List RefT) (v : Value) (wr : World) : Prop :=
  ∃ i : Nat, i ≤ l.length ∧ v = .int .i64 (i : Int) ∧ l.take i = l'.take i ∧ Below w.heap.size w wr
set_option maxHeartbeats 1000000 in
theorem sameRefs_any (A B : Option Addr) (n m c d : Nat) (l l' : List RefT) (hn : n = l.length) (hm : m = l'.length) (hl : l.length ≤ 5000) (w : World) (h : Refs w A l) (h' : Refs w B l') :
    Calls Tryz.prog 57 #[.slice A n c, .slice B m d] w fun e w' => e = .returned (.bool (decide (l = l'))) ∧ Below w.heap.size w w' := by
  by_cases hnm : n = m
  case neg =>
    have hne : Hid (decide (l = l') = false) := Lib.hid (decide_eq_false (fun e => hnm (by rw [hn, hm, e])))
    rw [hne.out]
    clear hn hm
    have H1 : ((n : Int) != (m : Int)) = true := by rw [bne_iff_ne]; omega
    go_enter Tryz.func57, Tryz.ntmps57
    go_wp2
    go_ret
    exact ⟨rfl, Below.refl _ _⟩
  subst hnm
  have H1 : ((n : Int) != (n : Int)) = false := by simp
  have HN := Lib.hid hn
  have HM := Lib.hid hm
  have hn5 : n ≤ 5000 := by omega
  clear hn hm hl
  go_enter Tryz.func57, Tryz.ntmps57
  go_wp2
  go_loopw [5] (fun v wr => SameRel w l l' v wr) (fun v _ => n - (intOf v).toNat)
  case atStart => exact ⟨0, by omega, rfl, rfl, Below.refl _ _⟩
  case round =>
    obtain ⟨i, hi, rfl, htk, hBr⟩ := hrel
    rw [← HN.out] at hi
    have HTK := Lib.hid htk
    clear htk H1
    by_cases hlt : i < n
    · have hr1 := Refs.below h hBr
      have hr2 := Refs.below h' hBr
      obtain ⟨b1, o1, rfl, _, hc1⟩ := hr1 (by rw [← HN.out]; omega)
      obtain ⟨b2, o2, rfl, _, hc2⟩ := hr2 (by rw [← HM.out]; omega)
      have hil : i < l.length := by rw [← HN.out]; exact hlt
      have him : i < l'.length := by rw [← HM.out]; exact hlt
      obtain ⟨d1, d2⟩ := hc1 i hil
      obtain ⟨d3, d4⟩ := hc2 i him
      have hx1 := Lib.hid (show l[i] = (l[i].1, l[i].2.1, ()) from rfl)
      have hx2 := Lib.hid (show l'[i] = (l'[i].1, l'[i].2.1, ()) from rfl)
      generalize hy1 : l[i].1 = x1 at d1 hx1
      generalize hy2 : l[i].2.1 = x2 at d2 hx1
      generalize hy3 : l'[i].1 = x3 at d3 hx2
      generalize hy4 : l'[i].2.1 = x4 at d4 hx2
      clear hy1 hy2 hy3 hy4 hc1 hc2 hr1 hr2
      go_wp2_with fail
      refine wp_region_quiet_lit (by kernel_rfl) (by kernel_rfl) ?_
      repeat (go_big_quiet_step (fail))
      refine wpQuiet_run (by rfl) _ (fun w' _ => exec_neq_ref w' _ _ _ (by rfl) x1 x2 x3 x4 (by rfl) (by rfl)) ?_
      simp only [Act.put, List.setIfInBounds_toArray, List.set_cons_zero, List.set_cons_succ]
      refine wpQuiet_nil ?_
      rintro _ ⟨nq, rfl⟩
      have hBd : Below w.heap.size w (wr.drewN nq) := below_drewN hBr nq
      cases hq : ((x1 == x3) && (x2 == x4))
      · have hne : Hid (decide (l = l') = false) := Lib.hid (decide_eq_false (fun e => by
          subst e
          have := hx1.out.symm.trans hx2.out
          simp only [Prod.mk.injEq, and_true] at this
          rw [this.1, this.2] at hq
          simp at hq))
        clear hq
        go_wp2
        go_ret
        exact ⟨by rw [hne.out]; rfl, hBd⟩
      · have hst : Hid (l.take (i + 1) = l'.take (i + 1)) := Lib.hid (by
          simp only [Bool.and_eq_true, beq_iff_eq] at hq
          rw [List.take_succ_eq_append_getElem hil, List.take_succ_eq_append_getElem him, HTK.out, hx1.out, hx2.out, hq.1, hq.2])
        clear hq
        go_wp2
        go_roundw
        case rel => exact ⟨i + 1, by omega, by go_num, hst.out, hBd⟩
        case measure => simp [intOf]; omega
    · obtain rfl : i = n := by omega
      have heq : Hid (decide (l = l') = true) := Lib.hid (decide_eq_true (by
        have := HTK.out
        rwa [HN.out, List.take_length, ← HN.out, HM.out, List.take_length] at this))
      go_wp2
      go_ret
      exact ⟨by rw [heq.out]; rfl, hBr⟩
/-- A block as a value: its lists can be read. -/
structure GBIs (w : World) (b : GBT) (A : Option Addr) (c : Nat) (B : Option Addr) (d : Nat) : Prop where
  refs : Refs w A b.2.2.1
  body : Bytes w B b.2.2.2.1
  rl : b.2.2.1.length ≤ 5000
  bl : b.2.2.2.1.length ≤ 140737488351300
theorem GBIs.below {w w' : World} {b : GBT} {A B : Option Addr} {c d : Nat} (h : GBIs w b A c B d) (hb : Below w.heap.size w w') : GBIs w' b A c B d := ⟨h.refs.below hb, Bytes.below h.body hb, h.rl, h.bl⟩
instance {w w' : World} {b : GBT} {A B : Option Addr} {c d : Nat} : KeepsTo w w' (GBIs w b A c B d) (GBIs w' b A c B d) := ⟨fun hb h => h.below hb⟩
set_option maxHeartbeats 1000000 in
theorem sameBlock_any (k k' a a' s s' : Int) (l l' : List RefT) (m m' : List UInt8) (A A' B B' : Option Addr) (c c' d d' : Nat) (w : World) (h : GBIs w (k, (a, s, ()), l, m, ()) A c B d) (h' : GBIs w (k', (a', s', ()), l', m', ()) A' c' B' d') :
    Calls Tryz.prog 69 #[.agg #[.int .i64 k, .int .i64 a, .int .i64 s, .slice A l.length c, .slice B m.length d], .agg #[.int .i64 k', .int .i64 a', .int .i64 s', .slice A' l'.length c', .slice B' m'.length d']] w
      fun e w' => e = .returned (.bool (decide (k = k' ∧ (a = a' ∧ s = s') ∧ l = l' ∧ m = m'))) ∧ Below w.heap.size w w' := by
  obtain ⟨P, hP⟩ : ∃ P : Bool, P = decide (k = k' ∧ (a = a' ∧ s = s') ∧ l = l' ∧ m = m') := ⟨_, rfl⟩
  rw [← hP]
  have hB0 : Below w.heap.size w ((w.alloc (.cells #[.int .i64 k, .int .i64 a, .int .i64 s, .slice A l.length c, .slice B m.length d] 116)).alloc (.cells #[.int .i64 k', .int .i64 a', .int .i64 s', .slice A' l'.length c', .slice B' m'.length d'] 116)) := ((Below.refl _ _).alloc (Nat.le_refl _) _).alloc (by simp) _
  by_cases h1 : k = k'
  case neg =>
    have hp : Hid (P = false) := Lib.hid (by rw [hP]; exact decide_eq_false fun e => h1 e.1)
    have H1 : (k == k') = false := by rw [beq_eq_false_iff_ne]; exact h1
    clear hP h1
    go_enter Tryz.func69, Tryz.ntmps69
    go_wp2
    go_ret
    exact ⟨by rw [hp.out]; rfl, hB0⟩
  subst h1
  have H1 : (k == k) = true := by simp
  cases h2 : ((a == a') && (s == s'))
  · have hp : Hid (P = false) := Lib.hid (by
      rw [hP]; refine decide_eq_false fun e => ?_
      rw [e.2.1.1, e.2.1.2] at h2; simp at h2)
    have H2 := Lib.hid h2
    clear hP h2
    go_enter Tryz.func69, Tryz.ntmps69
    go_wp2_with (first
      | (show wpList _ _ _ ((⟨some 15, _, _, _, _, _⟩ : Oper) :: _) _ _; refine wpList_want (by rfl) ?_; refine wpList_run (o := ⟨some 15, _, _, _, _, _⟩) _ (by rfl) (exec_eql_ref _ _ _ _ (by rfl) a s a' s' (by rfl) (by rfl)) ?_; rw [H2.out])
      | fail)
    go_ret
    exact ⟨by rw [hp.out]; rfl, hB0⟩
  have h2' : a = a' ∧ s = s' := by simpa using h2
  have H2 := Lib.hid h2
  have HP : Hid (P = (decide (l = l') && decide (m = m'))) := Lib.hid (by rw [hP]; simp [h2'])
  clear h2 h2' hP
  have hg1 := (Blk.new w 116 #[.int .i64 k, .int .i64 a, .int .i64 s, .slice A l.length c, .slice B m.length d]).alloc (.cells #[.int .i64 k, .int .i64 a', .int .i64 s', .slice A' l'.length c', .slice B' m'.length d'] 116)
  have hg2 := Blk.new' (w.alloc (.cells #[.int .i64 k, .int .i64 a, .int .i64 s, .slice A l.length c, .slice B m.length d] 116)) 116 #[.int .i64 k, .int .i64 a', .int .i64 s', .slice A' l'.length c', .slice B' m'.length d'] (n := w.heap.size + 1) (by simp)
  go_enter Tryz.func69, Tryz.ntmps69
  go_wp2_with (first
    | (show wpList _ _ _ ((⟨some 15, _, _, _, _, _⟩ : Oper) :: _) _ _; refine wpList_want (by rfl) ?_; refine wpList_run (o := ⟨some 15, _, _, _, _, _⟩) _ (by rfl) (exec_eql_ref _ _ _ _ (by rfl) a s a' s' (by rfl) (by rfl)) ?_; rw [H2.out])
    | fail)
  generalize (w.alloc (.cells #[.int .i64 k, .int .i64 a, .int .i64 s, .slice A l.length c, .slice B m.length d] 116)).alloc (.cells #[.int .i64 k, .int .i64 a', .int .i64 s', .slice A' l'.length c', .slice B' m'.length d'] 116) = w1 at hB0 hg1 hg2 ⊢
  have hh := h.below hB0
  have hh' := h'.below hB0
  refine (sameRefs_any A A' l.length l'.length c c' l l' rfl rfl h.rl w1 hh.refs hh'.refs).mono ?_
  rintro e w2 ⟨rfl, hbx⟩
  (replace hh := keep hbx hh; replace hh' := keep hbx hh'; replace hg1 := keep hbx hg1; replace hg2 := keep hbx hg2; replace hB0 := hB0.trans (hbx.mono hB0.size); clear hbx)
  have d1 := hg1.at_ (v := .slice B m.length d) 4 (by simp)
  have d2 := hg2.at_ (v := .slice B' m'.length d') 4 (by simp)
  cases h3 : decide (l = l')
  · have hp : Hid (P = false) := Lib.hid (by rw [HP.out, h3]; rfl)
    clear h3
    go_wp2
    go_ret
    exact ⟨by rw [hp.out]; rfl, hB0⟩
  · have hp : Hid (P = decide (m = m')) := Lib.hid (by rw [HP.out, h3]; rfl)
    clear h3
    go_wp2_with fail
    refine (sameBytes_any B B' m.length m'.length d d' m m' rfl rfl w2 hh.body hh'.body).mono ?_
    rintro e w2 ⟨rfl, rfl⟩
    rw [← hp.out]
    go_wp2
    go_ret
    exact ⟨rfl, hB0⟩
end Proofs.YtfoegmjpfkmggaaGreatDoor
end Go

/- Refs as keys of a map; those that are wanted. Plain facts of this program. No condition. -/
namespace Go.Proofs.YtfoegmjpfkmggaaGreatDoor
open Go.RowKit
def encRef (r : RefT) : Value := .agg #[.int .i64 r.1, .int .i64 r.2.1]
theorem refWide : (match Tryz.prog.underlying 113 with | some (.array _ _) | some (.struct _) => true | _ => false) = true := by kernel_rfl
theorem intKey (em : Bool) (n : Nat) (x : Int) (w : World) : (Instr.checkKey em (n + 1) 3 (.int .i64 x)).run Tryz.prog w = .ok () w := by
  rw [Instr.checkKey]
  simp only [Sem.run_bind, run_underlying Tryz.underlying3, Result.andThen_ok, Sem.run_pure]
set_option maxRecDepth 100000 in
theorem refCheck (em : Bool) (a b : Int) (w : World) : (Instr.checkKey em 10000 113 (.agg #[.int .i64 a, .int .i64 b])).run Tryz.prog w = .ok () w := by
  have hu := Tryz.underlying113
  have k := fun x => intKey em 9998 x w
  rw [show (10000 : Nat) = 9999 + 1 from rfl, Instr.checkKey]
  simp only [Sem.run_bind, run_underlying hu, Result.andThen_ok]
  simp [part, go_sem, k]
set_option maxRecDepth 100000 in
theorem refKey : KeyLaw Tryz.prog 113 (fun _ : RefT => True) encRef := by
  refine ⟨refWide, fun em x w _ => refCheck em x.1 x.2.1 w, fun x y w _ _ => ⟨_, eqRef w x.1 x.2.1 y.1 y.2.1, ?_⟩, fun x _ => ?_⟩
  · rw [Bool.and_eq_true, beq_iff_eq, beq_iff_eq]
    exact ⟨fun h => Prod.ext h.1 (Prod.ext h.2 rfl), fun h => by rw [h]; exact ⟨rfl, rfl⟩⟩
  · simp [encRef, Instr.sameBits]
/-- The map of those that are wanted. -/
def wantM (W : List RefT) : List (RefT × Value) := W.map fun r => (r, .bool true)
theorem wantM_get (W : List RefT) (r : RefT) : (kget (wantM W) r).getD (.bool false) = .bool (decide (r ∈ W)) := by
  induction W with
  | nil => rfl
  | cons x W ih =>
    unfold wantM at ih ⊢
    rw [List.map_cons, kget_cons]
    by_cases h : r = x
    · rw [if_pos h]; simp [h]
    · rw [if_neg h, ih]; simp [h]
theorem wantM_put (W : List RefT) (r : RefT) (h : r ∉ W) : kput (wantM W) r (.bool true) = wantM (W ++ [r]) := by
  induction W with
  | nil => rfl
  | cons x W ih =>
    unfold wantM at ih ⊢
    rw [List.map_cons, kput_cons, if_neg (fun e => h (by rw [e]; exact List.mem_cons_self)), ih (fun hx => h (List.mem_cons_of_mem _ hx))]
    rfl
theorem wantM_del (W : List RefT) (r : RefT) : kdel (wantM W) r = wantM (W.erase r) := by
  induction W with
  | nil => rfl
  | cons x W ih =>
    unfold wantM at ih ⊢
    rw [List.map_cons, kdel_cons]
    by_cases h : r = x
    · subst h; rw [if_pos rfl, List.erase_cons_head]
    · rw [if_neg h, ih, List.erase_cons_tail (by simpa using fun e => h e.symm)]; rfl
end Go.Proofs.YtfoegmjpfkmggaaGreatDoor

/- A store of a whole struct or array into the middle of an own block. Plain facts over any program. Condition: the block is long enough. -/
namespace Go
open Go.RowKit
def setAll (cs : Array Value) : Nat → List Value → Array Value
  | _, [] => cs
  | o, v :: r => setAll (cs.setIfInBounds o v) (o + 1) r
theorem Blk.setCells {g : Nat} {t : TypeId} : ∀ (vs : List Value) (o : Nat) (w : World) (cs : Array Value), Blk w g t cs → Blk (w.setCells g o vs) g t (setAll cs o vs)
  | [], _, _, _, h => h
  | v :: r, o, _, _, h => Blk.setCells r (o + 1) _ _ (h.set_ o v)
theorem Upd.setCells {g : Nat} {w0 : World} : ∀ (vs : List Value) (o : Nat) (w : World), Upd g w0 w → Upd g w0 (w.setCells g o vs)
  | [], _, _, h => h
  | v :: r, o, _, h => Upd.setCells r (o + 1) _ (h.set o v)
theorem wpList_store_in {P : Program} {w : World} {Q : Exit → Act → World → Prop} {ops : Array Oper} {rest : List Oper} {o : Oper} {a : Act} {g : Nat} {t : TypeId} {cs : Array Value} (hb : Blk w g t cs) (hgd : o.guard = none) (ty : TypeId) (x y : Operand) (ho : o.op = .store ty x y)
    (k : Nat) (hx : a.eval x = .pointer (some ⟨g, k, none⟩)) (vs : Array Value) (hy : a.eval y = .agg vs) {n : Nat} (hi : (P.info? ty).map (·.size) = some n) (hs : vs.size = n) (hk : k + n ≤ cs.size) (h1 : vs.all (·.oneCell') = true)
    (h : ∀ w', Blk w' g t (setAll cs k vs.toList) → Upd g w w' → wpList P ops Q rest (a.put o.dst undef) w') : wpList P ops Q (o :: rest) a w :=
  wpList_store_mid hgd ty x y ho g k vs hx hy (fun j hj => ⟨by rw [hb.cell, Array.getElem?_eq_getElem (by omega)]; rfl, hb.frozen _⟩) (by rw [hs]; exact hi) h1
    (h _ (Blk.setCells vs.toList k w cs hb) (Upd.setCells vs.toList k w (Upd.refl g w)))
end Go

/- A disk's bytes as one list, sector behind sector; bytes written over a part of them. Plain facts. No condition. -/
namespace Go
/-- The bytes b, written from the place p on. -/
def wr (L : List UInt8) (p : Nat) (b : List UInt8) : List UInt8 := L.take p ++ (b ++ L.drop (p + b.length))
theorem wr_length {L b : List UInt8} {p : Nat} (h : p + b.length ≤ L.length) : (wr L p b).length = L.length := by
  unfold wr; rw [List.length_append, List.length_append, List.length_take, List.length_drop]; omega
theorem wr_nil (L : List UInt8) (p : Nat) : wr L p [] = L := by unfold wr; rw [List.nil_append, List.length_nil, Nat.add_zero, List.take_append_drop]
theorem wr_drop {L b : List UInt8} {p : Nat} (h : p ≤ L.length) (k : Nat) : (wr L p b).drop (p + b.length + k) = L.drop (p + b.length + k) := by
  have hl : (L.take p ++ b).length = p + b.length := by rw [List.length_append, List.length_take]; omega
  unfold wr
  rw [← List.append_assoc, ← List.drop_drop, List.drop_left' hl, List.drop_drop]
theorem wr_mid {L b : List UInt8} {p : Nat} (h : p ≤ L.length) : ((wr L p b).drop p).take b.length = b := by
  have hl : (L.take p).length = p := by rw [List.length_take]; omega
  unfold wr
  rw [show (L.take p ++ (b ++ L.drop (p + b.length))).drop p = b ++ L.drop (p + b.length) by
    have e := List.drop_left (l₁ := L.take p) (l₂ := b ++ L.drop (p + b.length)); rw [hl] at e; exact e, List.take_left]
theorem wr_wr {L a b : List UInt8} {p : Nat} (h : p + a.length + b.length ≤ L.length) : wr (wr L p a) (p + a.length) b = wr L p (a ++ b) := by
  have hp : p ≤ L.length := by omega
  have hl : (L.take p).length = p := by rw [List.length_take]; omega
  have h1 : (wr L p a).take (p + a.length) = L.take p ++ a := by
    unfold wr
    rw [← List.append_assoc, List.take_append_of_le_length (by rw [List.length_append]; omega), List.take_of_length_le (by rw [List.length_append]; omega)]
  have h2 : (wr L p a).drop (p + a.length + b.length) = L.drop (p + a.length + b.length) := wr_drop hp b.length
  show (wr L p a).take (p + a.length) ++ (b ++ (wr L p a).drop (p + a.length + b.length)) = L.take p ++ ((a ++ b) ++ L.drop (p + (a ++ b).length))
  rw [h1, h2, List.length_append, List.append_assoc, List.append_assoc, Nat.add_assoc]
theorem wr_set {L : List UInt8} {p : Nat} {x : UInt8} {r : List UInt8} (h : p < L.length) : wr (L.set p x) (p + 1) r = wr L p (x :: r) := by
  have hl : (L.take p ++ [x]).length = p + 1 := by rw [List.length_append, List.length_take]; simp; omega
  have e : L.set p x = (L.take p ++ [x]) ++ L.drop (p + 1) := by rw [List.set_eq_take_append_cons_drop, if_pos h]; simp
  unfold wr
  rw [e, List.take_left' hl, ← List.drop_drop, List.drop_left' hl, List.drop_drop, List.length_cons, List.append_assoc, show p + 1 + r.length = p + (r.length + 1) by omega]
  rfl
theorem setAll_wr : ∀ (b L : List UInt8) (p : Nat), p + b.length ≤ L.length → setAll (L.map u8v).toArray p (b.map u8v) = ((wr L p b).map u8v).toArray
  | [], L, p, _ => by rw [wr_nil]; rfl
  | x :: r, L, p, h => by
    rw [List.length_cons] at h
    rw [List.map_cons]
    show setAll ((L.map u8v).toArray.setIfInBounds p (u8v x)) (p + 1) (r.map u8v) = _
    have e : (L.map u8v).toArray.setIfInBounds p (u8v x) = ((L.set p x).map u8v).toArray := by simp [List.map_set]
    rw [e, setAll_wr r (L.set p x) (p + 1) (by rw [List.length_set]; omega), wr_set (by omega)]
end Go

/- make of a list of sectors of noughts, and of a map. Plain facts over any program. Conditions: as many as the memory holds. -/
namespace Go
open Go.RowKit
theorem madeCells_noughts (Z : Array Value) (hz : ∀ i, i < Z.size → Z[i]? = some (.int .u8 0)) (h0 : 0 < Z.size) (m : Nat) : madeCells Z m = ((List.replicate m (0 : UInt8)).map u8v).toArray := by
  unfold madeCells
  apply Array.ext_getElem?
  intro j
  by_cases hj : j < m
  · have h1 := hz (j % Z.size) (Nat.mod_lt _ h0)
    have h2 : Z[j % Z.size]! = .int .u8 0 := by rw [getElem!_def, h1]
    simp only [Array.getElem?_map, Array.getElem?_range, hj, if_true, Option.map_some, h2, List.getElem?_toArray, List.getElem?_map, List.getElem?_replicate]
    rfl
  · simp [hj]
theorem wpList_make_rows {P : Program} (w : World) {ops : Array Oper} {rest : List Oper} {o : Oper} {a : Act} {Q : Exit → Act → World → Prop}
    (hg : o.guard = none) (l c : Operand) (t : TypeId) (hop : o.op = Op.makeSlice t l c) (e : TypeId) (h1 : P.underlying t = some (.slice e)) (Z : Array Value) (s : Nat) (h2 : (P.info? e).map (fun i => (i.zero, i.size, i.bytes)) = some (some (.agg Z), s, s))
    (hZs : Z.size = s) (h0 : 0 < s) (hz : ∀ i, i < Z.size → Z[i]? = some (.int .u8 0)) (kl kc : IntKind) (n : Nat) (hl : a.eval l = .int kl (n : Int)) (hc : a.eval c = .int kc (n : Int)) (hm : s * n ≤ 140737488400000)
    (hK : ∀ w', Blk w' w.heap.size e ((List.replicate (n * s) (0 : UInt8)).map u8v).toArray → Below w.heap.size w w' → w'.heap.size = w.heap.size + 1 → wpList P ops Q rest (a.put o.dst (.slice (some ⟨w.heap.size, 0, none⟩) n n)) w') :
    wpList P ops Q (o :: rest) a w := by
  obtain ⟨i, hi, hzz⟩ := Option.map_eq_some_iff.1 h2
  simp only [Prod.mk.injEq] at hzz
  obtain ⟨hz1, hs, hb⟩ := hzz
  have hns : n ≤ s * n := Nat.le_mul_of_pos_left n h0
  have hr := run_make (P := P) w t e i _ h1 hi hz1 kl kc n n (by omega) (by omega) (by rw [hb, ← Int.natCast_mul]; omega) (by omega)
  rw [Int.toNat_natCast, hs, show (Value.agg Z).cells = Z from rfl, madeCells_noughts Z hz (by omega)] at hr
  refine wpList_plain hg fun K hK' => ?_
  unfold Oper.wp
  simp only [execOp, hop, hl, hc, hr, Sem.run_bind, Result.andThen_ok, Sem.run_pure]
  exact hK' _ _ (hK _ (Blk.new w e _) ((Below.refl _ _).alloc (Nat.le_refl _) _) (by simp))
theorem wpList_make_map {P : Program} (w : World) {ops : Array Oper} {rest : List Oper} {o : Oper} {a : Act} {Q : Exit → Act → World → Prop} (hg : o.guard = none) (t : TypeId) (hop : o.op = Op.makeMap t none)
    (h : ∀ w', MapB w' w.heap.size #[] 0 → Below w.heap.size w w' → w'.heap.size = w.heap.size + 1 → wpList P ops Q rest (a.put o.dst (.map (some w.heap.size))) w') : wpList P ops Q (o :: rest) a w := by
  have hr : (Instr.makeMap t none).run P w = .ok (.map (some w.heap.size)) (w.alloc (.map #[] 0)) := by
    simp [Instr.makeMap, newObj, Sem.run, Result.andThen]
  refine wpList_plain hg fun K hK => ?_
  unfold Oper.wp
  simp only [execOp, hop, Option.map_none, hr, Sem.run_bind, Result.andThen_ok, Sem.run_pure]
  exact hK _ _ (h _ (MapB.new w _ _) ((Below.refl _ _).alloc (Nat.le_refl _) _) (by simp))
end Go

/- A disk as the program keeps it; is it none, is it out, is it ready, how many sectors has it, is it up. Conditions: the disk is one that was made, or none. -/
namespace Go.Proofs.YtfoegmjpfkmggaaGreatDoor
open Go.RowKit
/-- A disk's own block: its sectors' bytes in gl, its loose sectors in gm, is it out, its fuse, its changes. -/
def dkc (gl gm N : Nat) (out : Bool) (fz : Option Nat) (ops : Int) : Array Value := #[.slice (some ⟨gl, 0, none⟩) N N, .map (some gm), .bool out, .pointer (fz.map fun g => ⟨g, 0, none⟩), .int .i64 ops]
def DiskB (w : World) (gd gl gm N : Nat) (L : List UInt8) (es : Array MapEntry) (c : Nat) (out : Bool) (fz : Option Nat) (ops : Int) : Prop :=
  Blk w gd 100 (dkc gl gm N out fz ops) ∧ Blk w gl 102 (L.map u8v).toArray ∧ MapB w gm es c
def FuseB (w : World) (gf : Nat) (left : Int) (gone : Bool) : Prop := Blk w gf 179 #[.int .i64 left, .bool gone]
def noDisk : Array Value := #[.slice none 0 0, .map none, .bool false, .pointer none, .int .i64 0]
theorem DiskB.below {w w' : World} {gd gl gm N : Nat} {L : List UInt8} {es : Array MapEntry} {c : Nat} {out : Bool} {fz : Option Nat} {ops : Int} (h : DiskB w gd gl gm N L es c out fz ops) (hb : Below w.heap.size w w') : DiskB w' gd gl gm N L es c out fz ops :=
  ⟨h.1.below hb h.1.lt, h.2.1.below hb h.2.1.lt, h.2.2.below hb h.2.2.lt⟩
instance {w w' : World} {gd gl gm N : Nat} {L : List UInt8} {es : Array MapEntry} {c : Nat} {out : Bool} {fz : Option Nat} {ops : Int} : KeepsTo w w' (DiskB w gd gl gm N L es c out fz ops) (DiskB w' gd gl gm N L es c out fz ops) := ⟨fun hb h => h.below hb⟩
theorem FuseB.below {w w' : World} {gf : Nat} {left : Int} {gone : Bool} (h : FuseB w gf left gone) (hb : Below w.heap.size w w') : FuseB w' gf left gone := Blk.below (h : Blk w gf 179 _) hb h.lt
instance {w w' : World} {gf : Nat} {left : Int} {gone : Bool} : KeepsTo w w' (FuseB w gf left gone) (FuseB w' gf left gone) := ⟨fun hb h => h.below hb⟩
theorem eqlSome (g N : Nat) (w : World) : (binOp .eql 96 (.slice (some ⟨g, 0, none⟩) N N) (.slice none 0 0)).run Tryz.prog w = .ok (.bool false) w := by kernel_rfl
section
variable {gd gl gm N c : Nat} {L : List UInt8} {es : Array MapEntry} {out : Bool} {fz : Option Nat} {ops : Int}
set_option maxRecDepth 100000 in
theorem none_made (w : World) (h : DiskB w gd gl gm N L es c out fz ops) : Calls Tryz.prog 40 #[.pointer (some ⟨gd, 0, none⟩)] w fun e w' => e = .returned (.bool false) ∧ w' = w := by
  have d0 := h.1.at_ 0 (v := .slice (some ⟨gl, 0, none⟩) N N) rfl
  have he := eqlSome gl N
  clear h
  go_enter Tryz.func40, Tryz.ntmps40
  go_wp2
  go_ret
  exact ⟨rfl, rfl⟩
set_option maxRecDepth 100000 in
theorem isOut_none (w : World) (h : DiskB w gd gl gm N L es c out none ops) : Calls Tryz.prog 119 #[.pointer (some ⟨gd, 0, none⟩)] w fun e w' => e = .returned (.bool out) ∧ w' = w := by
  have d2 := h.1.at_ 2 (v := .bool out) rfl
  have d3 := h.1.at_ 3 (v := .pointer none) rfl
  clear h
  cases out
  all_goals
    go_enter Tryz.func119, Tryz.ntmps119
    go_wp2
    go_ret
    exact ⟨rfl, rfl⟩
set_option maxRecDepth 100000 in
theorem isOut_some (gf : Nat) (left : Int) (gone : Bool) (w : World) (h : DiskB w gd gl gm N L es c out (some gf) ops) (hf : FuseB w gf left gone) : Calls Tryz.prog 119 #[.pointer (some ⟨gd, 0, none⟩)] w fun e w' => e = .returned (.bool (out || gone)) ∧ w' = w := by
  have d2 := h.1.at_ 2 (v := .bool out) rfl
  have d3 := h.1.at_ 3 (v := .pointer (some ⟨gf, 0, none⟩)) rfl
  have d1 := Blk.at_ (hf : Blk w gf _ _) 1 (v := .bool gone) rfl
  clear h hf
  cases out
  all_goals
    go_enter Tryz.func119, Tryz.ntmps119
    go_wp2
    go_ret
    exact ⟨rfl, rfl⟩
end
end Go.Proofs.YtfoegmjpfkmggaaGreatDoor

/- A disk is made; is it ready, how many sectors has it, is it up. Conditions: the disk is one that was made, or none. -/
namespace Go.Proofs.YtfoegmjpfkmggaaGreatDoor
open Go.RowKit
def zeroSec : Array Value := arr 256 fun _ => .int .u8 0
theorem infoSec : (Tryz.prog.info? 102).map (fun i => (i.zero, i.size, i.bytes)) = some (some (.agg zeroSec), 256, 256) := by kernel_rfl
theorem zeroSec_size : zeroSec.size = 256 := arr_size _ _
theorem zeroSec_at (i : Nat) (h : i < zeroSec.size) : zeroSec[i]? = some (.int .u8 0) := arr_at _ (by rw [zeroSec_size] at h; exact h)
set_option maxHeartbeats 1000000 in
theorem new_any (N : Nat) (h : 1 ≤ N ∧ N ≤ 65536) (w : World) : Calls Tryz.prog 21 #[.int .i64 (N : Int)] w fun e w' => ∃ gd gl gm, e = .returned (.tuple #[.pointer (some ⟨gd, 0, none⟩), .int .i64 0]) ∧
      DiskB w' gd gl gm N (List.replicate (N * 256) 0) #[] 0 false none 0 ∧ (w.heap.size ≤ gd ∧ w.heap.size ≤ gl ∧ w.heap.size ≤ gm ∧ gd ≠ gl ∧ gd ≠ gm ∧ gl ≠ gm) ∧ Below w.heap.size w w' := by
  have h1 : decide ((N : Int) < 1) = false := by rw [decide_eq_false_iff_not]; omega
  have h2 : decide ((N : Int) > 65536) = false := by rw [decide_eq_false_iff_not]; omega
  have HN := Lib.hid h
  clear h
  go_enter Tryz.func21, Tryz.ntmps21
  go_wp2_with (first
    | ((with_reducible show wpList _ _ _ ((⟨some 11, _, _, _, _, _⟩ : Oper) :: _) _ _); refine wpList_make_rows (o := ⟨some 11, _, _, _, _, _⟩) _ (by rfl) _ _ _ (by rfl) _ Tryz.underlying96 zeroSec 256 infoSec zeroSec_size (by omega) zeroSec_at .i64 .i64 N (by rfl) (by rfl) (by have := HN.out; omega) ?_; intro w1 hl1 hb1 hs1; clear hs1)
    | ((with_reducible show wpList _ _ _ ((⟨some 12, _, _, _, _, _⟩ : Oper) :: _) _ _); refine wpList_make_map (o := ⟨some 12, _, _, _, _, _⟩) _ (by rfl) _ (by rfl) ?_; intro w2 hm2 hb2 hs2; clear hs2)
    | fail)
  have hl2 := hl1.below hb2 hl1.lt
  have hgd := Blk.new w2 100 (dkc w.heap.size w1.heap.size N false none 0)
  have hbx := (Below.refl w2.heap.size w2).alloc (Nat.le_refl _) (.cells (dkc w.heap.size w1.heap.size N false none 0) 100)
  have hl3 := hl2.below hbx hl2.lt
  have hm3 := hm2.below hbx hm2.lt
  have hB := (hb1.trans (hb2.mono hb1.size)).trans (hbx.mono (by have := hb1.size; have := hb2.size; omega))
  go_ret2
  exact ⟨w2.heap.size, w.heap.size, w1.heap.size, rfl, ⟨hgd, hl3, hm3⟩, by have := hl1.lt; have := hm2.lt; omega, hB⟩
section
variable {gd gl gm N c : Nat} {L : List UInt8} {es : Array MapEntry} {out : Bool} {fz : Option Nat} {ops : Int}
theorem ready_made (w : World) (q : Bool) (hq : ∀ w', w' = w → Calls Tryz.prog 119 #[.pointer (some ⟨gd, 0, none⟩)] w' fun e w'' => e = .returned (.bool q) ∧ w'' = w') (h : DiskB w gd gl gm N L es c out fz ops) :
    Calls Tryz.prog 79 #[.pointer (some ⟨gd, 0, none⟩)] w fun e w' => e = .returned (.int .i64 (if q = true then 11 else 0)) ∧ w' = w := by
  go_enter Tryz.func79, Tryz.ntmps79
  go_wp2_with fail
  refine (none_made w h).mono ?_
  rintro e w1 ⟨rfl, rfl⟩
  clear h
  go_wp2_with fail
  refine (hq _ rfl).mono ?_
  rintro e w2 ⟨rfl, rfl⟩
  clear hq
  cases q
  all_goals
    go_wp2
    go_ret
    exact ⟨rfl, rfl⟩
set_option maxRecDepth 100000 in
theorem sectors_made (w : World) (h : DiskB w gd gl gm N L es c out fz ops) : Calls Tryz.prog 92 #[.pointer (some ⟨gd, 0, none⟩)] w fun e w' => e = .returned (.int .i64 (N : Int)) ∧ w' = w := by
  have d0 := h.1.at_ 0 (v := .slice (some ⟨gl, 0, none⟩) N N) rfl
  go_enter Tryz.func92, Tryz.ntmps92
  go_wp2_with fail
  refine (none_made w h).mono ?_
  rintro e w1 ⟨rfl, rfl⟩
  clear h
  go_wp2
  go_ret
  exact ⟨rfl, rfl⟩
theorem up_made (w : World) (q : Bool) (hq : ∀ w', w' = w → Calls Tryz.prog 119 #[.pointer (some ⟨gd, 0, none⟩)] w' fun e w'' => e = .returned (.bool q) ∧ w'' = w') (h : DiskB w gd gl gm N L es c out fz ops) :
    Calls Tryz.prog 93 #[.pointer (some ⟨gd, 0, none⟩)] w fun e w' => e = .returned (.bool (!q)) ∧ w' = w := by
  go_enter Tryz.func93, Tryz.ntmps93
  go_wp2_with fail
  refine (none_made w h).mono ?_
  rintro e w1 ⟨rfl, rfl⟩
  clear h
  go_wp2_with fail
  refine (hq _ rfl).mono ?_
  rintro e w2 ⟨rfl, rfl⟩
  clear hq
  go_wp2
  go_ret
  exact ⟨rfl, rfl⟩
end
end Go.Proofs.YtfoegmjpfkmggaaGreatDoor

/- A change of a disk that is up, without a fuse: what is to be done is done, and counted. Conditions: the changes are fewer than 10^9; what is to be done keeps to its contract. -/
namespace Go.Proofs.YtfoegmjpfkmggaaGreatDoor
open Go.RowKit
section
variable {gd gl gm N c : Nat} {L : List UInt8} {es : Array MapEntry} {out : Bool} {fz : Option Nat} {ops : Int}
theorem DiskB.ops_ {w : World} (h : DiskB w gd gl gm N L es c out fz ops) (hne : gd ≠ gl ∧ gd ≠ gm) (x : Int) : DiskB (w.setCell ⟨gd, 4, none⟩ (.int .i64 x)) gd gl gm N L es c out fz x :=
  ⟨(h.1.set_ 4 (.int .i64 x)).sub rfl, h.2.1.off (fun e => hne.1 e.symm) _, h.2.2.upd ((Upd.refl gd w).set 4 _) (fun e => hne.2 e.symm)⟩
end
end Go.Proofs.YtfoegmjpfkmggaaGreatDoor

/- The loose sectors of a disk: a map's entries against a plain function. Plain facts. No condition. -/
namespace Go
open Go.RowKit Go.MapKept
theorem mfind_none (a : Int) : ∀ (es : List MapEntry) (i : Nat), mfind es a i = none → ∀ e ∈ es, e.key ≠ .int .i64 a
  | [], _, _, e, he => by cases he
  | x :: es, i, h, e, he => by
    unfold mfind at h
    split at h
    · rename_i b hb
      by_cases hab : a = b
      · rw [if_pos hab] at h; cases h
      · rw [if_neg hab] at h
        cases he with
        | head => rw [hb]; intro e; injection e with _ e; exact hab e.symm
        | tail _ he => exact mfind_none a es _ h e he
    · rename_i hn
      cases he with
      | head => exact fun hk => hn a hk
      | tail _ he => exact mfind_none a es _ h e he
/-- The elements of a map of sectors. -/
def SecVals (es : List MapEntry) : Prop := ∀ e ∈ es, ∃ l : List UInt8, l.length = 256 ∧ e.val = .agg (l.map u8v).toArray
theorem SecVals.put {es : Array MapEntry} {c : Nat} {a : Int} {l : List UInt8} (h : SecVals es.toList) (hl : l.length = 256) : SecVals (mput es c a (.agg (l.map u8v).toArray)).1.toList := by
  unfold mput
  split
  · intro e he
    rw [Array.toList_modify] at he
    obtain ⟨k, hk, rfl⟩ := List.getElem_of_mem he
    rw [List.getElem_modify]
    split
    · exact ⟨l, hl, rfl⟩
    · exact h _ (List.getElem_mem _)
  · intro e he
    rw [Array.toList_push, List.mem_append, List.mem_singleton] at he
    rcases he with he | rfl
    · exact h e he
    · exact ⟨l, hl, rfl⟩
theorem SecVals.get {es : Array MapEntry} (h : SecVals es.toList) (a : Int) : ∃ l : List UInt8, l.length = 256 ∧ (mget es a).getD (.agg ((List.replicate 256 (0 : UInt8)).map u8v).toArray) = .agg (l.map u8v).toArray := by
  unfold mget
  cases hm : mfind es.toList a 0 with
  | none => exact ⟨List.replicate 256 0, List.length_replicate .., rfl⟩
  | some p =>
    obtain ⟨i, v⟩ := p
    obtain ⟨_, e, h1, _, h3⟩ := mfind_lt a es.toList 0 i v hm
    obtain ⟨l, h4, h5⟩ := h e (List.mem_of_getElem? h1)
    exact ⟨l, h4, by rw [← h5, h3]; rfl⟩
/-- A sector's bytes. -/
def sec (L : List UInt8) (i : Nat) : List UInt8 := (L.drop (256 * i)).take 256
/-- A map's entries are a function's values. -/
structure OldIs (es : Array MapEntry) (c : Nat) (old : Nat → Option (List UInt8)) : Prop where
  stamped : Stamped es c
  ent : ∀ e ∈ es.toList, ∃ (k : Nat) (l : List UInt8), e.key = .int .i64 (k : Int) ∧ old k = some l ∧ l.length = 256 ∧ e.val = .agg (l.map u8v).toArray
  all : ∀ k l, old k = some l → ∃ e ∈ es.toList, e.key = .int .i64 (k : Int)
section
variable {es : Array MapEntry} {c : Nat} {old : Nat → Option (List UInt8)}
theorem OldIs.nil (c : Nat) : OldIs #[] c fun _ => none := ⟨stamped_empty c, fun e he => by simp at he, fun k l h => by cases h⟩
theorem OldIs.keys (h : OldIs es c old) : IntKeys es.toList := fun e he => by
  obtain ⟨k, l, h1, _⟩ := h.ent e he
  exact ⟨k, h1⟩
theorem OldIs.vals (h : OldIs es c old) : SecVals es.toList := fun e he => by
  obtain ⟨k, l, _, _, h1, h2⟩ := h.ent e he
  exact ⟨l, h1, h2⟩
theorem OldIs.get (h : OldIs es c old) (k : Nat) : mget es (k : Int) = (old k).map fun l => .agg (l.map u8v).toArray := by
  unfold mget
  cases hm : mfind es.toList (k : Int) 0 with
  | none =>
    cases ho : old k with
    | none => rfl
    | some l =>
      obtain ⟨e, he, hk⟩ := h.all k l ho
      exact absurd hk (mfind_none _ _ _ hm e he)
  | some p =>
    obtain ⟨i, v⟩ := p
    obtain ⟨_, e, h1, h2, h3⟩ := mfind_lt _ es.toList 0 i v hm
    obtain ⟨k', l, h4, h5, _, h6⟩ := h.ent e (List.mem_of_getElem? h1)
    rw [h2] at h4
    injection h4 with _ h4
    obtain rfl : k = k' := by omega
    rw [h5, ← h3, h6]
    rfl
theorem OldIs.len (h : OldIs es c old) {k : Nat} {l : List UInt8} (hk : old k = some l) : l.length = 256 := by
  obtain ⟨e, he, h1⟩ := h.all k l hk
  obtain ⟨k', l', h2, h3, h4, _⟩ := h.ent e he
  rw [h1] at h2
  injection h2 with _ h2
  obtain rfl : k = k' := by omega
  rw [hk] at h3
  injection h3 with h3
  rw [h3, h4]
/-- One more. -/
def oldUp (old : Nat → Option (List UInt8)) (k : Nat) (l : List UInt8) : Nat → Option (List UInt8) := fun j => if j = k then some l else old j
theorem OldIs.put (h : OldIs es c old) {k : Nat} {l : List UInt8} (hk : old k = none) (hl : l.length = 256) :
    OldIs (mput es c (k : Int) (.agg (l.map u8v).toArray)).1 (mput es c (k : Int) (.agg (l.map u8v).toArray)).2 (oldUp old k l) := by
  have hm : mfind es.toList (k : Int) 0 = none := by
    have h1 := h.get k
    rw [hk] at h1
    unfold mget at h1
    cases hm : mfind es.toList (k : Int) 0 with
    | none => rfl
    | some p => rw [hm] at h1; cases h1
  have hno := mfind_none _ _ _ hm
  unfold mput
  rw [hm]
  refine ⟨stamped_push h.stamped hno, fun e he => ?_, fun j m hj => ?_⟩
  · rw [Array.toList_push, List.mem_append, List.mem_singleton] at he
    rcases he with he | rfl
    · obtain ⟨k', l', h1, h2, h3⟩ := h.ent e he
      refine ⟨k', l', h1, ?_, h3⟩
      unfold oldUp
      rw [if_neg (fun e1 => by rw [e1, hk] at h2; cases h2)]
      exact h2
    · exact ⟨k, l, rfl, by unfold oldUp; rw [if_pos rfl], hl, rfl⟩
  · rw [Array.toList_push]
    unfold oldUp at hj
    by_cases hjk : j = k
    · exact ⟨_, List.mem_append_right _ (List.mem_singleton.2 rfl), by rw [hjk]⟩
    · rw [if_neg hjk] at hj
      obtain ⟨e, he, h1⟩ := h.all j m hj
      exact ⟨e, List.mem_append_left _ he, h1⟩
/-- What is loose when n sectors from at on were written over the bytes L. -/
def oldW (old : Nat → Option (List UInt8)) (L : List UInt8) (at_ n : Nat) : Nat → Option (List UInt8) := fun k => if at_ ≤ k ∧ k < at_ + n then some ((old k).getD (sec L k)) else old k
theorem oldW_zero (L : List UInt8) (at_ : Nat) : oldW old L at_ 0 = old := by
  funext k; unfold oldW; rw [if_neg (by omega)]
theorem oldW_at {L : List UInt8} {at_ n : Nat} : oldW old L at_ n (at_ + n) = old (at_ + n) := by unfold oldW; rw [if_neg (by omega)]
theorem oldW_has {L : List UInt8} {at_ n : Nat} {l : List UInt8} (h : old (at_ + n) = some l) : oldW old L at_ (n + 1) = oldW old L at_ n := by
  funext k
  unfold oldW
  by_cases hk : k = at_ + n
  · subst hk; rw [if_pos (by omega), if_neg (by omega), h]; rfl
  · by_cases h1 : at_ ≤ k ∧ k < at_ + n
    · rw [if_pos h1, if_pos (by omega)]
    · rw [if_neg h1, if_neg (by omega)]
theorem oldW_new {L : List UInt8} {at_ n : Nat} (h : old (at_ + n) = none) : oldUp (oldW old L at_ n) (at_ + n) (sec L (at_ + n)) = oldW old L at_ (n + 1) := by
  funext k
  unfold oldUp oldW
  by_cases hk : k = at_ + n
  · subst hk; rw [if_pos rfl, if_pos (by omega), h]; rfl
  · rw [if_neg hk]
    by_cases h1 : at_ ≤ k ∧ k < at_ + n
    · rw [if_pos h1, if_pos (by omega)]
    · rw [if_neg h1, if_neg (by omega)]
theorem sec_wr_behind {L b : List UInt8} {at_ i : Nat} (h : 256 * at_ ≤ L.length) (hb : 256 * i ≤ b.length) : sec (wr L (256 * at_) (b.take (256 * i))) (at_ + i) = sec L (at_ + i) := by
  unfold sec
  have e : 256 * (at_ + i) = 256 * at_ + (b.take (256 * i)).length + 0 := by rw [List.length_take]; omega
  rw [e, wr_drop h]
end
end Go

/- A region that draws its order, by a plan, inside a fence (the round of a loop over an iterator, too): operations that call nothing. Plain facts over any program. No condition. -/
namespace Go
section
variable {P : Program} {ops : Array Oper} {md : Region.Mode} {F : Fence} {n : Nat}
/-- An operation that yields a value or nothing, and calls nothing. -/
def Op.calmB : Op → Bool
  | .store .. | .entryStore .. | .mapUpdate .. | .insert .. => true
  | .lookup .. | .mapEntry .. | .alloc _ | .box .. | .build .. | .buildSlice .. | .makeMap .. | .makeSlice .. | .sliceToArrayPointer .. => true
  | .call _ => false
  | o => o.stillB
theorem calm_about {o : Oper} (h : o.op.calmB = true) (w : World) (ρ : Operand → Value) : o.about P w ρ = none := by
  unfold Oper.about
  cases ho : o.op <;> first | rfl | skip
  rw [ho] at h
  simp [Op.calmB] at h
theorem calm_semAt {o : Oper} (h : o.op.calmB = true) (ρ : Operand → Value) (ro : Option Nat) : Oper.semAt ro ρ o = execOp ρ o :=
  Oper.semAt_eq ro ρ o fun c hc => by rw [hc] at h; simp [Op.calmB, Op.stillB, Op.valued] at h
theorem calm_run {o : Oper} (h : o.op.calmB = true) (ρ : Operand → Value) (w w' : World) (x : Next) (hr : (execOp ρ o).run P w = .ok x w') : (∃ v, x = .value v) ∨ x = .skip := by
  by_cases hs : o.op.stillB = true
  · exact .inl (still_run hs ρ w w' x hr)
  · obtain ⟨dst, op, type, pos, after, guard⟩ := o
    have one : ∀ m : Sem Value, (do let x ← m; pure (Next.value x) : Sem Next).run P w = .ok x w' → (∃ v, x = .value v) ∨ x = .skip := fun m hm => by
      rw [Sem.run_bind] at hm
      generalize m.run P w = r at hm
      cases r with
      | ok y w2 => simp only [Result.andThen_ok, Sem.run_pure, Result.ok.injEq] at hm; exact .inl ⟨y, hm.1.symm⟩
      | halt y w2 => simp [Result.andThen] at hm
    have none' : ∀ m : Sem Unit, (do m; pure Next.skip : Sem Next).run P w = .ok x w' → (∃ v, x = .value v) ∨ x = .skip := fun m hm => by
      rw [Sem.run_bind] at hm
      generalize m.run P w = r at hm
      cases r with
      | ok y w2 => simp only [Result.andThen_ok, Sem.run_pure, Result.ok.injEq] at hm; exact .inr hm.1.symm
      | halt y w2 => simp [Result.andThen] at hm
    cases op
    all_goals first
      | exact absurd h hs
      | exact one _ hr
      | exact none' _ hr
      | (simp [Op.calmB] at h; done)
/-- The same ends but the machine's outgrowing. -/
def strict (Q : Exit → Act → World → Prop) : Exit → Act → World → Prop
  | .outgrown, _, _ => False
  | e, a, w => Q e a w
@[go_sem] theorem strict_normal (Q : Exit → Act → World → Prop) (a : Act) (w : World) : strict Q .normal a w = Q .normal a w := rfl
theorem opIn_of_op {Q : Exit → Act → World → Prop} {i : Nat} {K K' : Act → World → Prop} {a : Act} {w : World} (hc : (ops.all fun o => o.op.calmB) = true) (hk : ∀ a w, K a w → K' a w)
    (h : wpOp P ops (strict Q) i K a w) : wpOpIn F n P ops Q i K' a w := by
  unfold wpOp at h
  unfold wpOpIn
  cases ho : ops[i]? with
  | none => rw [ho] at h; exact hk _ _ h
  | some o =>
    rw [ho] at h
    have hco : o.op.calmB = true := by
      have := Array.all_eq_true'.1 hc o (Array.mem_of_getElem? ho)
      simpa using this
    simp only at h ⊢
    split
    · rename_i hw
      rw [if_pos hw] at h
      have hlet : ¬ LetsOut (strict Q) := fun ⟨_, _, hq⟩ => hq
      have h1 := h.resolve_right fun hh => hlet hh.2
      unfold Oper.wp at h1
      unfold Oper.wpIn
      refine ⟨fun f hf => (by rw [calm_about hco] at hf; cases hf), ?_⟩
      rw [calm_semAt hco]
      cases hr : (execOp a.eval o).run P w with
      | ok x w' =>
        rw [hr] at h1
        rcases calm_run hco _ _ _ _ hr with ⟨v, rfl⟩ | rfl
        · exact hk _ _ h1
        · exact hk _ _ h1
      | halt x w' =>
        rw [hr] at h1
        cases x <;> first | exact h1 | exact h1.elim
    · rename_i hw
      rw [if_neg hw] at h
      exact ⟨fun f hf => (by rw [calm_about hco] at hf; cases hf), hk _ _ h⟩
theorem anyIn_of_any {Q : Exit → Act → World → Prop} (hc : (ops.all fun o => o.op.calmB) = true) : ∀ (fuel : Nat) (s : Array Bool) (a : Act) (w : World), wpAny P md ops (strict Q) fuel s a w → wpAnyIn F n P md ops Q fuel s a w
  | 0, _, _, _, h => h
  | fuel + 1, _, _, _, h => ⟨h.1, fun i hi => opIn_of_op hc (fun a w => anyIn_of_any hc fuel _ a w) (h.2 i hi)⟩
/-- The plain end alone. -/
def tidy (Q : Exit → Act → World → Prop) : Exit → Act → World → Prop
  | .normal, a, w => Q .normal a w
  | _, _, _ => False
theorem tidy_le (Q : Exit → Act → World → Prop) (e : Exit) (a : Act) (w : World) (h : tidy Q e a w) : Q e a w := by
  cases e <;> first | exact h | exact h.elim
@[go_sem] theorem tidy_normal (Q : Exit → Act → World → Prop) (a : Act) (w : World) : tidy Q .normal a w = Q .normal a w := rfl
theorem wpPlan_tidy {C : World → Prop} {Z : List Nat} {Q : Exit → Act → World → Prop} {a : Act} {w : World} (h : Q .normal a w) : wpPlan P ops C Z (tidy Q) [] a w := h
theorem strict_tidy (Q : Exit → Act → World → Prop) : strict (tidy Q) = tidy Q := by
  funext e a w
  cases e <;> rfl
/-- **THE REGION, BY A PLAN, where it neither panics nor outgrows the machine.** -/
theorem wp_region_planT {id : Nat} {a : Act} {w : World} {l : List Oper} {Q : Exit → Act → World → Prop} (C : World → Prop) (Z : List Nat) (pl : List (Bool × Nat)) (hm : P.follows .mixedOrders = true)
    (hB : (Region.noSelect l.toArray && Region.planB .any l.toArray Z pl (Array.replicate l.toArray.size false) && Region.planZ Z pl true && decide (pl.length = l.toArray.size)) = true)
    (hC : C w.drew) (h : wpPlan P l.toArray C Z (tidy Q) pl a w.drew) : (Code.region id l.toArray true).wp P Q a w :=
  wp_mono (wp_region_plan C Z pl hm hB (fun _ _ _ _ _ q => q.elim) hC h) (tidy_le Q)
/-- **THE REGION, BY A PLAN, INSIDE A FENCE.** -/
theorem wpIn_region_planT {id : Nat} {a : Act} {w : World} {l : List Oper} {Q : Exit → Act → World → Prop} (C : World → Prop) (Z : List Nat) (pl : List (Bool × Nat)) (hm : P.follows .mixedOrders = true)
    (hB : (Region.noSelect l.toArray && Region.planB .any l.toArray Z pl (Array.replicate l.toArray.size false) && Region.planZ Z pl true && decide (pl.length = l.toArray.size)) = true)
    (hc : (l.toArray.all fun o => o.op.calmB) = true)
    (hC : C w.drew) (h : wpPlan P l.toArray C Z (tidy Q) pl a w.drew) : (Code.region id l.toArray true).wpIn F n P Q a w := by
  simp only [Bool.and_eq_true, decide_eq_true_eq] at hB
  obtain ⟨⟨⟨h1, h2⟩, h3⟩, h4⟩ := hB
  refine wpIn_mono (wpIn_region_any (Q := tidy Q) hm (anyIn_of_any hc _ _ _ _ ?_)) (tidy_le Q)
  rw [← h4, strict_tidy]
  exact wpAny_of_C _ _ _ _ (anyC_of_plan h1 (fun _ _ _ _ _ q => q.elim) pl true _ a w.drew (by rw [h4]; exact h2) h3 (fun _ => hC) h)
end
end Go

/- A region that draws its order, by a plan that branches: some operations are taken first wherever they may come, of the others each that may come next is followed. Plain facts over any program. No condition. -/
namespace Go
/-- The plan: take i first; or one of several may come (opt i r more: i, then r; or one of more; no: none else). -/
inductive PlanT where
  | done
  | take (i : Nat) (r : PlanT)
  | opt (i : Nat) (r more : PlanT)
  | no
def PlanT.heads : PlanT → List Nat
  | .opt i _ m => i :: m.heads
  | _ => []
def Region.treeB (md : Region.Mode) (ops : Array Oper) (Z : List Nat) : PlanT → Bool → Nat → Array Bool → Bool
  | .done, _, n, s => decide (n = 0) && (Region.ready md ops s).isEmpty
  | .take i r, _, n, s => match n with
    | 0 => false
    | n + 1 => (Region.ready md ops s).contains i && Region.free md ops s i && (Z.all fun z => Region.waitsFor md ops z i) && Region.treeB md ops Z r true n (s.setIfInBounds i true)
  | .opt i r m, first, n, s => match n with
    | 0 => false
    | n + 1 => (!first || decide (Region.ready md ops s = i :: m.heads)) && Region.treeB md ops Z r true n (s.setIfInBounds i true) && Region.treeB md ops Z m false (n + 1) s
  | .no, first, _, _ => !first
def Region.treeZ (Z : List Nat) : PlanT → Bool → Bool
  | .done, _ => true
  | .take _ r, c => c && Region.treeZ Z r c
  | .opt i r m, c => Region.treeZ Z r (c && !Z.contains i) && Region.treeZ Z m c
  | .no, _ => true
section
variable {P : Program} {ops : Array Oper} {md : Region.Mode} {C : World → Prop} {Z : List Nat} {Q : Exit → Act → World → Prop}
def wpTree (P : Program) (ops : Array Oper) (C : World → Prop) (Z : List Nat) (Q : Exit → Act → World → Prop) : PlanT → Act → World → Prop
  | .done, a, w => Q .normal a w
  | .take i r, a, w => match ops[i]? with
    | some o => ∃ v, YieldsC P ops C o v a ∧ (C w → wpTree P ops C Z Q r (a.put o.dst v) w)
    | none => False
  | .opt i r m, a, w => wpOp P ops Q i (fun a' w' => (i ∈ Z ∨ C w') ∧ wpTree P ops C Z Q r a' w') a w ∧ wpTree P ops C Z Q m a w
  | .no, _, _ => True
theorem anyC_of_tree (hns : Region.noSelect ops = true) (hQ : ∀ c a a' w, a'.defers = a.defers → Q (.panic c) a' w → Q (.panic c) a w) :
    ∀ (t : PlanT) (c : Bool) (n : Nat) (s : Array Bool) (a : Act) (w : World), Region.treeZ Z t c = true → (c = true → C w) → wpTree P ops C Z Q t a w →
      (Region.treeB md ops Z t true n s = true → wpAnyC P md ops C Z Q n s a w) ∧
      (∀ m, n = m + 1 → Region.treeB md ops Z t false n s = true → ∀ i ∈ t.heads, wpOp P ops Q i (fun a' w' => (i ∈ Z ∨ C w') ∧ wpAnyC P md ops C Z Q m (s.setIfInBounds i true) a' w') a w) := by
  intro t
  induction t with
  | done =>
    intro c n s a w _ _ h
    refine ⟨fun hB => ?_, fun m _ _ i hi => by cases hi⟩
    simp only [Region.treeB, Bool.and_eq_true, decide_eq_true_eq] at hB
    obtain ⟨rfl, hB⟩ := hB
    exact ⟨by simpa using hB, h⟩
  | no =>
    intro c n s a w _ _ _
    exact ⟨fun hB => by simp [Region.treeB] at hB, fun m _ _ i hi => by cases hi⟩
  | take i r ih =>
    intro c n s a w hz hC h
    refine ⟨fun hB => ?_, fun m _ _ i hi => by cases hi⟩
    cases n with
    | zero => simp [Region.treeB] at hB
    | succ n =>
      simp only [Region.treeB, Bool.and_eq_true] at hB
      simp only [Region.treeZ, Bool.and_eq_true] at hz
      obtain ⟨⟨⟨h1, h2⟩, h3⟩, h4⟩ := hB
      have hr : i ∈ Region.ready md ops s := by simpa using h1
      obtain ⟨_, oi, hoi, _⟩ := mem_ready.1 hr
      simp only [wpTree, hoi] at h
      obtain ⟨v, hy, hn⟩ := h
      exact wpAnyC_first hoi hns hQ (fun z hz => List.all_eq_true.1 h3 z hz) n s a w (Region.free_spec hoi h2) hr hy (hC hz.1) ((ih c n _ _ _ hz.2 hC (hn (hC hz.1))).1 h4)
  | opt i r m ihr ihm =>
    intro c n s a w hz hC h
    simp only [Region.treeZ, Bool.and_eq_true] at hz
    obtain ⟨h1, h2⟩ := h
    have key : ∀ k first, n = k + 1 → Region.treeB md ops Z (.opt i r m) first n s = true → ∀ j ∈ (PlanT.opt i r m).heads, wpOp P ops Q j (fun a' w' => (j ∈ Z ∨ C w') ∧ wpAnyC P md ops C Z Q k (s.setIfInBounds j true) a' w') a w := by
      intro k first hn hB j hj
      subst hn
      simp only [Region.treeB, Bool.and_eq_true] at hB
      obtain ⟨⟨_, hr⟩, hm⟩ := hB
      simp only [PlanT.heads, List.mem_cons] at hj
      rcases hj with rfl | hj
      · refine wpOp_mono (fun a' w' h' => ⟨h'.1, (ihr (c && !Z.contains j) k _ a' w' hz.1 (fun hc => ?_) h'.2).1 hr⟩) h1
        simp only [Bool.and_eq_true, Bool.not_eq_true'] at hc
        refine h'.1.resolve_left fun hmm => ?_
        rw [List.contains_iff_mem.2 hmm] at hc
        cases hc.2
      · exact (ihm c (k + 1) s a w hz.2 hC h2).2 k rfl hm j hj
    refine ⟨fun hB => ?_, fun k hk hB => key k false hk hB⟩
    cases n with
    | zero => simp [Region.treeB] at hB
    | succ n =>
      have hk := key n true rfl hB
      simp only [Region.treeB, Bool.and_eq_true, Bool.not_true, Bool.false_or, decide_eq_true_eq] at hB
      refine ⟨fun h0 => (by rw [hB.1.1] at h0; cases h0), fun j hj => ?_⟩
      rw [hB.1.1] at hj
      exact hk j hj
/-- **THE REGION, BY A PLAN THAT BRANCHES.** -/
theorem wp_region_tree {id : Nat} {a : Act} {w : World} {l : List Oper} {Q : Exit → Act → World → Prop} (C : World → Prop) (Z : List Nat) (t : PlanT) (hm : P.follows .mixedOrders = true)
    (hB : (Region.noSelect l.toArray && Region.treeB .any l.toArray Z t true l.toArray.size (Array.replicate l.toArray.size false) && Region.treeZ Z t true) = true)
    (hC : C w.drew) (h : wpTree P l.toArray C Z (tidy Q) t a w.drew) : (Code.region id l.toArray true).wp P Q a w := by
  simp only [Bool.and_eq_true] at hB
  refine wp_mono (Q := tidy Q) ?_ (tidy_le Q)
  refine wp_region_any hm ?_
  exact wpAny_of_C _ _ _ _ ((anyC_of_tree hB.1.1 (fun _ _ _ _ _ q => q.elim) t true _ _ a w.drew hB.2 (fun _ => hC) h).1 hB.1.2)
def PlanT.takes : List Nat → PlanT → PlanT
  | [], r => r
  | i :: is, r => .take i (PlanT.takes is r)
theorem wpTree_take {w : World} (is : List Nat) (r : PlanT) : ∀ (a : Act), ((is.filterMap fun i => ops[i]?).all fun o => o.op.stillB) = true → (is.all fun i => decide (i < ops.size)) = true →
    C w → wpQuiet P ops C (fun a' => wpTree P ops C Z Q r a' w) (is.filterMap fun i => ops[i]?) a → wpTree P ops C Z Q (PlanT.takes is r) a w := by
  induction is with
  | nil => intro a _ _ _ h; exact h
  | cons i is ih =>
    intro a hs hlt hC h
    simp only [List.all_cons, Bool.and_eq_true, decide_eq_true_eq] at hlt
    have hi : ops[i]? = some ops[i] := Array.getElem?_eq_getElem hlt.1
    simp only [List.filterMap_cons, hi, List.all_cons, Bool.and_eq_true] at hs h
    have hq : qOp P ops C i (wpQuiet P ops C (fun a' => wpTree P ops C Z Q r a' w) (is.filterMap fun i => ops[i]?)) a := by unfold qOp; simp only [hi]; exact h
    obtain ⟨v, hy, hK⟩ := yieldsIn_of_qOp hi hq
    simp only [PlanT.takes, wpTree, hi]
    exact ⟨v, yieldsC_of hs.1 hy, fun _ => ih _ hs.2 hlt.2 hC hK⟩
/-- Operations that are taken first, read in a class of worlds. -/
theorem wpTree_takeL {l : List Oper} {w : World} (is : List Nat) (r : PlanT) (a : Act) (hs : ((is.filterMap fun i => l[i]?).all fun o => o.op.stillB) = true) (hlt : (is.all fun i => decide (i < l.length)) = true)
    (hC : C w) (h : wpQuiet P l.toArray C (fun a' => wpTree P l.toArray C Z Q r a' w) (is.filterMap fun i => l[i]?) a) : wpTree P l.toArray C Z Q (PlanT.takes is r) a w := by
  have e : (is.filterMap fun i => l.toArray[i]?) = is.filterMap fun i => l[i]? := by congr 1; funext i; exact List.getElem?_toArray ..
  exact wpTree_take is r a (by rw [e]; exact hs) (by simpa using hlt) hC (by rw [e]; exact h)
theorem wpTree_pure {l : List Oper} {w : World} (is : List Nat) (r : PlanT) : ∀ (a : Act), ((is.filterMap fun i => l[i]?).all fun o => o.op.stillB) = true → (is.all fun i => decide (i < l.length)) = true →
    wpQuiet P l.toArray (fun _ => True) (fun a' => wpTree P l.toArray C Z Q r a' w) (is.filterMap fun i => l[i]?) a → wpTree P l.toArray C Z Q (PlanT.takes is r) a w := by
  induction is with
  | nil => intro a _ _ h; exact h
  | cons i is ih =>
    intro a hs hlt h
    simp only [List.all_cons, Bool.and_eq_true, decide_eq_true_eq] at hlt
    have hi : l[i]? = some l[i] := List.getElem?_eq_getElem hlt.1
    have hi' : l.toArray[i]? = some l[i] := by rw [List.getElem?_toArray]; exact hi
    simp only [List.filterMap_cons, hi, List.all_cons, Bool.and_eq_true] at hs h
    have hq : qOp P l.toArray (fun _ => True) i (wpQuiet P l.toArray (fun _ => True) (fun a' => wpTree P l.toArray C Z Q r a' w) (is.filterMap fun i => l[i]?)) a := by unfold qOp; simp only [hi']; exact h
    obtain ⟨v, hy, hK⟩ := yieldsIn_of_qOp hi' hq
    have hy' := yieldsC_of hs.1 hy
    simp only [PlanT.takes, wpTree, hi']
    refine ⟨v, ?_, fun _ => ih _ hs.2 hlt.2 hK⟩
    rcases hy' with ⟨h1, h2⟩ | h1
    · exact .inl ⟨h1, fun w _ => h2 w trivial⟩
    · exact .inr h1
/-- What is asked behind an operation that came. -/
def TreeQ (P : Program) (ops : Array Oper) (C : World → Prop) (Z : List Nat) (Q : Exit → Act → World → Prop) (i : Nat) (r : PlanT) : Exit → Act → World → Prop
  | .normal, a, w => (i ∈ Z ∨ C w) ∧ wpTree P ops C Z Q r a w
  | e, a, w => Q e a w
theorem wpTree_opt {l : List Oper} {a : Act} {w : World} {i : Nat} {r m : PlanT} (o : Oper) (ho : l[i]? = some o) (h : wpList P l.toArray (TreeQ P l.toArray C Z Q i r) [o] a w) (hm : wpTree P l.toArray C Z Q m a w) : wpTree P l.toArray C Z Q (.opt i r m) a w := by
  refine ⟨?_, hm⟩
  have ho' : l.toArray[i]? = some o := by rw [List.getElem?_toArray]; exact ho
  unfold wpOp
  simp only [ho']
  unfold wpList at h
  have hmono : ∀ {a : Act} {w : World}, o.wp P a w (wpList P l.toArray (TreeQ P l.toArray C Z Q i r) []) (TreeQ P l.toArray C Z Q i r) → o.wp P a w (fun a' w' => (i ∈ Z ∨ C w') ∧ wpTree P l.toArray C Z Q r a' w') Q := by
    intro a w h
    unfold Oper.wp at h ⊢
    generalize (execOp a.eval o).run P w = rr at *
    cases rr with
    | ok n w' =>
      cases n <;> simp only [Oper.upon] at h ⊢
      case value u => exact h
      case skip => exact h
      case defer d => exact h
      case enter f args =>
        refine Calls.mono h fun e w'' he => ?_
        cases e <;> exact he
      case row row args => exact Rows.mono h fun u w'' he => he
    | halt x w' => cases x <;> simp only [Oper.upon] at h ⊢; exact h
  split
  · rename_i hw
    rw [if_pos hw] at h
    rcases h with h | ⟨h1, h2⟩
    · exact .inl (hmono h)
    · exact .inr ⟨h1, h2⟩
  · rename_i hw
    rw [if_neg hw] at h
    exact h
/-- The only one that may come. -/
theorem wpTree_one {l : List Oper} {a : Act} {w : World} {i : Nat} {r : PlanT} (o : Oper) (ho : l[i]? = some o) (h : wpList P l.toArray (TreeQ P l.toArray C Z Q i r) [o] a w) : wpTree P l.toArray C Z Q (.opt i r .no) a w :=
  wpTree_opt o ho h trivial
theorem wpTree_done {a : Act} {w : World} (h : Q .normal a w) : wpTree P ops C Z (tidy Q) .done a w := h
theorem TreeQ.in_ {a : Act} {w : World} {i : Nat} {r : PlanT} (hC : C w) (h : wpTree P ops C Z Q r a w) : TreeQ P ops C Z Q i r .normal a w := ⟨.inr hC, h⟩
theorem TreeQ.out {a : Act} {w : World} {i : Nat} {r : PlanT} (hz : Z.contains i = true) (h : wpTree P ops C Z Q r a w) : TreeQ P ops C Z Q i r .normal a w := ⟨.inl (by simpa using hz), h⟩
/-- What branches share: the rest is shown once. (By 'apply': G is found in the first branch.) -/
theorem share {α : Type} {F G : α → World → Prop} {goal : Prop} (main : (∀ x w, F x w → G x w) → goal) (tail : ∀ x w, F x w → G x w) : goal := main tail
end
end Go
