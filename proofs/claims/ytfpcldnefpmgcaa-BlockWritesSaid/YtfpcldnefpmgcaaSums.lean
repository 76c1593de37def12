/- The statement of seals, as a call: whatever the bytes and the seal, it answers true and writes nothing that was there. Conditions: the bytes can be read, the seal has 16 bytes. -/
import Derived.Test.YtfpcldnefpmgcaaAwake
namespace Go
open Go.RowKit
section
variable {P : Program} {ops : Array Oper} {C : World → Prop} {Q : Act → Prop} {rest : List Oper} {a : Act}
theorem wpQuiet_want' {dst : Option Tmp} {op : Op} {ty : TypeId} {pos : String} {af : Array Edge} {g : Option (Nat × Bool)}
    (hw : Region.wanted ⟨dst, op, ty, pos, af, g⟩ (yielded ops a.tmps) = true) (h : wpQuiet P ops C Q (⟨dst, op, ty, pos, af, none⟩ :: rest) a) : wpQuiet P ops C Q (⟨dst, op, ty, pos, af, g⟩ :: rest) a := by
  unfold wpQuiet at h ⊢
  rw [if_pos hw]
  rw [if_pos (by simp [Region.wanted])] at h
  exact h
theorem wpQuiet_eql_bytes {o : Oper} (hgd : o.guard = none) (t e r : TypeId) (x y : Operand) (ho : o.op = .binOp .eql t x y r) (n : Nat)
    (ht : P.underlying t = some (.array n e)) (he : P.underlying e = some (.int .u8)) (hsz : (P.info? e).map (·.size) = some 1) (hm : P.eqGuardType P.depth t = false)
    (l l' : List UInt8) (hx : a.eval x = .agg (l.map u8v).toArray) (hy : a.eval y = .agg (l'.map u8v).toArray) (hl : l.length = n) (hl' : l'.length = n) (b : Bool) (hbb : b = decide (l = l'))
    (h : wpQuiet P ops C Q rest (a.put o.dst (.bool b))) : wpQuiet P ops C Q (o :: rest) a := by
  subst hbb
  refine wpQuiet_step fun K hK => ?_
  rw [if_pos (by simp [Region.wanted, hgd])]
  refine ⟨_, fun w hw => ?_, hK _ h⟩
  obtain ⟨i, hi, hs⟩ := Option.map_eq_some_iff.1 hsz
  have hsz' : ∀ w, (sizeOf e).run P w = .ok 1 w := fun w => by simp [sizeOf, typeInfo, hi, hs]
  have h1 := run_eql_bytes (P := P) w t e n ht he hsz' l l' hl hl'
  rw [u8v_cell] at h1
  have h2 : (l == l') = decide (l = l') := by by_cases h : l = l' <;> simp [h]
  rw [h2] at h1
  unfold Oper.quietAt execOp
  simp only [ho, hx, hy, Sem.run_bind, run_eqGuard_agg w .eql t x y _ _ hm, h1, Result.andThen_ok, Sem.run_pure]
  exact ⟨rfl, rfl⟩
theorem wpQuiet_eql_bool {o : Oper} (hgd : o.guard = none) (t r : TypeId) (x y : Operand) (ho : o.op = .binOp .eql t x y r) (ht : P.underlying t = some .bool) (u v b : Bool) (hx : a.eval x = .bool u) (hy : a.eval y = .bool v) (hb : b = (u == v))
    (h : wpQuiet P ops C Q rest (a.put o.dst (.bool b))) : wpQuiet P ops C Q (o :: rest) a := by
  subst hb
  refine wpQuiet_step fun K hK => ?_
  rw [if_pos (by simp [Region.wanted, hgd])]
  refine ⟨_, fun w hw => ?_, hK _ h⟩
  have h1 : (binOp .eql t (.bool u) (.bool v)).run P w = .ok (.bool (u == v)) w := by
    simp [binOp, run_equal_bool w t u v ht]
  have h2 : (eqGuard .eql t x y (.bool u) (.bool v)).run P w = .ok () w := by simp [eqGuard]
  unfold Oper.quietAt execOp
  simp only [ho, hx, hy, Sem.run_bind, h1, h2, Result.andThen_ok, Sem.run_pure]
  exact ⟨rfl, rfl⟩
theorem wpQuiet_pick {o : Oper} (hgd : o.guard = none) (z x y : Operand) (ho : o.op = .pick z x y) (u : Bool) (hz : a.eval z = .bool u) (v : Value) (hv : (if u then a.eval x else a.eval y) = v)
    (h : wpQuiet P ops C Q rest (a.put o.dst v)) : wpQuiet P ops C Q (o :: rest) a := by
  subst hv
  refine wpQuiet_step fun K hK => ?_
  rw [if_pos (by simp [Region.wanted, hgd])]
  refine ⟨_, fun w hw => ?_, hK _ h⟩
  unfold Oper.quietAt execOp
  simp only [ho, hz, asBool, Sem.run_bind, Result.andThen_ok, Sem.run_pure]
  exact ⟨rfl, rfl⟩
end
namespace Proofs.Ytfpcldnefpmgcaa
set_option maxHeartbeats 1000000 in
theorem sums_any (A : Option Addr) (n c : Nat) (l s : List UInt8) (hn : n = l.length) (hc : l.length ≤ c) (hc3 : c ≤ 9223372036854775807) (hs : s.length = 16) (w : World) (hb : Bytes w A l) :
    Calls Try.prog 3 #[.slice A n c, .agg (s.map u8v).toArray] w fun e w' => e = .returned (.bool true) ∧ Below w.heap.size w w' := by
  subst hn
  have hg : Blk (w.alloc (.cells (s.map u8v).toArray 23)) w.heap.size 23 (s.map u8v).toArray := Blk.new _ _ _
  have h0 : Below w.heap.size w (w.alloc (.cells (s.map u8v).toArray 23)) := (Below.refl _ _).alloc (Nat.le_refl _) _
  have a16 := alloc16
  go_enter Try.func3, Try.ntmps3
  by_cases hlong : 5000 < l.length
  · go_wp2
    go_ret
    exact ⟨rfl, h0⟩
  · have hc2 : l.length ≤ 140737488351232 ∧ c ≤ 9223372036854775807 := ⟨by omega, hc3⟩
    go_wp2_with fail
    have hb1 := Bytes.below hb h0
    refine (lentBytes_any A l.length c l rfl (by omega) _ hb1).mono ?_
    rintro e w2 ⟨rfl, h2, hb2⟩
    have hg2 := hg.below hb2 hg.lt
    have h02 := h0.trans (hb2.mono h0.size)
    go_wp2_with fail
    refine (rsum_any A c l hc hc2 w2 (Bytes.below hb h02)).mono ?_
    rintro e w3 ⟨rfl, hb3⟩
    have e1 : (w.alloc (.cells (s.map u8v).toArray 23)).heap.size = w.heap.size + 1 := by simp
    rw [e1] at h2
    have hg3 := hg2.below hb3 hg2.lt
    have h3 := h2.below hb3 h2.lt
    have h03 := h02.trans (hb3.mono h02.size)
    have hs16 := Sha.sum_length l
    obtain ⟨S, hS⟩ : ∃ S, S = Sha.sum l := ⟨_, rfl⟩
    rw [← hS] at hs16 ⊢
    have HS := Lib.hid hS
    have hg4 := hg3.alloc (.cells zero16 23)
    have h4 := h3.alloc (.cells zero16 23)
    have h04 := h03.alloc h03.size (.cells zero16 23)
    have hz := Blk.new w3 23 zero16
    have hlt1 := hg3.lt
    have hlt2 := h3.lt
    clear hS hg2 h2 hg3 h3 hb2 hb1 h02 hb3 h03 e1
    go_wp2_with (first
      | (show wpList _ _ _ ((⟨none, _, _, _, _, _⟩ : Oper) :: _) _ _; refine wpList_store_blk (o := ⟨none, _, _, _, _, _⟩) hz (by rfl) _ _ _ (by rfl) (by rfl) (S.map u8v).toArray (by rfl) size16 (arr_size _ _) (by simp [hs16]) (u8_all _) ?_; intro w5 h5 hu5; have hg5 := hg4.upd hu5 (by omega); have hi5 := h4.upd hu5 (by omega); have h05 := h04.upd hu5 (by omega); clear hu5 hz hg4 h4 h04)
      | fail)
    simp only [Act.put]
    have hbr := Bytes.below hb h05
    have hbi : Bytes w5 (some ⟨w.heap.size + 1, 0, none⟩) l := by have := hi5.bytes.take l.length; rwa [List.take_left] at this
    have hst1 : ∀ w', Below w5.heap.size w5 w' → Calls Try.prog 15 #[.slice (some ⟨w.heap.size + 1, 0, none⟩) l.length (l.length + 3)] w' fun e w'' => e = .returned (.agg (S.map u8v).toArray) ∧ Below w5.heap.size w5 w'' := fun w' hw' =>
      (sum_any _ (l.length + 3) l (by omega) (by omega) w' (Bytes.below hbi hw')).mono fun e w'' h => ⟨by rw [HS.out]; exact h.1, hw'.trans (h.2.mono hw'.size)⟩
    have hst2 : ∀ r : List UInt8, r.length = 16 → ∀ b : Bool, b = decide (S = r) → ∀ w', Below w5.heap.size w5 w' → Calls Try.prog 16 #[.slice (some ⟨w.heap.size + 1, 0, none⟩) l.length (l.length + 3), .agg (r.map u8v).toArray] w' fun e w'' => e = .returned (.bool b) ∧ Below w5.heap.size w5 w'' := fun r hr b hbb w' hw' =>
      (right_seal_any _ _ (l.length + 3) l r rfl (by omega) (by omega) hr w' (Bytes.below hbi hw')).mono fun e w'' h => ⟨by rw [hbb, HS.out]; exact h.1, hw'.trans (h.2.mono hw'.size)⟩
    have hst3 : ∀ w', Below w5.heap.size w5 w' → Calls Try.prog 17 #[.slice (some ⟨w.heap.size + 1, 0, none⟩) l.length (l.length + 3), .slice A l.length c] w' fun e w'' => e = .returned (.bool true) ∧ Below w5.heap.size w5 w'' := fun w' hw' =>
      (keptBytes_any _ c _ _ _ A l rfl rfl rfl (by omega) w' (hi5.below hw' hi5.lt) (Bytes.below hbr hw')).mono fun e w'' h => ⟨h.1, hw'.trans (h.2.mono hw'.size)⟩
    have hst4 : ∀ w', Below w5.heap.size w5 w' → Calls Try.prog 18 #[] w' fun e w'' => e = .returned (.bool true) ∧ Below w5.heap.size w5 w'' := fun w' hw' =>
      (awake_any w').mono fun e w'' h => ⟨h.1, hw'.trans (h.2.mono hw'.size)⟩
    obtain ⟨B, hB⟩ : ∃ B, B = decide (S = s) := ⟨_, rfl⟩
    have hB2 : B = decide (s = S) := by rw [hB]; by_cases h : S = s <;> simp [h, @eq_comm _ s S]
    refine wp_region_mix (Below w5.heap.size w5) [] [0, 1, 2, 3, 4, 5, 6, 7, 8, 9, 10, 11, 12, 13, 14, 15, 16, 17, 18, 19, 20, 21, 22, 23, 24, 25] 26 [] (by kernel_rfl) (by kernel_rfl) (fun c a a' w h q => ⟨h ▸ q.1, q.2⟩) (Below.refl _ _).drew ?_
    dsimp only [List.filterMap, List.getElem?_cons_zero, List.getElem?_cons_succ]
    refine wpQuiet_nil ?_
    repeat (go_big_quiet_step (fail))
    refine wpQuiet_call Try.call15 (by rfl) _ _ (by rfl) _ (by rfl) _ hst1 ?_
    simp only [Act.put, List.setIfInBounds_toArray, List.set_cons_zero, List.set_cons_succ]
    refine wpQuiet_load_blk (fun w' hw' => h5.below hw' h5.lt) (by rfl) _ _ (by rfl) (by rfl) _ Try.underlying23 (by rfl) size16 (by simp [hs16]) ?_
    simp only [Act.put, List.setIfInBounds_toArray, List.set_cons_zero, List.set_cons_succ]
    refine wpQuiet_eql_bytes (by rfl) _ _ _ _ _ (by rfl) 16 Try.underlying23 Try.underlying5 size1 nosel S S (by rfl) (by rfl) hs16 hs16 true (by simp) ?_
    simp only [Act.put, List.setIfInBounds_toArray, List.set_cons_zero, List.set_cons_succ]
    repeat (go_big_quiet_step (fail))
    refine wpQuiet_want' (by rfl) ?_
    refine wpQuiet_load_blk (fun w' hw' => hg5.below hw' hg5.lt) (by rfl) _ _ (by rfl) (by rfl) _ Try.underlying23 (by rfl) size16 (by simp [hs]) ?_
    simp only [Act.put, List.setIfInBounds_toArray, List.set_cons_zero, List.set_cons_succ]
    refine wpQuiet_want' (by rfl) ?_
    refine wpQuiet_call Try.call16 (by rfl) _ _ (by rfl) _ (by rfl) _ (hst2 s hs B hB) ?_
    simp only [Act.put, List.setIfInBounds_toArray, List.set_cons_zero, List.set_cons_succ]
    refine wpQuiet_want' (by rfl) ?_
    refine wpQuiet_load_blk (fun w' hw' => hg5.below hw' hg5.lt) (by rfl) _ _ (by rfl) (by rfl) _ Try.underlying23 (by rfl) size16 (by simp [hs]) ?_
    simp only [Act.put, List.setIfInBounds_toArray, List.set_cons_zero, List.set_cons_succ]
    refine wpQuiet_want' (by rfl) ?_
    refine wpQuiet_load_blk (fun w' hw' => h5.below hw' h5.lt) (by rfl) _ _ (by rfl) (by rfl) _ Try.underlying23 (by rfl) size16 (by simp [hs16]) ?_
    simp only [Act.put, List.setIfInBounds_toArray, List.set_cons_zero, List.set_cons_succ]
    refine wpQuiet_want' (by rfl) ?_
    refine wpQuiet_eql_bytes (by rfl) _ _ _ _ _ (by rfl) 16 Try.underlying23 Try.underlying5 size1 nosel s S (by rfl) (by rfl) hs hs16 B hB2 ?_
    simp only [Act.put, List.setIfInBounds_toArray, List.set_cons_zero, List.set_cons_succ]
    refine wpQuiet_want' (by rfl) ?_
    refine wpQuiet_eql_bool (by rfl) _ _ _ _ (by rfl) Try.underlying4 B B true (by rfl) (by rfl) (by simp) ?_
    simp only [Act.put, List.setIfInBounds_toArray, List.set_cons_zero, List.set_cons_succ]
    refine wpQuiet_pick (by rfl) _ _ _ (by rfl) true (by rfl) (.bool true) (by rfl) ?_
    simp only [Act.put, List.setIfInBounds_toArray, List.set_cons_zero, List.set_cons_succ]
    repeat (go_big_quiet_step (fail))
    refine wpQuiet_want' (by rfl) ?_
    refine wpQuiet_load_blk (fun w' hw' => h5.below hw' h5.lt) (by rfl) _ _ (by rfl) (by rfl) _ Try.underlying23 (by rfl) size16 (by simp [hs16]) ?_
    simp only [Act.put, List.setIfInBounds_toArray, List.set_cons_zero, List.set_cons_succ]
    refine wpQuiet_want' (by rfl) ?_
    refine wpQuiet_call Try.call16 (by rfl) _ _ (by rfl) _ (by rfl) _ (hst2 S hs16 true (by simp)) ?_
    simp only [Act.put, List.setIfInBounds_toArray, List.set_cons_zero, List.set_cons_succ]
    refine wpQuiet_pick (by rfl) _ _ _ (by rfl) true (by rfl) (.bool true) (by rfl) ?_
    simp only [Act.put, List.setIfInBounds_toArray, List.set_cons_zero, List.set_cons_succ]
    repeat (go_big_quiet_step (fail))
    refine wpQuiet_want' (by rfl) ?_
    refine wpQuiet_call Try.call17 (by rfl) _ _ (by rfl) _ (by rfl) _ hst3 ?_
    simp only [Act.put, List.setIfInBounds_toArray, List.set_cons_zero, List.set_cons_succ]
    refine wpQuiet_pick (by rfl) _ _ _ (by rfl) true (by rfl) (.bool true) (by rfl) ?_
    simp only [Act.put, List.setIfInBounds_toArray, List.set_cons_zero, List.set_cons_succ]
    repeat (go_big_quiet_step (fail))
    refine wpQuiet_want' (by rfl) ?_
    refine wpQuiet_call Try.call18 (by rfl) _ _ (by rfl) _ (by rfl) _ hst4 ?_
    simp only [Act.put, List.setIfInBounds_toArray, List.set_cons_zero, List.set_cons_succ]
    refine wpQuiet_pick (by rfl) _ _ _ (by rfl) true (by rfl) (.bool true) (by rfl) ?_
    simp only [Act.put, List.setIfInBounds_toArray, List.set_cons_zero, List.set_cons_succ]
    repeat (go_big_quiet_step (fail))
    refine wpQuiet_nil ?_
    intro w6 hw6
    go_wp2
    go_ret
    exact ⟨by simp, h05.trans (hw6.mono h05.size)⟩
end Proofs.Ytfpcldnefpmgcaa
end Go
