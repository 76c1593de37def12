/- What the functions of the layer of seals answer: the seal compared, bytes sealed, bytes opened; the program's and the document's. Conditions: the bytes can be read; they are at most 2^47 - 5000. -/
import Derived.Test.YtfpcldnefpmgcaaSumP
import Derived.Test.YtfpcldnefpmgcaaSumR
import Derived.Test.YtfpcldnefpmgcaaKit
import Derived.Stop.BytesEq
import Derived.Deep.MidRow
namespace Go
open Go.RowKit
theorem u8v_cell : Extern.Stop.cell = u8v := funext fun _ => rfl
theorem wpList_eql_bytes {P : Program} {w : World} {Q : Exit → Act → World → Prop} {ops : Array Oper} {rest : List Oper} {o : Oper} {a : Act} (hgd : o.guard = none) (t e r : TypeId) (x y : Operand) (ho : o.op = .binOp .eql t x y r) (n : Nat)
    (ht : P.underlying t = some (.array n e)) (he : P.underlying e = some (.int .u8)) (hsz : (P.info? e).map (·.size) = some 1) (hm : P.eqGuardType P.depth t = false)
    (l l' : List UInt8) (hx : a.eval x = .agg (l.map u8v).toArray) (hy : a.eval y = .agg (l'.map u8v).toArray) (hl : l.length = n) (hl' : l'.length = n)
    (h : wpList P ops Q rest (a.put o.dst (.bool (decide (l = l')))) w) : wpList P ops Q (o :: rest) a w := by
  refine wpList_run (.bool (decide (l = l'))) hgd ?_ h
  obtain ⟨i, hi, hs⟩ := Option.map_eq_some_iff.1 hsz
  have hsz' : ∀ w, (sizeOf e).run P w = .ok 1 w := fun w => by simp [sizeOf, typeInfo, hi, hs]
  have h1 := run_eql_bytes (P := P) w t e n ht he hsz' l l' hl hl'
  rw [u8v_cell] at h1
  have h2 : (l == l') = decide (l = l') := by by_cases h : l = l' <;> simp [h]
  rw [h2] at h1
  unfold execOp
  simp only [ho, hx, hy, Sem.run_bind, run_eqGuard_agg w .eql t x y _ _ hm, h1, Result.andThen_ok, Sem.run_pure]
/-- A load of a whole array out of the middle of a block. -/
theorem wpQuiet_load_mid {P : Program} {ops : Array Oper} {C : World → Prop} {Q : Act → Prop} {rest : List Oper} {o : Oper} {a : Act} {b off : Nat} {cs : List Value} (hb : ∀ w, C w → w.rangeAt b off cs) (hgd : o.guard = none) (ty : TypeId) (x : Operand) (ho : o.op = .load ty x)
    (hx : a.eval x = .pointer (some ⟨b, off, none⟩)) (d : TypeDesc) (hu : P.underlying ty = some d) (hd : d.isRow = true) {n : Nat} (hi : (P.info? ty).map (·.size) = some n) (hn : cs.length = n)
    (h : wpQuiet P ops C Q rest (a.put o.dst (.agg cs.toArray))) : wpQuiet P ops C Q (o :: rest) a := by
  refine wpQuiet_step fun K hK => ?_
  rw [if_pos (by simp [Region.wanted, hgd])]
  refine ⟨_, fun w hw => ?_, hK _ h⟩
  unfold Oper.quietAt execOp
  simp only [ho, hx, Instr.loadAt, Instr.sureAddr, Sem.run_bind, Sem.run_pure, Result.andThen_ok, run_loadVar_mid w b off ty cs d (hb w hw) hu hd (hn ▸ hi)]
  exact ⟨rfl, rfl⟩
theorem run_cut {P : Program} (w : World) (t e : TypeId) (ht : P.underlying t = some (.slice e)) (hsz : (P.info? e).map (·.size) = some 1) (A : Option Addr) (n c : Nat) (k : IntKind) (K : Nat) (hK : K ≤ n) :
    (Instr.sliceAt t (.slice A n c) (some (.int k (K : Int))) none none).run P w = .ok (.slice (if c = K then A else A.map (·.add K)) (n - K) (c - K)) w := by
  obtain ⟨i, hi, hs⟩ := Option.map_eq_some_iff.1 hsz
  have hsz' : (sizeOf e).run P w = .ok 1 w := by simp [sizeOf, typeInfo, hi, hs]
  have hb : (Instr.sliceBound (.int k (K : Int)) n .sliceB).run P w = .ok K w := by
    have := run_sliceBound (P := P) w k (K : Int) n .sliceB (by omega) (by omega)
    simpa using this
  simp [Instr.sliceAt, Instr.slice, run_underlying ht, Instr.sliceBounds, hb, hsz']
/-- s[k:] of bytes. -/
theorem wpList_cut_bytes {P : Program} {w : World} {Q : Exit → Act → World → Prop} {ops : Array Oper} {rest : List Oper} {o : Oper} {a : Act} (hgd : o.guard = none) (t : TypeId) (x lo : Operand) (ho : o.op = .slice t x (some lo) none none) (e : TypeId)
    (ht : P.underlying t = some (.slice e)) (hsz : (P.info? e).map (·.size) = some 1) (A : Option Addr) (n c : Nat) (k : IntKind) (K : Nat) (hx : a.eval x = .slice A n c) (hlo : a.eval lo = .int k (K : Int)) (l : List UInt8) (hn : n = l.length) (hK : K ≤ n) (hc : n ≤ c) (hb : Bytes w A l)
    (h : ∀ A', Bytes w A' (l.drop K) → (∀ ad, A' = some ad → ∃ ad0, A = some ad0 ∧ ad0.block = ad.block) → wpList P ops Q rest (a.put o.dst (.slice A' (l.drop K).length (c - K))) w) : wpList P ops Q (o :: rest) a w := by
  refine wpList_run (.slice (if c = K then A else A.map (·.add K)) (n - K) (c - K)) hgd (by unfold execOp; simp only [ho, hx, hlo, Option.map_some, Option.map_none, run_cut w t e ht hsz A n c k K hK, Sem.run_bind, Result.andThen_ok, Sem.run_pure]) ?_
  have hlen : n - K = (l.drop K).length := by rw [List.length_drop, hn]
  rw [hlen]
  refine h _ (hb.drop (by omega)) fun ad had => ?_
  split at had
  · exact ⟨ad, had, rfl⟩
  · cases A with
    | none => cases had
    | some ad0 => simp only [Option.map_some, Option.some.injEq] at had; exact ⟨ad0, rfl, by rw [← had]; unfold Addr.add; split <;> rfl⟩
theorem wpQuiet_convert_str {P : Program} {ops : Array Oper} {C : World → Prop} {Q : Act → Prop} {rest : List Oper} {o : Oper} {a : Act} (hgd : o.guard = none) (src dst e : TypeId) (x : Operand) (ho : o.op = .convert src dst x)
    (hs : P.underlying src = some (.slice e)) (he : P.underlying e = some (.int .u8)) (hd : P.underlying dst = some .string)
    (A : Option Addr) (n c : Nat) (l : List UInt8) (hx : a.eval x = .slice A n c) (hn : n = l.length) (hb : ∀ w, C w → Bytes w A l) (h : wpQuiet P ops C Q rest (a.put o.dst (.string (str l)))) : wpQuiet P ops C Q (o :: rest) a := by
  refine wpQuiet_step fun K hK => ?_
  rw [if_pos (by simp [Region.wanted, hgd])]
  refine ⟨_, fun w hw => ?_, hK _ h⟩
  unfold Oper.quietAt execOp
  simp only [ho, hx, Sem.run_bind, run_convert_str src dst e hs he hd n c hn (hb w hw), Result.andThen_ok, Sem.run_pure]
  exact ⟨rfl, rfl⟩
/-- A slice as a pointer to an array. -/
theorem wpQuiet_array {P : Program} {ops : Array Oper} {C : World → Prop} {Q : Act → Prop} {rest : List Oper} {o : Oper} {a : Act} (hgd : o.guard = none) (t : TypeId) (x : Operand) (ho : o.op = .sliceToArrayPointer t x)
    (m : Nat) (e : TypeId) (hu : P.underlying t = some (.array m e)) (A : Option Addr) (n c : Nat) (hx : a.eval x = .slice A n c) (hmn : m ≤ n)
    (h : wpQuiet P ops C Q rest (a.put o.dst (.pointer A))) : wpQuiet P ops C Q (o :: rest) a := by
  refine wpQuiet_step fun K hK => ?_
  rw [if_pos (by simp [Region.wanted, hgd])]
  refine ⟨_, fun w hw => ?_, hK _ h⟩
  unfold Oper.quietAt execOp
  have hn : ¬ n < m := by omega
  simp only [ho, hx, Instr.arrayAt, Sem.run_bind, run_underlying hu, hn, if_false, Sem.run_pure, Result.andThen_ok]
  exact ⟨rfl, rfl⟩
theorem OwnB.made {e : TypeId} {w : World} {base g m : Nat} (h : Blk w g e ((List.replicate m 0).map u8v).toArray) (hb : base ≤ g) (hm : m ≤ 140737488400000 ∧ m ≤ maxLen) : OwnB e w base (.slice (some ⟨g, 0, none⟩) 0 m) [] (List.replicate m 0) :=
  .inr ⟨g, m, rfl, hb, by simpa using h, Nat.zero_le _, hm.2, rfl, by simp⟩
theorem OwnB.lit0 {e : TypeId} (w : World) {base : Nat} (hb : base ≤ w.heap.size) : OwnB e (w.alloc (.cells #[] e)) base (.slice (some ⟨w.heap.size, 0, none⟩) 0 0) [] [] := by
  have := Own.lit (e := e) (size := 1) (base := base) w #[] 0 hb (by simp) (by simp)
  unfold OwnB; simpa using this
namespace Proofs.Ytfpcldnefpmgcaa
theorem nosel : Try.prog.eqGuardType Try.prog.depth 23 = false := by kernel_rfl
theorem Sha.sum_length (l : List UInt8) : (Sha.sum l).length = 16 := by simp [Sha.sum, Sha.out]
set_option maxHeartbeats 400000 in
theorem right_seal_any (A : Option Addr) (n c : Nat) (l s : List UInt8) (hn : n = l.length) (hc : l.length ≤ c) (hc2 : l.length ≤ 140737488351232 ∧ c ≤ 9223372036854775807) (hs : s.length = 16) (w : World) (hb : Bytes w A l) :
    Calls Try.prog 16 #[.slice A n c, .agg (s.map u8v).toArray] w fun e w' => e = .returned (.bool (decide (Sha.sum l = s))) ∧ Below w.heap.size w w' := by
  subst hn
  have hg : Blk (w.alloc (.cells (s.map u8v).toArray 23)) w.heap.size 23 (s.map u8v).toArray := Blk.new _ _ _
  have h0 : Below w.heap.size w (w.alloc (.cells (s.map u8v).toArray 23)) := (Below.refl _ _).alloc (Nat.le_refl _) _
  go_enter Try.func16, Try.ntmps16
  go_wp2_with fail
  generalize hw1 : w.alloc (.cells (s.map u8v).toArray 23) = w1 at hg h0 ⊢
  have hsz : w1.heap.size = w.heap.size + 1 := by rw [← hw1]; simp
  clear hw1
  have hs16 := Sha.sum_length l
  have hst : ∀ w', Below w1.heap.size w1 w' → Calls Try.prog 15 #[.slice A l.length c] w' fun e w'' => e = .returned (.agg ((Sha.sum l).map u8v).toArray) ∧ Below w1.heap.size w1 w'' := fun w' hw' =>
    (sum_any A c l hc hc2 w' (Bytes.below (Bytes.below hb h0) hw')).mono fun e w'' h => ⟨h.1, hw'.trans (h.2.mono hw'.size)⟩
  generalize hS : Sha.sum l = S at hst hs16
  refine wp_region_mix (Below w1.heap.size w1) [0] [1, 2] 3 [4] (by kernel_rfl) (by kernel_rfl) (fun c a a' w h q => ⟨h ▸ q.1, q.2⟩) (Below.refl _ _).drew ?_
  dsimp only [List.filterMap, List.getElem?_cons_zero, List.getElem?_cons_succ]
  repeat (go_big_quiet_step (fail))
  refine wpQuiet_nil ?_
  refine wpQuiet_call Try.call15 (by rfl) _ _ (by rfl) _ (by rfl) _ hst ?_
  simp only [Act.put, List.setIfInBounds_toArray, List.set_cons_zero, List.set_cons_succ]
  refine wpQuiet_load_blk (fun w' hw' => hg.below hw' hg.lt) (by rfl) _ _ (by rfl) (by rfl) _ Try.underlying23 (by rfl) size16 (by simp [hs]) ?_
  simp only [Act.put, List.setIfInBounds_toArray, List.set_cons_zero, List.set_cons_succ]
  refine wpQuiet_nil ?_
  intro w5 hw5
  go_wp2_with (show wpList _ _ _ ((⟨some 8, _, _, _, _, _⟩ : Oper) :: _) _ _; refine wpList_eql_bytes (o := ⟨some 8, _, _, _, _, _⟩) (by rfl) _ _ _ _ _ (by rfl) 16 Try.underlying23 Try.underlying5 size1 nosel S s (by rfl) (by rfl) hs16 hs ?_)
  go_ret
  exact ⟨by rw [hS]; rfl, h0.trans (hw5.mono (by omega))⟩
/-- The bytes, sealed. -/
def Sha.seal_ (l : List UInt8) : List UInt8 := Sha.sum l ++ l
set_option maxHeartbeats 400000 in
theorem seal_any (A : Option Addr) (n c : Nat) (l : List UInt8) (hn : n = l.length) (hc : l.length ≤ c) (hc2 : l.length ≤ 140737488351232 ∧ c ≤ 9223372036854775807) (w : World) (hb : Bytes w A l) :
    Calls Try.prog 19 #[.slice A n c] w fun e w' => ∃ v sp, e = .returned v ∧ OwnB 5 w' w.heap.size v (Sha.seal_ l) sp ∧ Below w.heap.size w w' := by
  subst hn
  go_enter Try.func19, Try.ntmps19
  go_wp2_with fail
  refine (sum_any A c l hc hc2 w hb).mono ?_
  rintro e w1 ⟨rfl, hb1⟩
  have hs16 := Sha.sum_length l
  obtain ⟨S, hS⟩ : ∃ S, S = Sha.sum l := ⟨_, rfl⟩
  rw [← hS] at hs16 ⊢
  have HS := Lib.hid hS
  clear hS
  have a16 := alloc16
  have hz := Blk.new w1 23 zero16
  have hbz := hb1.alloc hb1.size (.cells zero16 23)
  go_wp2_with (first
    | (show wpList _ _ _ ((⟨none, _, _, _, _, _⟩ : Oper) :: _) _ _; refine wpList_store_blk (o := ⟨none, _, _, _, _, _⟩) hz (by rfl) _ _ _ (by rfl) (by rfl) (S.map u8v).toArray (by rfl) size16 (arr_size _ _) (by simp [hs16]) (u8_all _) ?_; intro w2 h2 hu2; have hb2 := hbz.upd hu2 hb1.size; have hbl2 := Bytes.below hb hb2; clear hu2 hbz hz)
    | (show wpList _ _ _ ((⟨some 10, _, _, _, _, _⟩ : Oper) :: _) _ _; refine wpList_make_bytes (o := ⟨some 10, _, _, _, _, _⟩) _ (by rfl) _ _ _ (by rfl) _ Try.underlying22 u8info .i64 .i64 _ _ 0 (l.length + 16) (by rfl) (by rfl) (by rfl) (by omega) (by omega) (by omega) ?_; intro w3 h3 hb3 hs3; have ho3 := OwnB.made (base := w.heap.size) h3 hb2.size (by simp [maxLen]; omega); have hS3 := (h2.below hb3 h2.lt).bytes; have hl3 := Bytes.below hbl2 hb3; replace hb3 := hb2.trans (hb3.mono hb2.size); have hsz3 := hb3.size; have hlt3 := h2.lt; clear h3 h2 hbl2)
    | (show wpList _ _ _ ((⟨some 13, _, _, _, _, _⟩ : Oper) :: _) _ _; refine wpList_append_bytes (o := ⟨some 13, _, _, _, _, _⟩) (by rfl) _ _ _ (by rfl) w.heap.size _ Try.underlying22 u8info (.slice (some ⟨w2.heap.size, 0, none⟩) 0 (l.length + 16)) [] _ (by rfl) ho3 (some ⟨w1.heap.size, 0, none⟩) 16 S (by rw [hs16]; rfl) hS3 (by simp; omega) hsz3 ?_; intro v4 w4 sp4 ho4 hg4 _ _; have hb4 := hb3.grown hg4 hsz3 (fun k hk => (Own.lt ho3 k hk).1); have hl4 := Bytes.below hb hb4; have hsz4 := hb4.size; clear ho3 hS3 hl3 hb3 hg4)
    | (show wpList _ _ _ ((⟨some 15, _, _, _, _, _⟩ : Oper) :: _) _ _; refine wpList_append_bytes (o := ⟨some 15, _, _, _, _, _⟩) (by rfl) _ _ _ (by rfl) w.heap.size _ Try.underlying22 u8info v4 ([] ++ S) sp4 (by rfl) ho4 A c l (by rfl) hl4 (by simp; omega) hsz4 ?_; intro v5 w5 sp5 ho5 hg5 _ _; have hb5 := hb4.grown hg5 hsz4 (fun k hk => (Own.lt ho4 k hk).1); clear ho4 hl4 hb4 hg5)
    | fail)
  go_ret
  exact ⟨v5, sp5, rfl, by rw [List.nil_append, HS.out] at ho5; exact ho5, hb5⟩
set_option maxHeartbeats 400000 in
theorem rseal_any (A : Option Addr) (n c : Nat) (l : List UInt8) (hn : n = l.length) (hc : l.length ≤ c) (hc2 : l.length ≤ 140737488351232 ∧ c ≤ 9223372036854775807) (w : World) (hb : Bytes w A l) :
    Calls Try.prog 23 #[.slice A n c] w fun e w' => ∃ v sp, e = .returned v ∧ OwnB 5 w' w.heap.size v (Sha.seal_ l) sp ∧ Below w.heap.size w w' := by
  subst hn
  go_enter Try.func23, Try.ntmps23
  go_wp2_with fail
  refine (rsum_any A c l hc hc2 w hb).mono ?_
  rintro e w1 ⟨rfl, hb1⟩
  have hs16 := Sha.sum_length l
  obtain ⟨S, hS⟩ : ∃ S, S = Sha.sum l := ⟨_, rfl⟩
  rw [← hS] at hs16 ⊢
  have HS := Lib.hid hS
  clear hS
  have a16 := alloc16
  have hz := Blk.new w1 23 zero16
  have hbz := hb1.alloc hb1.size (.cells zero16 23)
  go_wp2_with (first
    | (show wpList _ _ _ ((⟨none, _, _, _, _, _⟩ : Oper) :: _) _ _; refine wpList_store_blk (o := ⟨none, _, _, _, _, _⟩) hz (by rfl) _ _ _ (by rfl) (by rfl) (S.map u8v).toArray (by rfl) size16 (arr_size _ _) (by simp [hs16]) (u8_all _) ?_; intro w2 h2 hu2; have hb2 := hbz.upd hu2 hb1.size; have hbl2 := Bytes.below hb hb2; have hb3 := hb2.alloc hb2.size (.cells #[] 5); have ho3 := OwnB.lit0 (e := 5) w2 hb2.size; have hS3 := (h2.alloc (.cells #[] 5)).bytes; have hsz3 := hb3.size; clear hu2 hbz hz h2 hbl2 hb2)
    | (show wpList _ _ _ ((⟨some 8, _, _, _, _, _⟩ : Oper) :: _) _ _; refine wpList_append_bytes (o := ⟨some 8, _, _, _, _, _⟩) (by rfl) _ _ _ (by rfl) w.heap.size _ Try.underlying22 u8info (.slice (some ⟨w2.heap.size, 0, none⟩) 0 0) [] _ (by rfl) ho3 (some ⟨w1.heap.size, 0, none⟩) 16 S (by rw [hs16]; rfl) hS3 (by simp; omega) hsz3 ?_; intro v4 w4 sp4 ho4 hg4 _ _; have hb4 := hb3.grown hg4 hsz3 (fun k hk => (Own.lt ho3 k hk).1); have hl4 := Bytes.below hb hb4; have hsz4 := hb4.size; clear ho3 hS3 hb3 hg4)
    | (show wpList _ _ _ ((⟨some 10, _, _, _, _, _⟩ : Oper) :: _) _ _; refine wpList_append_bytes (o := ⟨some 10, _, _, _, _, _⟩) (by rfl) _ _ _ (by rfl) w.heap.size _ Try.underlying22 u8info v4 ([] ++ S) sp4 (by rfl) ho4 A c l (by rfl) hl4 (by simp; omega) hsz4 ?_; intro v5 w5 sp5 ho5 hg5 _ _; have hb5 := hb4.grown hg5 hsz4 (fun k hk => (Own.lt ho4 k hk).1); clear ho4 hl4 hb4 hg5)
    | fail)
  go_ret
  exact ⟨v5, sp5, rfl, by rw [List.nil_append, HS.out] at ho5; exact ho5, hb5⟩
/-- What the bytes are when they are opened: the error's number, and what is told. -/
def Sha.opened (l : List UInt8) : Int × List UInt8 := if l.length < 16 then (4, []) else if Sha.sum (l.drop 16) = l.take 16 then (0, l.drop 16) else (12, [])
set_option maxHeartbeats 400000 in
theorem open_any (A : Option Addr) (n c : Nat) (l : List UInt8) (hn : n = l.length) (hc : l.length ≤ c) (hc2 : l.length ≤ 140737488351232 ∧ c ≤ 9223372036854775807) (w : World) (hb : Bytes w A l) :
    Calls Try.prog 20 #[.slice A n c] w fun e w' => ∃ v, e = .returned (.tuple #[v, .int .i64 (Sha.opened l).1]) ∧ (∃ sp, OwnB 5 w' w.heap.size v (Sha.opened l).2 sp) ∧ Below w.heap.size w w' := by
  subst hn
  go_enter Try.func20, Try.ntmps20
  by_cases h16 : l.length < 16
  · have ho : Sha.opened l = (4, []) := by unfold Sha.opened; rw [if_pos h16]
    rw [ho]
    go_wp2
    go_ret2
    exact ⟨_, rfl, ⟨[], Own.nil _ _ _ _⟩, Below.refl _ _⟩
  · have ho : Sha.opened l = if Sha.sum (l.drop 16) = l.take 16 then (0, l.drop 16) else (12, []) := by unfold Sha.opened; rw [if_neg h16]
    have HO := Lib.hid ho
    clear ho
    go_wp2_with fail
    obtain ⟨b, off, rfl, hbl, hcell⟩ := hb.at_ (by omega)
    have hd : Bytes w (if c = 16 then some ⟨b, off, none⟩ else some ⟨b, off + 16, none⟩) (l.drop 16) := hb.drop (k := 16) (cap := c) (by omega)
    obtain ⟨T, hT⟩ : ∃ T, T = l.take 16 := ⟨_, rfl⟩
    obtain ⟨D, hD⟩ : ∃ D, D = l.drop 16 := ⟨_, rfl⟩
    have hTl : T.length = 16 := by rw [hT]; simp; omega
    have hDl : D.length = l.length - 16 := by rw [hD]; simp
    have hst : ∀ w', Below w.heap.size w w' → Calls Try.prog 16 #[.slice (if c = 16 then some ⟨b, off, none⟩ else some ⟨b, off + 16, none⟩) (l.length - 16) (c - 16), .agg (T.map u8v).toArray] w' fun e w'' => e = .returned (.bool (decide (Sha.sum D = T))) ∧ Below w.heap.size w w'' := fun w' hw' =>
      (right_seal_any _ _ (c - 16) D T hDl.symm (by omega) (by omega) hTl w' (Bytes.below (hD ▸ hd) hw')).mono fun e w'' h => ⟨h.1, hw'.trans (h.2.mono hw'.size)⟩
    have hcs : ∀ w', Below w.heap.size w w' → w'.rangeAt b off (T.map u8v) := fun w' hw' j v hv => by
      rw [hT] at hv
      have hj : j < l.length := by
        rcases Nat.lt_or_ge j l.length with h1 | h1
        · exact h1
        · have : ((l.take 16).map u8v)[j]? = none := List.getElem?_eq_none (by simp; omega)
          rw [this] at hv; cases hv
      rw [hw'.cell (p := ⟨b, off + j, none⟩) hbl, hcell j hj]
      rw [List.getElem?_map, List.getElem?_take] at hv
      split at hv
      · simp [hj] at hv; rw [← hv]; simp [u8v, hj]
      · simp at hv
    refine wp_region_mix (Below w.heap.size w) [0, 1, 2, 3, 4] [5] 6 [7] (by kernel_rfl) (by kernel_rfl) (fun c a a' w h q => ⟨h ▸ q.1, q.2⟩) (Below.refl _ _).drew ?_
    dsimp only [List.filterMap, List.getElem?_cons_zero, List.getElem?_cons_succ]
    repeat (go_big_quiet_step (fail))
    refine wpQuiet_array (by rfl) _ _ (by rfl) 16 _ Try.underlying23 (some ⟨b, off, none⟩) 16 c (by rfl) (Nat.le_refl _) ?_
    simp only [Act.put, List.setIfInBounds_toArray, List.set_cons_zero, List.set_cons_succ]
    refine wpQuiet_nil ?_
    refine wpQuiet_load_mid hcs (by rfl) _ _ (by rfl) (by rfl) _ Try.underlying23 (by rfl) size16 (by rw [List.length_map]; exact hTl) ?_
    simp only [Act.put, List.setIfInBounds_toArray, List.set_cons_zero, List.set_cons_succ]
    refine wpQuiet_nil ?_
    intro w1 hb1
    rw [← hD] at hd HO
    rw [← hT] at HO
    have HDL := Lib.hid hDl
    have HD := Lib.hid hD
    have HTL := Lib.hid hTl
    clear hT hD hcs hDl hTl
    generalize (if c = 16 then some (⟨b, off, none⟩ : Addr) else some ⟨b, off + 16, none⟩) = A2 at hst hd ⊢
    go_wp2_with fail
    refine (hst w1 hb1).mono ?_
    rintro e w2 ⟨rfl, hb2⟩
    by_cases he : Sha.sum D = T
    · rw [decide_eq_true he]
      rw [if_pos he] at HO
      have hl2 := Bytes.below (show Bytes w (some ⟨b, off, none⟩) l from hb) hb2
      have hsz2 := hb2.size
      clear hst hb1 hd
      go_wp2_with (first
        | (show wpList _ _ _ ((⟨some 16, _, _, _, _, _⟩ : Oper) :: _) _ _; refine wpList_cut_bytes (o := ⟨some 16, _, _, _, _, _⟩) (by rfl) _ _ _ (by rfl) _ Try.underlying22 size1 (some ⟨b, off, none⟩) l.length c .i64 16 (by rfl) (by rfl) l rfl (by omega) hc hl2 ?_; intro A3 hl3 _; rw [← HD.out] at hl3 ⊢; clear hl2)
        | (show wpList _ _ _ ((⟨some 17, _, _, _, _, _⟩ : Oper) :: _) _ _; refine wpList_append_bytes (o := ⟨some 17, _, _, _, _, _⟩) (by rfl) _ _ _ (by rfl) w.heap.size _ Try.underlying22 u8info (.slice none 0 0) [] [] (by rfl) (Own.nil _ _ _ _) A3 (c - 16) D (by rfl) hl3 (by have := HDL.out; simp; omega) hsz2 ?_; intro v4 w4 sp4 ho4 hg4 _ _; have hb4 := hb2.grown hg4 hsz2 (fun k hk => by cases hk); clear hl3 hb2 hg4)
        | fail)
      go_ret2
      rw [HO.out]
      exact ⟨v4, rfl, ⟨sp4, by simpa using ho4⟩, hb4⟩
    · rw [decide_eq_false he]
      rw [if_neg he] at HO
      clear hst hb1 hd
      go_wp2_with fail
      go_ret2
      rw [HO.out]
      exact ⟨_, rfl, ⟨[], Own.nil _ _ _ _⟩, hb2⟩
set_option maxHeartbeats 400000 in
theorem ropen_any (A : Option Addr) (n c : Nat) (l : List UInt8) (hn : n = l.length) (hc : l.length ≤ c) (hc2 : l.length ≤ 140737488351232 ∧ c ≤ 9223372036854775807) (w : World) (hb : Bytes w A l) :
    Calls Try.prog 21 #[.slice A n c] w fun e w' => ∃ v, e = .returned (.tuple #[v, .int .i64 (Sha.opened l).1]) ∧ (∃ sp, OwnB 5 w' w.heap.size v (Sha.opened l).2 sp) ∧ Below w.heap.size w w' := by
  subst hn
  go_enter Try.func21, Try.ntmps21
  by_cases h16 : l.length < 16
  · have ho : Sha.opened l = (4, []) := by unfold Sha.opened; rw [if_pos h16]
    rw [ho]
    go_wp2
    go_ret2
    exact ⟨_, rfl, ⟨[], Own.nil _ _ _ _⟩, Below.refl _ _⟩
  · have ho : Sha.opened l = if Sha.sum (l.drop 16) = l.take 16 then (0, l.drop 16) else (12, []) := by unfold Sha.opened; rw [if_neg h16]
    have HO := Lib.hid ho
    clear ho
    obtain ⟨T, hT⟩ : ∃ T, T = l.take 16 := ⟨_, rfl⟩
    obtain ⟨D, hD⟩ : ∃ D, D = l.drop 16 := ⟨_, rfl⟩
    have hTl : T.length = 16 := by rw [hT]; simp; omega
    have hDl : D.length = l.length - 16 := by rw [hD]; simp
    rw [← hT, ← hD] at HO
    have hbT : Bytes w A T := by rw [hT]; exact hb.take 16
    have HD := Lib.hid hD
    have HDL := Lib.hid hDl
    have HTL := Lib.hid hTl
    clear hT hD hDl hTl
    have a16 := alloc16
    go_wp2_with (first
      | (show wpList _ _ _ ((⟨some 9, _, _, _, _, _⟩ : Oper) :: _) _ _; refine wpList_cut_bytes (o := ⟨some 9, _, _, _, _, _⟩) (by rfl) _ _ _ (by rfl) _ Try.underlying22 size1 A l.length c .i64 16 (by rfl) (by rfl) l rfl (by omega) hc hb ?_; intro A3 hl3 _; rw [← HD.out] at hl3 ⊢)
      | fail)
    refine (rsum_any A3 (c - 16) D (by have := HDL.out; omega) (by have := HDL.out; omega) w hl3).mono ?_
    rintro e w1 ⟨rfl, hb1⟩
    have hs16 := Sha.sum_length D
    obtain ⟨S, hS⟩ : ∃ S, S = Sha.sum D := ⟨_, rfl⟩
    rw [← hS] at hs16 ⊢ HO
    clear hS
    have hz := Blk.new w1 23 zero16
    have hbz := hb1.alloc hb1.size (.cells zero16 23)
    go_wp2_with (first
      | (show wpList _ _ _ ((⟨none, _, _, _, _, _⟩ : Oper) :: _) _ _; refine wpList_store_blk (o := ⟨none, _, _, _, _, _⟩) hz (by rfl) _ _ _ (by rfl) (by rfl) (S.map u8v).toArray (by rfl) size16 (arr_size _ _) (by simp [hs16]) (u8_all _) ?_; intro w2 h2 hu2; have hb2 := hbz.upd hu2 hb1.size; have hT2 := Bytes.below hbT hb2; have hl2 := Bytes.below hb hb2; have hS2 := h2.bytes; have hsz2 := hb2.size; clear hu2 hbz hz h2)
      | fail)
    simp only [Act.put]
    refine wp_region_mix (fun w' => w' = w2.drew) [0, 2, 3] [1, 4] 5 [] (by kernel_rfl) (by kernel_rfl) (fun c a a' w h q => ⟨h ▸ q.1, q.2⟩) rfl ?_
    dsimp only [List.filterMap, List.getElem?_cons_zero, List.getElem?_cons_succ]
    repeat (go_big_quiet_step (fail))
    refine wpQuiet_nil ?_
    refine wpQuiet_convert_str (by rfl) 22 9 5 _ (by rfl) Try.underlying22 Try.underlying5 Try.underlying9 (some ⟨w1.heap.size, 0, none⟩) 16 16 S (by rfl) hs16.symm (fun w' hw' => by subst hw'; exact hS2) ?_
    simp only [Act.put, List.setIfInBounds_toArray, List.set_cons_zero, List.set_cons_succ]
    refine wpQuiet_convert_str (by rfl) 22 9 5 _ (by rfl) Try.underlying22 Try.underlying5 Try.underlying9 A 16 c T (by rfl) HTL.out.symm (fun w' hw' => by subst hw'; exact hT2) ?_
    simp only [Act.put, List.setIfInBounds_toArray, List.set_cons_zero, List.set_cons_succ]
    refine wpQuiet_nil ?_
    rintro w3 rfl
    have hbq := str_beq S T
    have hb2d := hb2.trans (Below.refl _ _).drew
    have hl2d : Bytes w2.drew A l := hl2
    clear hS2 hT2 hl2 hl3
    by_cases he : S = T
    · rw [decide_eq_true he] at hbq
      rw [if_pos he] at HO
      have hb3 := hb2d.alloc hb2d.size (.cells #[] 5)
      have ho3 := OwnB.lit0 (e := 5) w2.drew hb2d.size
      have hl3 := Bytes.below hb hb3
      have hsz3 := hb3.size
      go_wp2_with (first
        | (show wpList _ _ _ ((⟨some 19, _, _, _, _, _⟩ : Oper) :: _) _ _; refine wpList_cut_bytes (o := ⟨some 19, _, _, _, _, _⟩) (by rfl) _ _ _ (by rfl) _ Try.underlying22 size1 A l.length c .i64 16 (by rfl) (by rfl) l rfl (by omega) hc hl3 ?_; intro A4 hl4 _; rw [← HD.out] at hl4 ⊢)
        | (show wpList _ _ _ ((⟨some 20, _, _, _, _, _⟩ : Oper) :: _) _ _; refine wpList_append_bytes (o := ⟨some 20, _, _, _, _, _⟩) (by rfl) _ _ _ (by rfl) w.heap.size _ Try.underlying22 u8info (.slice (some ⟨w2.drew.heap.size, 0, none⟩) 0 0) [] [] (by rfl) ho3 A4 (c - 16) D (by rfl) hl4 (by have := HDL.out; simp; omega) hsz3 ?_; intro v4 w4 sp4 ho4 hg4 _ _; have hb4 := hb3.grown hg4 hsz3 (fun k hk => (Own.lt ho3 k hk).1); clear hl3 hb3 hg4)
        | fail)
      go_ret2
      rw [HO.out]
      exact ⟨v4, rfl, ⟨sp4, by simpa using ho4⟩, hb4⟩
    · rw [decide_eq_false he] at hbq
      rw [if_neg he] at HO
      go_wp2_with fail
      go_ret2
      rw [HO.out]
      exact ⟨_, rfl, ⟨[], Own.nil _ _ _ _⟩, hb2d⟩
end Proofs.Ytfpcldnefpmgcaa
end Go
