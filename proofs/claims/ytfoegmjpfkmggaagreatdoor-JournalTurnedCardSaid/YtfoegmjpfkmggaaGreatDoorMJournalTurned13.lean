/- A message as an argument: what its cells are; what the two functions that seal messages answer, whatever the message. Condition: the body can be read. -/
import Derived.Test.YtfoegmjpfkmggaaGreatDoorMJournalTurned12
namespace Go.Proofs.YtfoegmjpfkmggaaGreatDoor
open Go.RowKit
/-- What a message is sealed as: the error's number, the bytes. -/
def Msg.seal_ (f : HdF) (body : List UInt8) : Int × List UInt8 :=
  if 1024 < body.length then (3, []) else if Hd.ok (setF f 2 body.length) = true then (0, Hd.bytes (setF f 2 body.length) body) else (2, [])
theorem hseal_any (f : HdF) (A : Option Addr) (n c : Nat) (body : List UInt8) (w : World) (hn : n = body.length) (hby : Bytes w A body) (hc : n ≤ c ∧ c ≤ 9223372036854775807) (hin : Hd.in_ f) :
    Calls Tryz.prog 77 #[.agg (msgc f (.slice A n c))] w fun e w' => ∃ E : Ent, e = .returned (.tuple #[E.val, .int .i64 (Msg.seal_ f body).1]) ∧ E.Is w' ∧ (∀ g, E.blk = some g → w.heap.size ≤ g) ∧ E.n = E.l.length ∧
      E.l = (Msg.seal_ f body).2 ∧ Below w.heap.size w w' := by
  subst hn
  by_cases h1 : 1024 < body.length
  · rw [show Msg.seal_ f body = (3, []) by unfold Msg.seal_; rw [if_pos h1]]
    refine (hseal_long f A c body w h1).mono ?_
    rintro e w' ⟨rfl, hB⟩
    exact ⟨⟨none, 0, []⟩, rfl, ⟨Nat.le_refl _, by simp, .inl ⟨rfl, rfl⟩⟩, fun g h => (by cases h), rfl, rfl, hB⟩
  · cases h2 : Hd.ok (setF f 2 body.length)
    · rw [show Msg.seal_ f body = (2, []) by unfold Msg.seal_; rw [if_neg h1, if_neg (by rw [h2]; simp)]]
      refine (hseal_no f A c body w (by omega) h2).mono ?_
      rintro e w' ⟨rfl, hB⟩
      exact ⟨⟨none, 0, []⟩, rfl, ⟨Nat.le_refl _, by simp, .inl ⟨rfl, rfl⟩⟩, fun g h => (by cases h), rfl, rfl, hB⟩
    · rw [show Msg.seal_ f body = (0, Hd.bytes (setF f 2 body.length) body) by unfold Msg.seal_; rw [if_neg h1, if_pos h2]]
      refine (hseal_ok f A c body w hby hc (by omega) h2 hin).mono ?_
      rintro e w' ⟨g, rfl, hg, hb, hB⟩
      have hl := Hd.bytes_length (setF f 2 body.length) body
      refine ⟨⟨some ⟨g, 0, none⟩, 256 + body.length, Hd.bytes (setF f 2 body.length) body⟩, ?_, ⟨by simp only; omega, by simp only; omega, .inr ⟨g, _, rfl, hb⟩⟩, fun g' h => ?_, hl.symm, rfl, hB⟩
      · unfold Ent.val; simp only; rw [hl]
      · unfold Ent.blk at h; simp at h; omega
theorem rhseal_any (f : HdF) (A : Option Addr) (n c : Nat) (body : List UInt8) (w : World) (hn : n = body.length) (hby : Bytes w A body) (hc : n ≤ c ∧ c ≤ 9223372036854775807) (hin : Hd.in_ f) :
    Calls Tryz.prog 83 #[.agg (msgc f (.slice A n c))] w fun e w' => ∃ v sp, e = .returned (.tuple #[v, .int .i64 (Msg.seal_ f body).1]) ∧ OwnB 5 w' w.heap.size v (Msg.seal_ f body).2 sp ∧ Below w.heap.size w w' := by
  subst hn
  by_cases h1 : 1024 < body.length
  · rw [show Msg.seal_ f body = (3, []) by unfold Msg.seal_; rw [if_pos h1]]
    refine (rhseal_long f A c body w h1).mono ?_
    rintro e w' ⟨rfl, hB⟩
    exact ⟨_, [], rfl, OwnsC.nil _ _ _ _, hB⟩
  · cases h2 : Hd.ok (setF f 2 body.length)
    · rw [show Msg.seal_ f body = (2, []) by unfold Msg.seal_; rw [if_neg h1, if_neg (by rw [h2]; simp)]]
      refine (rhseal_no f A c body w (by omega) h2).mono ?_
      rintro e w' ⟨rfl, hB⟩
      exact ⟨_, [], rfl, OwnsC.nil _ _ _ _, hB⟩
    · rw [show Msg.seal_ f body = (0, Hd.bytes (setF f 2 body.length) body) by unfold Msg.seal_; rw [if_neg h1, if_pos h2]]
      refine (rhseal_ok f A c body w hby hc (by omega) h2 hin).mono ?_
      rintro e w' ⟨v, sp, rfl, ho, hB⟩
      exact ⟨v, sp, rfl, ho, hB⟩
end Go.Proofs.YtfoegmjpfkmggaaGreatDoor

/- Two headers compared, two messages compared. Conditions: the bodies can be read. -/
namespace Go.Proofs.YtfoegmjpfkmggaaGreatDoor
open Go.RowKit
theorem hdc_lit (f : HdF) : hdc f = #[.int .i64 (f 0), .int .i64 (f 1), .int .i64 (f 2), .int .i64 (f 3), .int .i64 (f 4), .int .i64 (f 5), .int .i64 (f 6), .int .i64 (f 7), .int .i64 (f 8), .int .u64 (f 9), .int .u64 (f 10), .int .i64 (f 11), .int .i64 (f 12), .int .u64 (f 13), .int .i64 (f 14), .int .i64 (f 15)] := by rfl
def Hd.beq (f g : HdF) : Bool := (f 0 == g 0) && (f 1 == g 1) && (f 2 == g 2) && (f 3 == g 3) && (f 4 == g 4) && (f 5 == g 5) && (f 6 == g 6) && (f 7 == g 7) && (f 8 == g 8) && (f 9 == g 9) && (f 10 == g 10) && (f 11 == g 11) && (f 12 == g 12) && (f 13 == g 13) && (f 14 == g 14) && (f 15 == g 15)
theorem Hd.beq_same (f g : HdF) : Hd.beq f g = true ↔ Hd.same f g := by
  unfold Hd.beq Hd.same
  simp only [Bool.and_eq_true, beq_iff_eq]
  constructor
  · intro h i hi
    have : i = 0 ∨ i = 1 ∨ i = 2 ∨ i = 3 ∨ i = 4 ∨ i = 5 ∨ i = 6 ∨ i = 7 ∨ i = 8 ∨ i = 9 ∨ i = 10 ∨ i = 11 ∨ i = 12 ∨ i = 13 ∨ i = 14 ∨ i = 15 := by omega
    rcases this with rfl | rfl | rfl | rfl | rfl | rfl | rfl | rfl | rfl | rfl | rfl | rfl | rfl | rfl | rfl | rfl <;> simp only [h]
  · intro h
    simp only [h 0 (by omega), h 1 (by omega), h 2 (by omega), h 3 (by omega), h 4 (by omega), h 5 (by omega), h 6 (by omega), h 7 (by omega), h 8 (by omega), h 9 (by omega), h 10 (by omega), h 11 (by omega), h 12 (by omega), h 13 (by omega), h 14 (by omega), h 15 (by omega), and_self]
theorem noselHd : Tryz.prog.eqGuardType Tryz.prog.depth 38 = false := by kernel_rfl
theorem heldHd : Tryz.prog.stoodInHeld 38 = false := by kernel_rfl
set_option maxRecDepth 100000 in
set_option maxHeartbeats 4000000 in
theorem eqHd (w : World) (f g : HdF) : (Op.equalIn 10000 38 (.agg (hdc f)) (.agg (hdc g))).run Tryz.prog w = .ok (Hd.beq f g) w := by
  have hu : Tryz.prog.underlying 38 = some (.struct (Tryz.prog.fieldsOf 38)) := by kernel_rfl
  rw [show (10000 : Nat) = 9999 + 1 from rfl, run_equalIn_struct w 9999 38 _ _ hu heldHd]
  have e : Tryz.prog.fieldsOf 38 = (match Tryz.prog.underlying 38 with | some (.struct fs) => fs | _ => #[]) := rfl
  rw [e, Tryz.underlying38, hdc_lit, hdc_lit]
  have ei := Tryz.underlying3
  have ej := Tryz.underlying34
  simp [Op.eqFields, part, go_sem, ei, ej]
  by_cases h0 : f 0 = g 0
  case neg => rw [if_neg h0]; simp [Hd.beq, h0]
  rw [if_pos h0]
  by_cases h1 : f 1 = g 1
  case neg => rw [if_neg h1]; simp [Hd.beq, h1]
  rw [if_pos h1]
  by_cases h2 : f 2 = g 2
  case neg => rw [if_neg h2]; simp [Hd.beq, h2]
  rw [if_pos h2]
  by_cases h3 : f 3 = g 3
  case neg => rw [if_neg h3]; simp [Hd.beq, h3]
  rw [if_pos h3]
  by_cases h4 : f 4 = g 4
  case neg => rw [if_neg h4]; simp [Hd.beq, h4]
  rw [if_pos h4]
  by_cases h5 : f 5 = g 5
  case neg => rw [if_neg h5]; simp [Hd.beq, h5]
  rw [if_pos h5]
  by_cases h6 : f 6 = g 6
  case neg => rw [if_neg h6]; simp [Hd.beq, h6]
  rw [if_pos h6]
  by_cases h7 : f 7 = g 7
  case neg => rw [if_neg h7]; simp [Hd.beq, h7]
  rw [if_pos h7]
  by_cases h8 : f 8 = g 8
  case neg => rw [if_neg h8]; simp [Hd.beq, h8]
  rw [if_pos h8]
  by_cases h9 : f 9 = g 9
  case neg => rw [if_neg h9]; simp [Hd.beq, h9]
  rw [if_pos h9]
  by_cases h10 : f 10 = g 10
  case neg => rw [if_neg h10]; simp [Hd.beq, h10]
  rw [if_pos h10]
  by_cases h11 : f 11 = g 11
  case neg => rw [if_neg h11]; simp [Hd.beq, h11]
  rw [if_pos h11]
  by_cases h12 : f 12 = g 12
  case neg => rw [if_neg h12]; simp [Hd.beq, h12]
  rw [if_pos h12]
  by_cases h13 : f 13 = g 13
  case neg => rw [if_neg h13]; simp [Hd.beq, h13]
  rw [if_pos h13]
  by_cases h14 : f 14 = g 14
  case neg => rw [if_neg h14]; simp [Hd.beq, h14]
  rw [if_pos h14]
  by_cases h15 : f 15 = g 15
  case neg => rw [if_neg h15]; simp [Hd.beq, h15]
  rw [if_pos h15]
  simp [Hd.beq, h0, h1, h2, h3, h4, h5, h6, h7, h8, h9, h10, h11, h12, h13, h14, h15]
theorem exec_eql_hd {o : Oper} {ac : Act} (w : World) (x y : Operand) (r : TypeId) (ho : o.op = .binOp .eql 38 x y r) (f g : HdF) (hx : ac.eval x = .agg (hdc f)) (hy : ac.eval y = .agg (hdc g)) :
    (execOp ac.eval o).run Tryz.prog w = .ok (.value (.bool (Hd.beq f g))) w := by
  unfold execOp
  simp only [ho, hx, hy, Sem.run_bind, run_eqGuard_agg w .eql 38 x y _ _ noselHd, Result.andThen_ok, run_eql_struct, eqHd, Sem.run_pure]
set_option maxHeartbeats 1000000 in
theorem sameMessage_any (f g : HdF) (A B : Option Addr) (n m c d : Nat) (l l' : List UInt8) (hn : n = l.length) (hm : m = l'.length) (w : World) (h : Bytes w A l) (h' : Bytes w B l') :
    Calls Tryz.prog 16 #[.agg (msgc f (.slice A n c)), .agg (msgc g (.slice B m d))] w fun e w' => e = .returned (.bool (Hd.beq f g && decide (l = l'))) ∧ Below w.heap.size w w' := by
  have hg1 := (Blk.new w 41 (msgc f (.slice A n c))).alloc (.cells (msgc g (.slice B m d)) 41)
  have hg2 := Blk.new' (w.alloc (.cells (msgc f (.slice A n c)) 41)) 41 (msgc g (.slice B m d)) (n := w.heap.size + 1) (by simp)
  have hB := Lib.hid (((Below.refl w.heap.size w).alloc (Nat.le_refl _) (.cells (msgc f (.slice A n c)) 41)).alloc (by simp) (.cells (msgc g (.slice B m d)) 41))
  have HR1 := Lib.hid (hd_range hg1)
  have HR2 := Lib.hid (hd_range hg2)
  have d1 := hg1.at_ 16 (msgc_16 f _)
  have d2 := hg2.at_ 16 (msgc_16 g _)
  have HN := Lib.hid (And.intro hn hm)
  clear hg1 hg2 hn hm
  cases hb : Hd.beq f g
  · rw [Bool.false_and]
    have HB := Lib.hid hb
    clear hb
    go_enter Tryz.func16, Tryz.ntmps16
    go_wp2_with (first
      | (show wpList _ _ _ ((⟨some 6, _, _, _, _, _⟩ : Oper) :: _) _ _; refine wpList_load_mid (o := ⟨some 6, _, _, _, _, _⟩) HR1.out (by rfl) _ _ (by rfl) (by rfl) _ Tryz.underlying38 (by rfl) sizeHd (by rw [Array.length_toList, hdc_size]) ?_; rw [Array.toArray_toList])
      | (show wpList _ _ _ ((⟨some 8, _, _, _, _, _⟩ : Oper) :: _) _ _; refine wpList_load_mid (o := ⟨some 8, _, _, _, _, _⟩) HR2.out (by rfl) _ _ (by rfl) (by rfl) _ Tryz.underlying38 (by rfl) sizeHd (by rw [Array.length_toList, hdc_size]) ?_; rw [Array.toArray_toList])
      | (show wpList _ _ _ ((⟨some 9, _, _, _, _, _⟩ : Oper) :: _) _ _; refine wpList_run (o := ⟨some 9, _, _, _, _, _⟩) _ (by rfl) (exec_eql_hd _ _ _ _ (by rfl) f g (by rfl) (by rfl)) ?_; rw [HB.out])
      | fail)
    go_ret
    exact ⟨rfl, hB.out⟩
  · rw [Bool.true_and]
    have HB := Lib.hid hb
    clear hb
    go_enter Tryz.func16, Tryz.ntmps16
    go_wp2_with (first
      | (show wpList _ _ _ ((⟨some 6, _, _, _, _, _⟩ : Oper) :: _) _ _; refine wpList_load_mid (o := ⟨some 6, _, _, _, _, _⟩) HR1.out (by rfl) _ _ (by rfl) (by rfl) _ Tryz.underlying38 (by rfl) sizeHd (by rw [Array.length_toList, hdc_size]) ?_; rw [Array.toArray_toList])
      | (show wpList _ _ _ ((⟨some 8, _, _, _, _, _⟩ : Oper) :: _) _ _; refine wpList_load_mid (o := ⟨some 8, _, _, _, _, _⟩) HR2.out (by rfl) _ _ (by rfl) (by rfl) _ Tryz.underlying38 (by rfl) sizeHd (by rw [Array.length_toList, hdc_size]) ?_; rw [Array.toArray_toList])
      | (show wpList _ _ _ ((⟨some 9, _, _, _, _, _⟩ : Oper) :: _) _ _; refine wpList_run (o := ⟨some 9, _, _, _, _, _⟩) _ (by rfl) (exec_eql_hd _ _ _ _ (by rfl) f g (by rfl) (by rfl)) ?_; rw [HB.out])
      | fail)
    refine (sameBytes_any A B n m c d l l' HN.out.1 HN.out.2 _ (Bytes.below h hB.out) (Bytes.below h' hB.out)).mono ?_
    rintro e w2 ⟨rfl, hbx⟩
    have hB2 := Lib.hid (show Below w.heap.size w w2 by rw [hbx]; exact hB.out)
    clear hbx HR1 HR2 d1 d2 hB
    go_wp2
    go_ret
    exact ⟨rfl, hB2.out⟩
end Go.Proofs.YtfoegmjpfkmggaaGreatDoor

/- A message's cells, its seal, what is read again; lists filled up with noughts. Plain facts. No condition. -/
namespace Go
open Go.RowKit
instance {w w' : World} {e : Ent} : KeepsTo w w' (e.Is w) (e.Is w') := ⟨fun hb h => h.below hb h.lt⟩
theorem OwnB.bytes {e : TypeId} {w : World} {base n c : Nat} {A : Option Addr} {l sp : List UInt8} (h : OwnB e w base (.slice A n c) l sp) : Bytes w A l := by
  obtain ⟨A', c', h1, _, _, hb⟩ := OwnB.open_ h
  injection h1 with h1 h2 h3
  subst h1
  exact hb
end Go
namespace Go.Proofs.YtfoegmjpfkmggaaGreatDoor
open Go.RowKit
theorem hd_mid {w : World} {g : Nat} {t : TypeId} {f : HdF} {v : Value} (h : Blk w g t (msgc f v)) : ∀ w', Below w.heap.size w w' → w'.rangeAt g 0 (hdc f).toList := fun _ hw => hd_range (h.below hw h.lt)
theorem msgc_at (f : HdF) (v : Value) (i : Nat) (h : i < 9) : (msgc f v)[i]? = some (.int .i64 (f i)) := by rw [msgc_hd f v i (by omega)]; exact hdc_at f i (by omega) (by omega) (by omega) (by omega)
theorem hdc_at9 (f : HdF) (i : Nat) (h : i < 9) : (hdc f)[i]? = some (.int .i64 (f i)) := hdc_at f i (by omega) (by omega) (by omega) (by omega)
theorem setF_self (f : HdF) (i : Nat) (v : Int) (h : f i = v) : setF f i v = f := by
  funext j; unfold setF; by_cases e : j = i
  · rw [if_pos e, e, h]
  · rw [if_neg e]
theorem Msg.seal_cases (f : HdF) (l : List UInt8) : (Msg.seal_ f l = (0, Hd.bytes (setF f 2 l.length) l) ∧ l.length ≤ 1024 ∧ Hd.ok (setF f 2 l.length) = true) ∨ (∃ c : Int, c ≠ 0 ∧ Msg.seal_ f l = (c, [])) := by
  unfold Msg.seal_
  by_cases h1 : 1024 < l.length
  · rw [if_pos h1]; exact .inr ⟨3, by omega, rfl⟩
  · rw [if_neg h1]
    by_cases h2 : Hd.ok (setF f 2 l.length) = true
    · rw [if_pos h2]; exact .inl ⟨rfl, by omega, h2⟩
    · rw [if_neg h2]; exact .inr ⟨2, by omega, rfl⟩
/-! ### Filled up with noughts -/
def fillN (N : Nat) (P : List UInt8) : List UInt8 := P ++ List.replicate (N - P.length) 0
theorem fillN_length (N : Nat) (P : List UInt8) (h : P.length ≤ N) : (fillN N P).length = N := by unfold fillN; rw [List.length_append, List.length_replicate]; omega
theorem fillN_take (N : Nat) (P : List UInt8) (k : Nat) (h : k ≤ P.length) : (fillN N P).take k = P.take k := by unfold fillN; rw [List.take_append_of_le_length h]
/-! ### Slots -/
def Slot.of (x : Int) : Int := if x < 0 then 0 else x % 16
theorem Slot.of_bounds (x : Int) : 0 ≤ Slot.of x ∧ Slot.of x < 16 := by
  unfold Slot.of
  by_cases h : x < 0
  · rw [if_pos h]; omega
  · rw [if_neg h]; omega
def Slot.is (f : HdF) (n : Int) : Bool := (f 0 == 2) && (decide (1 ≤ f 5) && (Slot.of (f 5) == n))
/-- A slot's bytes of a prepare: the error's number, the bytes. -/
def Slot.bytes (f : HdF) (body : List UInt8) : Int × List UInt8 :=
  if (Msg.seal_ f body).1 = 0 then (if Slot.is f (Slot.of (f 5)) = true then (0, fillN 1280 (Msg.seal_ f body).2) else (2, [])) else ((Msg.seal_ f body).1, [])
/-- The header that says that a slot is unwritten. -/
def Slot.fU (n : Int) : HdF := fun i => if i = 0 then 1 else if i = 14 then n else 0
def Slot.unw (n : Int) : Int × List UInt8 := if n < 0 ∨ 16 ≤ n then (5, []) else (0, Hd.bytes (Slot.fU n) [])
theorem Slot.fU_ok (n : Int) (h : 0 ≤ n ∧ n < 16) : Hd.ok (Slot.fU n) = true ∧ Hd.in_ (Slot.fU n) ∧ setF (Slot.fU n) 2 0 = Slot.fU n := by
  refine ⟨?_, ?_, setF_self _ _ _ rfl⟩
  · unfold Hd.ok tenI numOk Slot.fU
    simp
    omega
  · unfold Hd.in_ Slot.fU; simp
theorem Slot.unw_seal (n : Int) (h : 0 ≤ n ∧ n < 16) : Msg.seal_ (Slot.fU n) [] = (0, Hd.bytes (Slot.fU n) []) := by
  obtain ⟨h1, _, h3⟩ := Slot.fU_ok n h
  have h0 : (([] : List UInt8).length : Int) = 0 := rfl
  unfold Msg.seal_
  rw [if_neg (by simp), h0, h3, if_pos h1]
end Go.Proofs.YtfoegmjpfkmggaaGreatDoor

/- An op's slot; is a header that of a prepare of a slot: the program's and the document's. No condition. -/
namespace Go.Proofs.YtfoegmjpfkmggaaGreatDoor
open Go.RowKit
theorem sof_any (x : Int) (w : World) : Calls Tryz.prog 31 #[.int .i64 x] w fun e w' => e = .returned (.int .i64 (Slot.of x)) ∧ w' = w := by
  unfold Slot.of
  by_cases h : x < 0
  · rw [if_pos h]
    go_enter Tryz.func31, Tryz.ntmps31
    go_wp2
    go_ret
    exact ⟨rfl, rfl⟩
  · rw [if_neg h]
    have h1 : 0 ≤ x := by omega
    go_enter Tryz.func31, Tryz.ntmps31
    go_wp2
    go_ret
    exact ⟨rfl, rfl⟩
theorem rsof_any (x : Int) (w : World) : Calls Tryz.prog 85 #[.int .i64 x] w fun e w' => e = .returned (.int .i64 (Slot.of x)) ∧ w' = w := by
  unfold Slot.of
  by_cases h : x < 0
  · rw [if_pos h]
    go_enter Tryz.func85, Tryz.ntmps85
    go_wp2
    go_ret
    exact ⟨rfl, rfl⟩
  · rw [if_neg h]
    have h1 : 0 ≤ x := by omega
    go_enter Tryz.func85, Tryz.ntmps85
    go_wp2
    go_ret
    exact ⟨rfl, rfl⟩
set_option maxHeartbeats 1000000 in
theorem sis_any (f : HdF) (n : Int) (w : World) : Calls Tryz.prog 78 #[.agg (hdc f), .int .i64 n] w fun e w' => e = .returned (.bool (Slot.is f n)) ∧ Below w.heap.size w w' := by
  have hB := Lib.hid ((Below.refl w.heap.size w).alloc (Nat.le_refl _) (.cells (hdc f) 38))
  have hg := Blk.new w 38 (hdc f)
  have d0 := hg.at_ 0 (hdc_at9 f 0 (by omega))
  have d5 := hg.at_ 5 (hdc_at9 f 5 (by omega))
  clear hg
  unfold Slot.is
  cases h0 : (f 0 == 2)
  · rw [Bool.false_and]
    go_enter Tryz.func78, Tryz.ntmps78
    go_wp2
    go_ret
    exact ⟨rfl, hB.out⟩
  · rw [Bool.true_and]
    cases h1 : decide (1 ≤ f 5)
    · rw [Bool.false_and]
      go_enter Tryz.func78, Tryz.ntmps78
      go_wp2
      go_ret
      exact ⟨rfl, hB.out⟩
    · rw [Bool.true_and]
      obtain ⟨o, ho⟩ : ∃ o, o = Slot.of (f 5) := ⟨_, rfl⟩
      rw [← ho]
      have HO := Lib.hid ho
      clear ho
      go_enter Tryz.func78, Tryz.ntmps78
      go_wp2_with fail
      refine (sof_any (f 5) _).mono ?_
      rintro e w2 ⟨rfl, hw⟩
      rw [← HO.out]
      have HB := Lib.hid (show Below w.heap.size w w2 by rw [hw]; exact hB.out)
      clear hw hB d0 d5
      go_wp2
      go_ret
      exact ⟨rfl, HB.out⟩
set_option maxHeartbeats 1000000 in
theorem mine_any (f : HdF) (n : Int) (w : World) : Calls Tryz.prog 84 #[.agg (hdc f), .int .i64 n] w fun e w' => e = .returned (.bool (Slot.is f n)) ∧ Below w.heap.size w w' := by
  have hB := Lib.hid ((Below.refl w.heap.size w).alloc (Nat.le_refl _) (.cells (hdc f) 38))
  have hg := Blk.new w 38 (hdc f)
  have d0 := hg.at_ 0 (hdc_at9 f 0 (by omega))
  have d5 := hg.at_ 5 (hdc_at9 f 5 (by omega))
  clear hg
  unfold Slot.is
  cases h0 : (f 0 == 2)
  · rw [Bool.false_and]
    go_enter Tryz.func84, Tryz.ntmps84
    go_wp2
    go_ret
    exact ⟨rfl, hB.out⟩
  · rw [Bool.true_and]
    cases h1 : decide (1 ≤ f 5)
    · rw [Bool.false_and]
      go_enter Tryz.func84, Tryz.ntmps84
      go_wp2
      go_ret
      exact ⟨rfl, hB.out⟩
    · rw [Bool.true_and]
      obtain ⟨o, ho⟩ : ∃ o, o = Slot.of (f 5) := ⟨_, rfl⟩
      rw [← ho]
      have HO := Lib.hid ho
      clear ho
      go_enter Tryz.func84, Tryz.ntmps84
      go_wp2_with fail
      refine (rsof_any (f 5) _).mono ?_
      rintro e w2 ⟨rfl, hw⟩
      rw [← HO.out]
      have HB := Lib.hid (show Below w.heap.size w w2 by rw [hw]; exact hB.out)
      clear hw hB d0 d5
      go_wp2
      go_ret
      exact ⟨rfl, HB.out⟩
end Go.Proofs.YtfoegmjpfkmggaaGreatDoor

/- What stands in a slot, and how a slot is, by its bytes: plain facts. No condition. -/
namespace Go.Proofs.YtfoegmjpfkmggaaGreatDoor
def Slot.no : Bool × HdF × List UInt8 := (false, Hd.none_, [])
/-- The prepare at the front of bytes: is there one, its numbers, its body. -/
def Slot.prep (b : List UInt8) (n : Int) : Bool × HdF × List UInt8 :=
  if b.length < 256 then Slot.no
  else if (Hd.read (b.take 256)).1 ≠ 0 then Slot.no
  else if Slot.is (Hd.parse (b.take 256)) n = false then Slot.no
  else if ((b.length - 256 : Nat) : Int) < Hd.parse (b.take 256) 2 then Slot.no
  else if (Msg.read (b.take (256 + (Hd.parse (b.take 256) 2).toNat))).1 ≠ 0 then Slot.no
  else (true, Hd.parse (b.take 256), (b.drop 256).take (Hd.parse (b.take 256) 2).toNat)
/-- What a slot's header is: 0 broken, 1 unwritten, 2 written; its numbers. -/
def Slot.kind (b : List UInt8) (n : Int) : Int × HdF :=
  if (Hd.read b).1 ≠ 0 then (0, Hd.none_) else if b = Hd.bytes (Slot.fU n) [] then (1, Hd.none_) else if Slot.is (Hd.parse b) n = true then (2, Hd.parse b) else (0, Hd.none_)
def Slot.put (P : Bool × HdF × List UInt8) (K : Int × HdF) (same nought : Bool) : Int × Int × Int × Bool :=
  if (P.1 && (K.1 == 2) && same) = true then (1, P.2.1 5, P.2.1 3, false)
  else if (P.1 && ((K.1 != 2) || decide (K.2 5 < P.2.1 5) || (K.2 5 == P.2.1 5 && decide (K.2 3 < P.2.1 3)))) = true then (1, P.2.1 5, P.2.1 3, true)
  else if K.1 = 2 then (3, K.2 5, K.2 3, false)
  else if K.1 = 0 then (3, 0, 0, false)
  else if nought = true then (4, 0, 0, false) else (2, 0, 0, false)
def Slot.judge (h p : List UInt8) (n : Int) : Int × Int × Int × Bool :=
  if n < 0 ∨ 16 ≤ n then (0, 0, 0, false) else Slot.put (Slot.prep p n) (Slot.kind h n) (decide (h = p.take 256)) (p.all (· == 0))
theorem Slot.judge_in (h p : List UInt8) (n : Int) (hn : 0 ≤ n ∧ n < 16) : Slot.judge h p n = Slot.put (Slot.prep p n) (Slot.kind h n) (decide (h = p.take 256)) (p.all (· == 0)) := by
  unfold Slot.judge; rw [if_neg (by omega)]
theorem Slot.is_same {f g : HdF} (h : Hd.same f g) (n : Int) : Slot.is f n = Slot.is g n := by
  unfold Slot.is; rw [h 0 (by omega), h 5 (by omega)]
theorem Hd.bytes_take (f : HdF) (l : List UInt8) : (Hd.bytes f l).take 256 = Hd.head f (Sha.sum l) := by
  have hl := Hd.head_length f _ (Sha.sum_len l)
  unfold Hd.bytes; rw [← hl, List.take_left]
theorem Hd.bytes_drop (f : HdF) (l : List UInt8) : (Hd.bytes f l).drop 256 = l := by
  have hl := Hd.head_length f _ (Sha.sum_len l)
  unfold Hd.bytes; rw [← hl, List.drop_left]
theorem Hd.read_bytes (f : HdF) (l : List UInt8) (hok : Hd.ok f = true) (hin : Hd.in_ f) : Hd.read ((Hd.bytes f l).take 256) = (0, Hd.parse ((Hd.bytes f l).take 256)) ∧ Hd.same (Hd.parse ((Hd.bytes f l).take 256)) f := by
  rw [Hd.bytes_take]
  obtain ⟨h0, hsame⟩ := Hd.read_head f _ (Sha.sum_len l) hok hin
  rcases Hd.read_cases (Hd.head f (Sha.sum l)) with (h | h) | ⟨h, -⟩
  · rw [h] at h0; simp at h0
  · rw [h] at h0; simp at h0
  · rw [h] at hsame; exact ⟨h, hsame⟩
/-- Bytes at whose front a message's bytes stand. -/
theorem Slot.prep_bytes (b : List UInt8) (f : HdF) (l : List UInt8) (n : Int) (hb : b.take (256 + l.length) = Hd.bytes f l) (hok : Hd.ok f = true) (hin : Hd.in_ f) (h2 : f 2 = (l.length : Int)) (hi : Slot.is f n = true) :
    Slot.prep b n = (true, Hd.parse (b.take 256), l) ∧ Hd.same (Hd.parse (b.take 256)) f ∧ b.take 256 = (Hd.bytes f l).take 256 := by
  have hbl := Hd.bytes_length f l
  have hlen : 256 + l.length ≤ b.length := by
    have h := congrArg List.length hb
    rw [List.length_take, hbl] at h; omega
  have ht : b.take 256 = (Hd.bytes f l).take 256 := by rw [← hb, List.take_take, Nat.min_eq_left (by omega)]
  obtain ⟨hr, hs⟩ := Hd.read_bytes f l hok hin
  obtain ⟨_, hm⟩ := Msg.read_bytes f l hok hin h2
  have hd : (b.drop 256).take l.length = l := by rw [List.take_drop, hb, Hd.bytes_drop]
  have h2' : Hd.parse ((Hd.bytes f l).take 256) 2 = (l.length : Int) := by rw [hs 2 (by omega), h2]
  refine ⟨?_, by rw [ht]; exact hs, ht⟩
  unfold Slot.prep
  rw [if_neg (by omega), ht, if_neg (by rw [hr]; simp), if_neg (by rw [Slot.is_same hs, hi]; simp), h2', if_neg (by omega), Int.toNat_natCast, hb, if_neg (by rw [hm]; simp), hd]
/-- A prepare that is whole: what it is. -/
theorem Slot.prep_ok (b : List UInt8) (n : Int) (h : (Slot.prep b n).1 = true) : ∃ s : Nat, 256 + s ≤ b.length ∧ (Hd.read (b.take 256)).1 = 0 ∧ Hd.read (b.take 256) = (0, Hd.parse (b.take 256)) ∧ Hd.parse (b.take 256) 2 = (s : Int) ∧ Slot.is (Hd.parse (b.take 256)) n = true ∧
    Slot.prep b n = (true, Hd.parse (b.take 256), (b.drop 256).take s) ∧ Msg.read (b.take (256 + s)) = (0, Hd.parse (b.take 256), (b.drop 256).take s) ∧ Sha.sum ((b.drop 256).take s) = (b.drop 16).take 16 := by
  unfold Slot.prep at h ⊢
  by_cases h1 : b.length < 256
  · rw [if_pos h1] at h; simp [Slot.no] at h
  rw [if_neg h1] at h ⊢
  by_cases h2 : (Hd.read (b.take 256)).1 ≠ 0
  · rw [if_pos h2] at h; simp [Slot.no] at h
  rw [if_neg h2] at h ⊢
  by_cases h3 : Slot.is (Hd.parse (b.take 256)) n = false
  · rw [if_pos h3] at h; simp [Slot.no] at h
  rw [if_neg h3] at h ⊢
  by_cases h4 : ((b.length - 256 : Nat) : Int) < Hd.parse (b.take 256) 2
  · rw [if_pos h4] at h; simp [Slot.no] at h
  rw [if_neg h4] at h ⊢
  by_cases h5 : (Msg.read (b.take (256 + (Hd.parse (b.take 256) 2).toNat))).1 ≠ 0
  · rw [if_pos h5] at h; simp [Slot.no] at h
  rw [if_neg h5]
  have h2' : (Hd.read (b.take 256)).1 = 0 := by simpa using h2
  have h5' : (Msg.read (b.take (256 + (Hd.parse (b.take 256) 2).toNat))).1 = 0 := by simpa using h5
  have hrd : Hd.read (b.take 256) = (0, Hd.parse (b.take 256)) := by
    rcases Hd.read_cases (b.take 256) with (h | h) | ⟨h, -⟩
    · rw [h] at h2'; simp at h2'
    · rw [h] at h2'; simp at h2'
    · exact h
  have hok : 0 ≤ Hd.parse (b.take 256) 2 := by unfold Hd.parse; rw [if_pos (by omega)]; omega
  obtain ⟨s, hs⟩ : ∃ s : Nat, Hd.parse (b.take 256) 2 = (s : Int) := ⟨(Hd.parse (b.take 256) 2).toNat, by omega⟩
  rw [hs] at h4 h5' ⊢
  rw [Int.toNat_natCast] at h5' ⊢
  have hle : 256 + s ≤ b.length := by omega
  obtain ⟨_, hm, _, _, _, hb, _⟩ := Msg.read_ok _ h5'
  have e1 : (b.take (256 + s)).take 256 = b.take 256 := by rw [List.take_take, Nat.min_eq_left (by omega)]
  have e2 : (b.take (256 + s)).drop 256 = (b.drop 256).take s := by rw [List.drop_take, show 256 + s - 256 = s by omega]
  have e3 : ((b.take (256 + s)).drop 16).take 16 = (b.drop 16).take 16 := by rw [List.drop_take, List.take_take, Nat.min_eq_left (by omega)]
  rw [e1, e2] at hm
  rw [e2, e3] at hb
  exact ⟨s, hle, h2', hrd, rfl, by simpa using h3, rfl, hm, hb⟩
/-- The numbers a header's bytes say: where they may not be, it is not read. -/
theorem Hd.read_no (r : List UInt8) (h : Hd.ok (Hd.parse r) = false) : (Hd.read r).1 ≠ 0 := by
  rcases Hd.read_cases r with (hx | hx) | ⟨_, _, hx, _⟩
  · rw [hx]; simp
  · rw [hx]; simp
  · rw [h] at hx; cases hx
theorem Slot.kind_broken {b : List UInt8} {n : Int} (h : (Hd.read b).1 ≠ 0) : Slot.kind b n = (0, Hd.none_) := by unfold Slot.kind; rw [if_pos h]
theorem Slot.fU_bytes (n : Int) (h : 0 ≤ n ∧ n < 16) : (Hd.bytes (Slot.fU n) []).length = 256 ∧ Hd.read (Hd.bytes (Slot.fU n) []) = (0, Hd.parse (Hd.bytes (Slot.fU n) [])) ∧ Hd.same (Hd.parse (Hd.bytes (Slot.fU n) [])) (Slot.fU n) := by
  obtain ⟨h1, h2, _⟩ := Slot.fU_ok n h
  have hl : (Hd.bytes (Slot.fU n) []).length = 256 := Hd.bytes_length _ _
  obtain ⟨h3, h4⟩ := Hd.read_bytes (Slot.fU n) [] h1 h2
  rw [List.take_of_length_le (by omega)] at h3 h4
  exact ⟨hl, h3, h4⟩
theorem Slot.kind_unw (n : Int) (h : 0 ≤ n ∧ n < 16) : Slot.kind (Hd.bytes (Slot.fU n) []) n = (1, Hd.none_) := by
  obtain ⟨_, h1, _⟩ := Slot.fU_bytes n h
  unfold Slot.kind
  rw [if_neg (by rw [h1]; simp), if_pos rfl]
theorem Slot.is_two {f : HdF} {n : Int} (h : Slot.is f n = true) : f 0 = 2 ∧ 1 ≤ f 5 ∧ Slot.of (f 5) = n ∧ 0 ≤ n ∧ n < 16 := by
  unfold Slot.is at h
  simp only [Bool.and_eq_true, beq_iff_eq, decide_eq_true_eq] at h
  have := Slot.of_bounds (f 5)
  exact ⟨h.1, h.2.1, h.2.2, by omega, by omega⟩
theorem Slot.kind_written {b : List UInt8} {n : Int} (hr : Hd.read b = (0, Hd.parse b)) (hi : Slot.is (Hd.parse b) n = true) : Slot.kind b n = (2, Hd.parse b) := by
  obtain ⟨h0, _, _, hn⟩ := Slot.is_two hi
  unfold Slot.kind
  rw [if_neg (by rw [hr]; simp), if_neg ?_, if_pos hi]
  intro e
  have := (Slot.fU_bytes n hn).2.2 0 (by omega)
  rw [← e, h0] at this
  simp [Slot.fU] at this
theorem Slot.kind_bytes (f : HdF) (l : List UInt8) (n : Int) (hok : Hd.ok f = true) (hin : Hd.in_ f) (hi : Slot.is f n = true) : Slot.kind ((Hd.bytes f l).take 256) n = (2, Hd.parse ((Hd.bytes f l).take 256)) := by
  obtain ⟨hr, hs⟩ := Hd.read_bytes f l hok hin
  exact Slot.kind_written hr (by rw [Slot.is_same hs]; exact hi)
end Go.Proofs.YtfoegmjpfkmggaaGreatDoor

/- What says that a slot is unwritten, and a slot's bytes of a prepare: the program's and the document's; bytes compared. Conditions: the bytes can be read; the numbers are what Go's types hold. -/
namespace Go.Proofs.YtfoegmjpfkmggaaGreatDoor
open Go.RowKit
theorem bytesEqual_any (A B : Option Addr) (n m c d : Nat) (l l' : List UInt8) (hn : n = l.length) (hm : m = l'.length) (w : World) (h : Bytes w A l) (h' : Bytes w B l') :
    Calls Tryz.prog 126 #[.slice A n c, .slice B m d] w fun e w' => e = .returned (.bool (decide (l = l'))) ∧ w' = w := by
  subst hn hm
  go_enter Tryz.func126, Tryz.ntmps126
  go_wp2_with (first
    | ((with_reducible show wpList _ _ _ ((⟨some 6, _, _, _, _, _⟩ : Oper) :: _) _ _); refine wpList_convert_str (o := ⟨some 6, _, _, _, _, _⟩) (by rfl) 39 9 5 _ (by rfl) Tryz.underlying39 Tryz.underlying5 Tryz.underlying9 (A) l.length c (l) (by rfl) (by first | rfl | simp) (h) ?_)
    | ((with_reducible show wpList _ _ _ ((⟨some 8, _, _, _, _, _⟩ : Oper) :: _) _ _); refine wpList_convert_str (o := ⟨some 8, _, _, _, _, _⟩) (by rfl) 39 9 5 _ (by rfl) Tryz.underlying39 Tryz.underlying5 Tryz.underlying9 (B) l'.length d (l') (by rfl) (by first | rfl | simp) (h') ?_)
    | fail)
  refine bodyPost_ret (results_tmp rfl _ _ _) rfl ⟨?_, rfl⟩
  simp [str_beq]
theorem fU_cells (n : Int) : msgc (Slot.fU n) (.slice none 0 0) = #[.int .i64 1, .int .i64 0, .int .i64 0, .int .i64 0, .int .i64 0, .int .i64 0, .int .i64 0, .int .i64 0, .int .i64 0, .int .u64 0, .int .u64 0, .int .i64 0, .int .i64 0, .int .u64 0, .int .i64 n, .int .i64 0, .slice none 0 0] := by rfl
theorem nilBytes (w : World) : Bytes w none [] := Reads.nil w none
set_option maxHeartbeats 1000000 in
theorem sunw_any (n : Int) (w : World) : Calls Tryz.prog 72 #[.int .i64 n] w fun e w' => ∃ E : Ent, e = .returned (.tuple #[E.val, .int .i64 (Slot.unw n).1]) ∧ E.Is w' ∧ (∀ g, E.blk = some g → w.heap.size ≤ g) ∧ E.n = E.l.length ∧
      E.l = (Slot.unw n).2 ∧ Below w.heap.size w w' := by
  by_cases h1 : n < 0
  · rw [show Slot.unw n = (5, []) by unfold Slot.unw; rw [if_pos (.inl h1)]]
    go_enter Tryz.func72, Tryz.ntmps72
    go_wp2
    go_ret2
    exact ⟨⟨none, 0, []⟩, rfl, ⟨Nat.le_refl _, by simp, .inl ⟨rfl, rfl⟩⟩, fun g h => (by cases h), rfl, rfl, Below.refl _ _⟩
  · by_cases h2 : 16 ≤ n
    · rw [show Slot.unw n = (5, []) by unfold Slot.unw; rw [if_pos (.inr h2)]]
      go_enter Tryz.func72, Tryz.ntmps72
      go_wp2
      go_ret2
      exact ⟨⟨none, 0, []⟩, rfl, ⟨Nat.le_refl _, by simp, .inl ⟨rfl, rfl⟩⟩, fun g h => (by cases h), rfl, rfl, Below.refl _ _⟩
    · have hU : Hid (Slot.unw n = Msg.seal_ (Slot.fU n) []) := Lib.hid (by rw [Slot.unw_seal n (by omega)]; unfold Slot.unw; rw [if_neg (by omega)])
      have hin := (Slot.fU_ok n (by omega)).2.1
      rw [hU.out]
      clear hU
      go_enter Tryz.func72, Tryz.ntmps72
      go_wp2_with fail
      rw [← fU_cells]
      refine (hseal_any (Slot.fU n) none 0 0 [] w rfl (nilBytes w) ⟨Nat.le_refl _, by omega⟩ hin).mono ?_
      rintro e w2 ⟨E, rfl, hE, hEg, hEn, hEl, hB⟩
      have H := Lib.hid (And.intro hE (And.intro hEg (And.intro hEn (And.intro hEl hB))))
      clear hE hEg hEn hEl hB hin
      go_wp2
      go_ret2
      exact ⟨E, rfl, H.out⟩
set_option maxHeartbeats 1000000 in
theorem runw_any (n : Int) (w : World) : Calls Tryz.prog 42 #[.int .i64 n] w fun e w' => ∃ v sp, e = .returned (.tuple #[v, .int .i64 (Slot.unw n).1]) ∧ OwnB 5 w' w.heap.size v (Slot.unw n).2 sp ∧ Below w.heap.size w w' := by
  by_cases h1 : n < 0
  · rw [show Slot.unw n = (5, []) by unfold Slot.unw; rw [if_pos (.inl h1)]]
    go_enter Tryz.func42, Tryz.ntmps42
    go_wp2
    go_ret2
    first | exact ⟨_, [], rfl, OwnsC.nil _ _ _ _, Below.refl _ _⟩ | exact ⟨_, rfl, ⟨[], OwnsC.nil _ _ _ _⟩, Below.refl _ _⟩
  · by_cases h2 : 16 ≤ n
    · rw [show Slot.unw n = (5, []) by unfold Slot.unw; rw [if_pos (.inr h2)]]
      go_enter Tryz.func42, Tryz.ntmps42
      go_wp2
      go_ret2
      first | exact ⟨_, [], rfl, OwnsC.nil _ _ _ _, Below.refl _ _⟩ | exact ⟨_, rfl, ⟨[], OwnsC.nil _ _ _ _⟩, Below.refl _ _⟩
    · have hU : Hid (Slot.unw n = (0, (Msg.seal_ (Slot.fU n) []).2)) := Lib.hid (by rw [Slot.unw_seal n (by omega)]; unfold Slot.unw; rw [if_neg (by omega)])
      have hin := (Slot.fU_ok n (by omega)).2.1
      rw [hU.out]
      clear hU
      go_enter Tryz.func42, Tryz.ntmps42
      go_wp2_with fail
      rw [← fU_cells]
      refine (rhseal_any (Slot.fU n) none 0 0 [] w rfl (nilBytes w) ⟨Nat.le_refl _, by omega⟩ hin).mono ?_
      rintro e w2 ⟨v, sp, rfl, ho, hB⟩
      have H := Lib.hid (And.intro ho hB)
      clear ho hB hin
      go_wp2
      go_ret2
      first | exact ⟨v, sp, rfl, H.out⟩ | exact ⟨v, rfl, ⟨sp, H.out.1⟩, H.out.2⟩
end Go.Proofs.YtfoegmjpfkmggaaGreatDoor

/- The prepare at the front of a slot's bytes: what the program tells. Condition: the bytes can be read. -/
namespace Go.Proofs.YtfoegmjpfkmggaaGreatDoor
open Go.RowKit
set_option maxRecDepth 100000 in
set_option maxHeartbeats 4000000 in
theorem sprep_any (A : Option Addr) (n c : Nat) (raw : List UInt8) (k : Int) (hn : n = raw.length) (hc : n ≤ c) (hc2 : n ≤ 140737488351232 ∧ c ≤ 9223372036854775807) (w : World) (hby : Bytes w A raw) :
    Calls Tryz.prog 49 #[.slice A n c, .int .i64 k] w fun e w' => ∃ v, e = .returned (.tuple #[.agg (msgc (Slot.prep raw k).2.1 v), .bool (Slot.prep raw k).1]) ∧ (∃ sp, OwnB 5 w' w.heap.size v (Slot.prep raw k).2.2 sp) ∧ Below w.heap.size w w' := by
  have hg0 := (Blk.new w 41 #[.int .i64 0, .int .i64 0, .int .i64 0, .int .i64 0, .int .i64 0, .int .i64 0, .int .i64 0, .int .i64 0, .int .i64 0, .int .u64 0, .int .u64 0, .int .i64 0, .int .i64 0, .int .u64 0, .int .i64 0, .int .i64 0, .slice none 0 0]).sub zeroMsg_cells.symm
  have hB0 := Lib.hid ((Below.refl w.heap.size w).alloc (Nat.le_refl _) (.cells #[.int .i64 0, .int .i64 0, .int .i64 0, .int .i64 0, .int .i64 0, .int .i64 0, .int .i64 0, .int .i64 0, .int .i64 0, .int .u64 0, .int .u64 0, .int .i64 0, .int .i64 0, .int .u64 0, .int .i64 0, .int .i64 0, .slice none 0 0] 41))
  by_cases h1 : n < 256
  · have hrd : Hid (Slot.prep raw k = Slot.no) := Lib.hid (by unfold Slot.prep; rw [if_pos (by omega)])
    rw [hrd.out]
    clear hn hby hc2
    have H1 : decide ((n : Int) < 256) = true := by rw [decide_eq_true_eq]; omega
    go_enter Tryz.func49, Tryz.ntmps49
    go_wp2_with (first
      | ((with_reducible show wpList _ _ _ ((⟨none, _, _, _, _, _⟩ : Oper) :: _) _ _); refine wpList_store_blk (o := ⟨none, _, _, _, _, _⟩) (hg0) (by rfl) _ _ _ (by rfl) (by rfl) (msgc zeroHd (.slice none 0 0)) (by rfl) (sizeMsg) (msgc_size _ _) (msgc_size _ _) (msgc_one _ _ rfl) ?_; intro w2 h2 hu2)
      | fail)
    refine bodyPost_ret (results_row_tmp (by rfl) _ _ w.heap.size _ _ _ (by rfl) h2 Tryz.underlying41 (by rfl) (by rw [msgc_size]; exact sizeMsg)) rfl ⟨_, rfl, ⟨[], OwnsC.nil _ _ _ _⟩, hB0.out.upd hu2 (Nat.le_refl _)⟩
  have H1 : decide ((n : Int) < 256) = false := by rw [decide_eq_false_iff_not]; omega
  have hT := hby.take 256
  have hTl : (raw.take 256).length = 256 := by rw [List.length_take]; omega
  have hge256 : 256 ≤ n := by omega
  have HNN := Lib.hid (And.intro hn (And.intro hc hc2))
  obtain ⟨T, hTT⟩ : ∃ T, T = raw.take 256 := ⟨_, rfl⟩
  rw [← hTT] at hT hTl
  have HT := Lib.hid hTT
  have hcc : 256 ≤ c := by omega
  clear hTT hn hc hc2 h1
  go_enter Tryz.func49, Tryz.ntmps49
  go_wp2_with fail
  generalize hw1 : w.alloc (.cells #[.int .i64 0, .int .i64 0, .int .i64 0, .int .i64 0, .int .i64 0, .int .i64 0, .int .i64 0, .int .i64 0, .int .i64 0, .int .u64 0, .int .u64 0, .int .i64 0, .int .i64 0, .int .u64 0, .int .i64 0, .int .i64 0, .slice none 0 0] 41) = w1 at hg0 hB0 ⊢
  clear hw1
  obtain ⟨g0, hgn⟩ : ∃ g0, g0 = w.heap.size := ⟨_, rfl⟩
  have HGE : Hid (w.heap.size ≤ g0) := Lib.hid (by omega)
  rw [← hgn] at hg0 ⊢
  have HGN := Lib.hid hgn
  clear hgn
  have hTb := Bytes.below hT hB0.out
  refine (hhead_any A 256 c T hTl.symm (by omega) (by have := HNN.out; omega) w1 hTb).mono ?_
  rintro e w2 ⟨rfl, hbx⟩
  (replace hg0 := keep hbx hg0)
  have hB2 := Lib.hid (hB0.out.trans (hbx.mono hB0.out.size))
  clear hB0 hbx hTb H1
  have h2 := (Blk.new w2 38 #[.int .i64 0, .int .i64 0, .int .i64 0, .int .i64 0, .int .i64 0, .int .i64 0, .int .i64 0, .int .i64 0, .int .i64 0, .int .u64 0, .int .u64 0, .int .i64 0, .int .i64 0, .int .u64 0, .int .i64 0, .int .i64 0]).sub zeroHd_cells.symm
  have hbx := Lib.hid ((Below.refl w2.heap.size w2).alloc (Nat.le_refl _) (.cells #[.int .i64 0, .int .i64 0, .int .i64 0, .int .i64 0, .int .i64 0, .int .i64 0, .int .i64 0, .int .i64 0, .int .i64 0, .int .u64 0, .int .u64 0, .int .i64 0, .int .i64 0, .int .u64 0, .int .i64 0, .int .i64 0] 38))
  obtain ⟨hcells, hH⟩ : ∃ f, f = (Hd.read T).2 := ⟨_, rfl⟩
  obtain ⟨er, hE⟩ : ∃ f, f = (Hd.read T).1 := ⟨_, rfl⟩
  rw [← hH, ← hE]
  have HH := Lib.hid hH
  have HE := Lib.hid hE
  clear hH hE
  have hb2 := hB2.out.size
  have hgl := hg0.lt
  have hng := HNN.out.1
  rcases Hd.read_cases T with hx | ⟨hx, -, hok, hhead⟩
  · have her : er = 4 ∨ er = 12 := by rw [HE.out]; rcases hx with e | e <;> rw [e] <;> simp
    have hrd : Hid (Slot.prep raw k = Slot.no) := Lib.hid (by
      unfold Slot.prep
      rw [if_neg (by omega), ← HT.out, if_pos (by rw [← HE.out]; omega)])
    clear hx HH HE hng
    rcases her with rfl | rfl
    all_goals
      go_wp2_with (first
        | ((with_reducible show wpList _ _ _ ((⟨none, _, _, _, _, _⟩ : Oper) :: _) _ _); refine wpList_store_blk (o := ⟨none, _, _, _, _, _⟩) (h2) (by rfl) _ _ _ (by rfl) (by rfl) (hdc hcells) (by rfl) (sizeHd) (hdc_size _) (hdc_size _) (hdc_one _) ?_; intro w3 h3 hu3; have hx3 := hbx.out.upd hu3 (Nat.le_refl _); (replace hg0 := keep hx3 hg0); clear h2 hu3; have hB3 := Lib.hid (hB2.out.trans (hx3.mono hB2.out.size)); clear hx3 hbx hB2)
        | ((with_reducible show wpList _ _ _ ((⟨none, _, _, _, _, _⟩ : Oper) :: _) _ _); refine wpList_store_blk (o := ⟨none, _, _, _, _, _⟩) (hg0) (by rfl) _ _ _ (by rfl) (by rfl) (msgc zeroHd (.slice none 0 0)) (by rfl) (sizeMsg) (msgc_size _ _) (msgc_size _ _) (msgc_one _ _ rfl) ?_; intro w9 h9 hu9)
        | fail)
      refine bodyPost_ret (results_row_tmp (by rfl) _ _ g0 _ _ _ (by rfl) h9 Tryz.underlying41 (by rfl) (by rw [msgc_size]; exact sizeMsg)) rfl ⟨_, by rw [hrd.out]; rfl, ⟨[], by rw [hrd.out]; exact OwnsC.nil _ _ _ _⟩, hB3.out.upd hu9 HGE.out⟩
  · have hE0 : er = 0 := by rw [HE.out, hx]
    have hHp : Hid (hcells = Hd.parse T) := Lib.hid (by rw [HH.out, hx])
    have hr0 : Hid ((Hd.read T).1 = 0) := Lib.hid (by rw [hx])
    have HF2 : Hid (0 ≤ hcells 2 ∧ hcells 2 ≤ 1024) := Lib.hid (by have := (Hd.ok_spec hok).1; rw [hHp.out]; omega)
    subst hE0
    clear hx HH HE hok hhead hng
    go_wp2_with (first
      | ((with_reducible show wpList _ _ _ ((⟨none, _, _, _, _, _⟩ : Oper) :: _) _ _); refine wpList_store_blk (o := ⟨none, _, _, _, _, _⟩) (h2) (by rfl) _ _ _ (by rfl) (by rfl) (hdc hcells) (by rfl) (sizeHd) (hdc_size _) (hdc_size _) (hdc_one _) ?_; intro w3 h3 hu3; have hx3 := hbx.out.upd hu3 (Nat.le_refl _); (replace hg0 := keep hx3 hg0); clear h2 hu3; have hB3 := Lib.hid (hB2.out.trans (hx3.mono hB2.out.size)); clear hx3 hbx hB2)
      | ((with_reducible show wpList _ _ _ ((⟨some 22, _, _, _, _, _⟩ : Oper) :: _) _ _); refine wpList_want (by rfl) ?_; refine wpList_load_blk (o := ⟨some 22, _, _, _, _, _⟩) (h3) (by rfl) _ _ (by rfl) (by rfl) _ Tryz.underlying38 (by rfl) (sizeHd) (hdc_size _) ?_)
      | fail)
    refine (sis_any hcells k w3).mono ?_
    rintro e w4 ⟨rfl, hbx⟩
    (replace hg0 := keep hbx hg0; replace h3 := keep hbx h3)
    have hB4 := Lib.hid (hB3.out.trans (hbx.mono hB3.out.size))
    have hgl := hg0.lt
    clear hbx hB3 hb2
    obtain ⟨q, hq⟩ : ∃ q, q = Slot.is hcells k := ⟨_, rfl⟩
    rw [← hq]
    have HQ := Lib.hid hq
    clear hq
    have d2 := h3.at_ 2 (hdc_at _ 2 (by omega) (by omega) (by omega) (by omega))
    cases q
    · have hrd : Hid (Slot.prep raw k = Slot.no) := Lib.hid (by
        unfold Slot.prep
        have := HNN.out.1
        rw [if_neg (by omega), ← HT.out, if_neg (by rw [hr0.out]; simp), if_pos (by rw [← hHp.out, HQ.out])])
      clear h3 d2
      go_wp2_with (first
        | ((with_reducible show wpList _ _ _ ((⟨none, _, _, _, _, _⟩ : Oper) :: _) _ _); refine wpList_store_blk (o := ⟨none, _, _, _, _, _⟩) (hg0) (by rfl) _ _ _ (by rfl) (by rfl) (msgc zeroHd (.slice none 0 0)) (by rfl) (sizeMsg) (msgc_size _ _) (msgc_size _ _) (msgc_one _ _ rfl) ?_; intro w9 h9 hu9)
        | fail)
      refine bodyPost_ret (results_row_tmp (by rfl) _ _ g0 _ _ _ (by rfl) h9 Tryz.underlying41 (by rfl) (by rw [msgc_size]; exact sizeMsg)) rfl ⟨_, by rw [hrd.out]; rfl, ⟨[], by rw [hrd.out]; exact OwnsC.nil _ _ _ _⟩, hB4.out.upd hu9 HGE.out⟩
    · obtain ⟨s, hs⟩ : ∃ s : Nat, hcells 2 = (s : Int) := ⟨(hcells 2).toNat, by have := HF2.out; omega⟩
      have HSS := Lib.hid hs
      rw [hs] at d2
      have hs1024 : s ≤ 1024 := by have := HF2.out; omega
      have hnI : (n : Int) ≤ 140737488351232 := by have := HNN.out.2.2.1; omega
      clear hs
      by_cases hsz : n < 256 + s
      · have hrd : Hid (Slot.prep raw k = Slot.no) := Lib.hid (by
          unfold Slot.prep
          have := HNN.out.1
          rw [if_neg (by omega), ← HT.out, if_neg (by rw [hr0.out]; simp), if_neg (by rw [← hHp.out, ← HQ.out]; simp), if_pos (by rw [← hHp.out, HSS.out]; omega)])
        have hcm : decide ((n : Int) - 256 < (s : Int)) = true := by rw [decide_eq_true_eq]; omega
        clear h3 hsz
        go_wp2_with (first
          | ((with_reducible show wpList _ _ _ ((⟨none, _, _, _, _, _⟩ : Oper) :: _) _ _); refine wpList_store_blk (o := ⟨none, _, _, _, _, _⟩) (hg0) (by rfl) _ _ _ (by rfl) (by rfl) (msgc zeroHd (.slice none 0 0)) (by rfl) (sizeMsg) (msgc_size _ _) (msgc_size _ _) (msgc_one _ _ rfl) ?_; intro w9 h9 hu9)
          | fail)
        refine bodyPost_ret (results_row_tmp (by rfl) _ _ g0 _ _ _ (by rfl) h9 Tryz.underlying41 (by rfl) (by rw [msgc_size]; exact sizeMsg)) rfl ⟨_, by rw [hrd.out]; rfl, ⟨[], by rw [hrd.out]; exact OwnsC.nil _ _ _ _⟩, hB4.out.upd hu9 HGE.out⟩
      · have hcm : decide ((n : Int) - 256 < (s : Int)) = false := by rw [decide_eq_false_iff_not]; omega
        have hle : 256 + s ≤ n := by omega
        have hlec : 256 + s ≤ c := by have := HNN.out.2.1; omega
        clear hsz h3
        have hUb := (Bytes.below hby hB4.out).take (256 + s)
        have hUl : (raw.take (256 + s)).length = 256 + s := by have := HNN.out.1; rw [List.length_take]; omega
        obtain ⟨U, hU⟩ : ∃ U, U = raw.take (256 + s) := ⟨_, rfl⟩
        rw [← hU] at hUb hUl
        have HU := Lib.hid hU
        have hpre := Lib.hid (show Slot.prep raw k = if (Msg.read U).1 ≠ 0 then Slot.no else (true, hcells, (raw.drop 256).take s) by
          unfold Slot.prep
          have := HNN.out.1
          rw [if_neg (by omega), ← HT.out, if_neg (by rw [hr0.out]; simp), if_neg (by rw [← hHp.out, ← HQ.out]; simp), ← hHp.out, HSS.out, if_neg (by omega), Int.toNat_natCast, ← hU])
        clear hU
        go_wp2_with fail
        refine (hopen_any A (256 + s) c U hUl.symm hlec ⟨by omega, by have := HNN.out.2.2.2; omega⟩ w4 hUb).mono ?_
        rintro e w5 ⟨v5, rfl, ⟨sp5, ho5⟩, hbx⟩
        (replace hg0 := keep hbx hg0)
        have hB5 := Lib.hid (hB4.out.trans (hbx.mono hB4.out.size))
        have hsz5 := hbx.size
        have hgl := hg0.lt
        clear hbx hB4 hUb hcm d2
        obtain ⟨co, hco⟩ : ∃ x, x = (Msg.read U).1 := ⟨_, rfl⟩
        obtain ⟨G, hG⟩ : ∃ x, x = (Msg.read U).2.1 := ⟨_, rfl⟩
        obtain ⟨D, hD⟩ : ∃ x, x = (Msg.read U).2.2 := ⟨_, rfl⟩
        rw [← hD] at ho5
        rw [← hco, ← hG]
        have hW4 : w.heap.size ≤ w4.heap.size := by have := HGN.out; omega
        have HRC := Lib.hid (And.intro hco (And.intro hG (And.intro hD hW4)))
        have HO5 := Lib.hid ho5
        obtain ⟨A5, c5, rfl, -⟩ := OwnB.open_ ho5
        clear hco hG hD hW4
        by_cases h0 : co = 0
        · subst h0
          have hrd : Hid (Slot.prep raw k = (true, G, D)) := Lib.hid (by
            have h := HRC.out.1
            obtain ⟨_, hm, _⟩ := Msg.read_ok U h.symm
            have e1 : U.take 256 = T := by rw [HU.out, List.take_take, Nat.min_eq_left (by omega), HT.out]
            have e2 : U.drop 256 = (raw.drop 256).take s := by rw [HU.out, List.drop_take, show 256 + s - 256 = s by omega]
            rw [hpre.out, if_neg (by rw [← h]; simp), HRC.out.2.1, HRC.out.2.2.1, hm, e1, e2, hHp.out])
          go_wp2_with (first
            | ((with_reducible show wpList _ _ _ ((⟨none, _, _, _, _, _⟩ : Oper) :: _) _ _); refine wpList_store_blk (o := ⟨none, _, _, _, _, _⟩) ((Blk.new w5 41 #[.int .i64 0, .int .i64 0, .int .i64 0, .int .i64 0, .int .i64 0, .int .i64 0, .int .i64 0, .int .i64 0, .int .i64 0, .int .u64 0, .int .u64 0, .int .i64 0, .int .i64 0, .int .u64 0, .int .i64 0, .int .i64 0, .slice none 0 0])) (by rfl) _ _ _ (by rfl) (by rfl) (msgc G (.slice A5 D.length c5)) (by rfl) (sizeMsg) (by rfl) (msgc_size _ _) (msgc_one _ _ rfl) ?_; intro w6 h6 hu6; have hx6 := ((Below.refl w5.heap.size w5).alloc (Nat.le_refl _) (.cells #[.int .i64 0, .int .i64 0, .int .i64 0, .int .i64 0, .int .i64 0, .int .i64 0, .int .i64 0, .int .i64 0, .int .i64 0, .int .u64 0, .int .u64 0, .int .i64 0, .int .i64 0, .int .u64 0, .int .i64 0, .int .i64 0, .slice none 0 0] 41)).upd hu6 (Nat.le_refl _); (replace hg0 := keep hx6 hg0; replace ho5 := keep hx6 ho5); have hB6 := Lib.hid (hB5.out.trans (hx6.mono hB5.out.size)); clear hx6 hu6 hB5; have hgl6 := h6.lt)
            | ((with_reducible show wpList _ _ _ ((⟨some 48, _, _, _, _, _⟩ : Oper) :: _) _ _); refine wpList_load_blk (o := ⟨some 48, _, _, _, _, _⟩) (h6) (by rfl) _ _ (by rfl) (by rfl) _ Tryz.underlying41 (by rfl) (sizeMsg) (msgc_size _ _) ?_)
            | ((with_reducible show wpList _ _ _ ((⟨none, _, _, _, _, _⟩ : Oper) :: _) _ _); refine wpList_store_blk (o := ⟨none, _, _, _, _, _⟩) (hg0) (by rfl) _ _ _ (by rfl) (by rfl) (msgc G (.slice A5 D.length c5)) (by rfl) (sizeMsg) (msgc_size _ _) (msgc_size _ _) (msgc_one _ _ rfl) ?_; intro w9 h9 hu9)
            | fail)
          refine bodyPost_ret (results_row_tmp (by rfl) _ _ g0 _ _ _ (by rfl) h9 Tryz.underlying41 (by rfl) (by rw [msgc_size]; exact sizeMsg)) rfl ⟨_, by rw [hrd.out]; rfl, ⟨sp5, ?_⟩, hB6.out.upd hu9 HGE.out⟩
          rw [hrd.out]
          refine OwnsC.base_ (OwnB.upd ho5 hu9 ?_) HRC.out.2.2.2
          intro e
          have h : w4.heap.size ≤ g0 := (OwnsC.lt HO5.out g0 e).1
          have h2 := HGN.out
          omega
        · have hrd : Hid (Slot.prep raw k = Slot.no) := Lib.hid (by rw [hpre.out, if_pos (by rw [← HRC.out.1]; exact h0)])
          have hc0 : (co != 0) = true := by rw [bne_iff_ne]; exact h0
          clear h0 ho5
          go_wp2_with (first
            | ((with_reducible show wpList _ _ _ ((⟨none, _, _, _, _, _⟩ : Oper) :: _) _ _); refine wpList_store_blk (o := ⟨none, _, _, _, _, _⟩) ((Blk.new w5 41 #[.int .i64 0, .int .i64 0, .int .i64 0, .int .i64 0, .int .i64 0, .int .i64 0, .int .i64 0, .int .i64 0, .int .i64 0, .int .u64 0, .int .u64 0, .int .i64 0, .int .i64 0, .int .u64 0, .int .i64 0, .int .i64 0, .slice none 0 0])) (by rfl) _ _ _ (by rfl) (by rfl) (msgc G (.slice A5 D.length c5)) (by rfl) (sizeMsg) (by rfl) (msgc_size _ _) (msgc_one _ _ rfl) ?_; intro w6 h6 hu6; have hx6 := ((Below.refl w5.heap.size w5).alloc (Nat.le_refl _) (.cells #[.int .i64 0, .int .i64 0, .int .i64 0, .int .i64 0, .int .i64 0, .int .i64 0, .int .i64 0, .int .i64 0, .int .i64 0, .int .u64 0, .int .u64 0, .int .i64 0, .int .i64 0, .int .u64 0, .int .i64 0, .int .i64 0, .slice none 0 0] 41)).upd hu6 (Nat.le_refl _); (replace hg0 := keep hx6 hg0); have hB6 := Lib.hid (hB5.out.trans (hx6.mono hB5.out.size)); clear hx6 hu6 hB5 h6)
            | ((with_reducible show wpList _ _ _ ((⟨none, _, _, _, _, _⟩ : Oper) :: _) _ _); refine wpList_store_blk (o := ⟨none, _, _, _, _, _⟩) (hg0) (by rfl) _ _ _ (by rfl) (by rfl) (msgc zeroHd (.slice none 0 0)) (by rfl) (sizeMsg) (msgc_size _ _) (msgc_size _ _) (msgc_one _ _ rfl) ?_; intro w9 h9 hu9)
            | fail)
          refine bodyPost_ret (results_row_tmp (by rfl) _ _ g0 _ _ _ (by rfl) h9 Tryz.underlying41 (by rfl) (by rw [msgc_size]; exact sizeMsg)) rfl ⟨_, by rw [hrd.out]; rfl, ⟨[], by rw [hrd.out]; exact OwnsC.nil _ _ _ _⟩, hB6.out.upd hu9 HGE.out⟩
end Go.Proofs.YtfoegmjpfkmggaaGreatDoor

/- What a slot's header is: what the program tells. Conditions: the bytes can be read; the slot is one. -/
namespace Go.Proofs.YtfoegmjpfkmggaaGreatDoor
open Go.RowKit
set_option maxRecDepth 100000 in
set_option maxHeartbeats 4000000 in
theorem shead_any (A : Option Addr) (n c : Nat) (raw : List UInt8) (k : Int) (hk : 0 ≤ k ∧ k < 16) (hn : n = raw.length) (hc : n ≤ c) (hc2 : c ≤ 9223372036854775807) (w : World) (hby : Bytes w A raw) :
    Calls Tryz.prog 94 #[.slice A n c, .int .i64 k] w fun e w' => e = .returned (.tuple #[.agg (hdc (Slot.kind raw k).2), .int .i64 (Slot.kind raw k).1]) ∧ Below w.heap.size w w' := by
  have hg0 := (Blk.new w 38 #[.int .i64 0, .int .i64 0, .int .i64 0, .int .i64 0, .int .i64 0, .int .i64 0, .int .i64 0, .int .i64 0, .int .i64 0, .int .u64 0, .int .u64 0, .int .i64 0, .int .i64 0, .int .u64 0, .int .i64 0, .int .i64 0]).sub zeroHd_cells.symm
  have hB0 := Lib.hid ((Below.refl w.heap.size w).alloc (Nat.le_refl _) (.cells #[.int .i64 0, .int .i64 0, .int .i64 0, .int .i64 0, .int .i64 0, .int .i64 0, .int .i64 0, .int .i64 0, .int .i64 0, .int .u64 0, .int .u64 0, .int .i64 0, .int .i64 0, .int .u64 0, .int .i64 0, .int .i64 0] 38))
  have HNN := Lib.hid (And.intro hn (And.intro hc (And.intro hc2 hk)))
  clear hn hc hc2 hk
  go_enter Tryz.func94, Tryz.ntmps94
  go_wp2_with fail
  generalize hw1 : w.alloc (.cells #[.int .i64 0, .int .i64 0, .int .i64 0, .int .i64 0, .int .i64 0, .int .i64 0, .int .i64 0, .int .i64 0, .int .i64 0, .int .u64 0, .int .u64 0, .int .i64 0, .int .i64 0, .int .u64 0, .int .i64 0, .int .i64 0] 38) = w1 at hg0 hB0 ⊢
  clear hw1
  obtain ⟨g0, hgn⟩ : ∃ g0, g0 = w.heap.size := ⟨_, rfl⟩
  have HGE : Hid (w.heap.size ≤ g0) := Lib.hid (by omega)
  rw [← hgn] at hg0 ⊢
  clear hgn
  have hT := Bytes.below hby hB0.out
  refine (hhead_any A n c raw HNN.out.1 HNN.out.2.1 HNN.out.2.2.1 w1 hT).mono ?_
  rintro e w2 ⟨rfl, hbx⟩
  (replace hg0 := keep hbx hg0)
  have hB2 := Lib.hid (hB0.out.trans (hbx.mono hB0.out.size))
  clear hB0 hbx hT
  have h2 := (Blk.new w2 38 #[.int .i64 0, .int .i64 0, .int .i64 0, .int .i64 0, .int .i64 0, .int .i64 0, .int .i64 0, .int .i64 0, .int .i64 0, .int .u64 0, .int .u64 0, .int .i64 0, .int .i64 0, .int .u64 0, .int .i64 0, .int .i64 0]).sub zeroHd_cells.symm
  have hbx := Lib.hid ((Below.refl w2.heap.size w2).alloc (Nat.le_refl _) (.cells #[.int .i64 0, .int .i64 0, .int .i64 0, .int .i64 0, .int .i64 0, .int .i64 0, .int .i64 0, .int .i64 0, .int .i64 0, .int .u64 0, .int .u64 0, .int .i64 0, .int .i64 0, .int .u64 0, .int .i64 0, .int .i64 0] 38))
  obtain ⟨F, hH⟩ : ∃ f, f = (Hd.read raw).2 := ⟨_, rfl⟩
  obtain ⟨er, hE⟩ : ∃ f, f = (Hd.read raw).1 := ⟨_, rfl⟩
  rw [← hH, ← hE]
  have HHE := Lib.hid (And.intro hH hE)
  clear hH hE
  have hb2 := hB2.out.size
  have hgl := hg0.lt
  go_wp2_with (first
    | ((with_reducible show wpList _ _ _ ((⟨none, _, _, _, _, _⟩ : Oper) :: _) _ _); refine wpList_store_blk (o := ⟨none, _, _, _, _, _⟩) (h2) (by rfl) _ _ _ (by rfl) (by rfl) (hdc F) (by rfl) (sizeHd) (hdc_size _) (hdc_size _) (hdc_one _) ?_; intro w3 h3 hu3; have hx3 := hbx.out.upd hu3 (Nat.le_refl _); (replace hg0 := keep hx3 hg0); clear h2 hu3; have hB3 := Lib.hid (hB2.out.trans (hx3.mono hB2.out.size)); clear hx3 hbx hB2)
    | fail)
  refine (sunw_any k w3).mono ?_
  rintro e w4 ⟨E, rfl, hE, hEg, hEn, hEl, hbx⟩
  (replace hg0 := keep hbx hg0; replace h3 := keep hbx h3)
  have hB4 := Lib.hid (hB3.out.trans (hbx.mono hB3.out.size))
  have hT := Bytes.below hby hB4.out
  clear hbx hB3 hEg hgl hb2
  have hgl := hg0.lt
  obtain ⟨A4, n4, l4⟩ := E
  dsimp only at hEn hEl
  subst hEn
  have hun : Slot.unw k = (0, Hd.bytes (Slot.fU k) []) := by unfold Slot.unw; rw [if_neg (by have := HNN.out.2.2.2; omega)]
  rw [hun] at hEl ⊢
  dsimp only at hEl
  clear hun
  have hEb : Bytes w4 A4 l4 := Ent.Is.bytes hE
  have HEL := Lib.hid hEl
  clear hE hEl
  dsimp only [Ent.val]
  by_cases h0 : er = 0
  case neg =>
    have hrd : Hid (Slot.kind raw k = (0, Hd.none_)) := Lib.hid (Slot.kind_broken (by rw [← HHE.out.2]; exact h0))
    have hc0 : (er != 0) = true := by rw [bne_iff_ne]; exact h0
    clear h0 h3 hEb hT
    go_wp2_with (first
      | ((with_reducible show wpList _ _ _ ((⟨none, _, _, _, _, _⟩ : Oper) :: _) _ _); refine wpList_store_blk (o := ⟨none, _, _, _, _, _⟩) (hg0) (by rfl) _ _ _ (by rfl) (by rfl) (hdc zeroHd) (by rfl) (sizeHd) (hdc_size _) (hdc_size _) (hdc_one _) ?_; intro w9 h9 hu9)
      | fail)
    refine bodyPost_ret (results_row_tmp (by rfl) _ _ g0 _ _ _ (by rfl) h9 Tryz.underlying38 (by rfl) (by rw [hdc_size]; exact sizeHd)) rfl ⟨by rw [hrd.out]; rfl, hB4.out.upd hu9 HGE.out⟩
  subst h0
  have hread : Hid (Hd.read raw = (0, Hd.parse raw) ∧ F = Hd.parse raw) := Lib.hid (by
    rcases Hd.read_cases raw with (hx | hx) | ⟨hx, -⟩
    · have h := HHE.out.2; rw [hx] at h; simp at h
    · have h := HHE.out.2; rw [hx] at h; simp at h
    · exact ⟨hx, by rw [HHE.out.1, hx]⟩)
  go_wp2_with fail
  refine (bytesEqual_any A A4 n l4.length c l4.length raw l4 HNN.out.1 rfl w4 hT hEb).mono ?_
  rintro e w5 ⟨rfl, hw5⟩
  rw [← hw5] at hg0 h3 hB4
  clear hw5 hT hEb hgl
  have hgl := hg0.lt
  have hB5 := hB4
  clear hB4
  by_cases heq : raw = l4
  · have hrd : Hid (Slot.kind raw k = (1, Hd.none_)) := Lib.hid (by unfold Slot.kind; rw [if_neg (by rw [hread.out.1]; simp), if_pos (by rw [heq, HEL.out])])
    rw [decide_eq_true heq]
    clear heq h3
    go_wp2_with (first
      | ((with_reducible show wpList _ _ _ ((⟨none, _, _, _, _, _⟩ : Oper) :: _) _ _); refine wpList_store_blk (o := ⟨none, _, _, _, _, _⟩) (hg0) (by rfl) _ _ _ (by rfl) (by rfl) (hdc zeroHd) (by rfl) (sizeHd) (hdc_size _) (hdc_size _) (hdc_one _) ?_; intro w9 h9 hu9)
      | fail)
    refine bodyPost_ret (results_row_tmp (by rfl) _ _ g0 _ _ _ (by rfl) h9 Tryz.underlying38 (by rfl) (by rw [hdc_size]; exact sizeHd)) rfl ⟨by rw [hrd.out]; rfl, hB5.out.upd hu9 HGE.out⟩
  have hne : Hid (raw ≠ l4) := Lib.hid heq
  rw [decide_eq_false heq]
  clear heq
  go_wp2_with (first
    | ((with_reducible show wpList _ _ _ ((⟨some 30, _, _, _, _, _⟩ : Oper) :: _) _ _); refine wpList_load_blk (o := ⟨some 30, _, _, _, _, _⟩) (h3) (by rfl) _ _ (by rfl) (by rfl) _ Tryz.underlying38 (by rfl) (sizeHd) (hdc_size _) ?_)
    | fail)
  refine (sis_any F k w5).mono ?_
  rintro e w6 ⟨rfl, hbx⟩
  (replace hg0 := keep hbx hg0; replace h3 := keep hbx h3)
  have hB6 := Lib.hid (hB5.out.trans (hbx.mono hB5.out.size))
  have hgl := hg0.lt
  clear hbx hB5
  have hB5 := hB6
  clear hB6
  have hgl := hg0.lt
  have hkd : Hid (Slot.kind raw k = if Slot.is F k = true then (2, F) else (0, Hd.none_)) := Lib.hid (by
    unfold Slot.kind
    rw [if_neg (by rw [hread.out.1]; simp), if_neg (by rw [← HEL.out]; exact hne.out), ← hread.out.2])
  obtain ⟨q, hq⟩ : ∃ q, q = Slot.is F k := ⟨_, rfl⟩
  rw [← hq]
  have HQ := Lib.hid hq
  clear hq
  cases q
  · have hrd : Hid (Slot.kind raw k = (0, Hd.none_)) := Lib.hid (by rw [hkd.out, ← HQ.out]; rfl)
    clear h3
    go_wp2_with (first
      | ((with_reducible show wpList _ _ _ ((⟨none, _, _, _, _, _⟩ : Oper) :: _) _ _); refine wpList_store_blk (o := ⟨none, _, _, _, _, _⟩) (hg0) (by rfl) _ _ _ (by rfl) (by rfl) (hdc zeroHd) (by rfl) (sizeHd) (hdc_size _) (hdc_size _) (hdc_one _) ?_; intro w9 h9 hu9)
      | fail)
    refine bodyPost_ret (results_row_tmp (by rfl) _ _ g0 _ _ _ (by rfl) h9 Tryz.underlying38 (by rfl) (by rw [hdc_size]; exact sizeHd)) rfl ⟨by rw [hrd.out]; rfl, hB5.out.upd hu9 HGE.out⟩
  · have hrd : Hid (Slot.kind raw k = (2, F)) := Lib.hid (by rw [hkd.out, ← HQ.out]; rfl)
    go_wp2_with (first
      | ((with_reducible show wpList _ _ _ ((⟨some 33, _, _, _, _, _⟩ : Oper) :: _) _ _); refine wpList_load_blk (o := ⟨some 33, _, _, _, _, _⟩) (h3) (by rfl) _ _ (by rfl) (by rfl) _ Tryz.underlying38 (by rfl) (sizeHd) (hdc_size _) ?_)
      | ((with_reducible show wpList _ _ _ ((⟨none, _, _, _, _, _⟩ : Oper) :: _) _ _); refine wpList_store_blk (o := ⟨none, _, _, _, _, _⟩) (hg0) (by rfl) _ _ _ (by rfl) (by rfl) (hdc F) (by rfl) (sizeHd) (hdc_size _) (hdc_size _) (hdc_one _) ?_; intro w9 h9 hu9)
      | fail)
    refine bodyPost_ret (results_row_tmp (by rfl) _ _ g0 _ _ _ (by rfl) h9 Tryz.underlying38 (by rfl) (by rw [hdc_size]; exact sizeHd)) rfl ⟨by rw [hrd.out]; rfl, hB5.out.upd hu9 HGE.out⟩
end Go.Proofs.YtfoegmjpfkmggaaGreatDoor

/- bytes.Trim of noughts: nothing is left just where all bytes are noughts. Condition: the bytes can be read. -/
namespace Go.Proofs.YtfoegmjpfkmggaaGreatDoor
open Go.RowKit
def LenOf (v : Value) : Nat := match v with | .slice _ m _ => m | _ => 0
def TrimR (w : World) (A : Option Addr) (c : Nat) (l : List UInt8) (v : Value) (wr : World) : Prop :=
  ∃ m : Nat, v = .slice A m c ∧ m ≤ l.length ∧ (∀ i, m ≤ i → i < l.length → l.getD i 0 = 0) ∧ wr = w
set_option maxHeartbeats 1000000 in
theorem trimRight_any (A : Option Addr) (n c : Nat) (l : List UInt8) (hn : n = l.length) (hc : l.length ≤ c ∧ l.length ≤ 140737488351232) (w : World) (hb : Bytes w A l) :
    Calls Tryz.prog 128 #[.slice A n c, .int .u8 0] w fun e w' => ∃ m : Nat, e = .returned (.slice A m c) ∧ m ≤ l.length ∧ (∀ i, m ≤ i → i < l.length → l.getD i 0 = 0) ∧ (0 < m → l.getD (m - 1) 0 ≠ 0) ∧ w' = w := by
  subst hn
  have HC := Lib.hid hc
  clear hc
  go_enter Tryz.func128, Tryz.ntmps128
  go_wp2
  go_loopw [0] (fun v wr => TrimR w A c l v wr) (fun v _ => LenOf v)
  case atStart => exact ⟨l.length, rfl, Nat.le_refl _, fun i h1 h2 => by omega, rfl⟩
  case round =>
    obtain ⟨m, rfl, hm, hz, hwr⟩ := hrel
    subst hwr
    have HZ := Lib.hid hz
    clear hz
    by_cases h0 : m = 0
    · subst h0
      go_wp2
      go_ret
      exact ⟨0, rfl, by omega, HZ.out, fun h => by omega, rfl⟩
    · obtain ⟨p, rfl⟩ : ∃ p, m = p + 1 := ⟨m - 1, by omega⟩
      obtain ⟨b, off, rfl, hlt, hcell⟩ := hb.at_ (by omega)
      have d0 := hcell p (by omega)
      clear hcell hb
      have hpc : p + 1 ≤ c := by have := HC.out; omega
      have hpb : p + 1 ≤ 140737488351232 := by have := HC.out; omega
      have hgt : decide (((p + 1 : Nat) : Int) > 0) = true := by rw [decide_eq_true_eq]; omega
      obtain ⟨x, hx⟩ : ∃ x, x = l.getD p 0 := ⟨_, rfl⟩
      rw [← hx] at d0
      have HX := Lib.hid hx
      clear hx
      by_cases hx0 : x = 0
      · have e0 : iu8 x = 0 := by rw [hx0]; rfl
        rw [e0] at d0
        clear e0
        go_wp2
        go_roundw
        case rel =>
          refine ⟨p, rfl, by omega, fun i h1 h2 => ?_, rfl⟩
          by_cases h3 : i = p
          · rw [h3, ← HX.out, hx0]
          · exact HZ.out i (by omega) h2
        case measure => simp [LenOf]
      · have e0 : (iu8 x == 0) = false := by
          rw [beq_eq_false_iff_ne]; intro e; exact hx0 (iu8_inj (by rw [e]; rfl))
        go_wp2
        go_ret
        exact ⟨p + 1, rfl, by omega, HZ.out, fun _ => by rw [Nat.add_sub_cancel, ← HX.out]; exact hx0, rfl⟩
def TrimL (w : World) (l : List UInt8) (v : Value) (wr : World) : Prop :=
  ∃ (A : Option Addr) (c : Nat) (k : List UInt8), v = .slice A k.length c ∧ k.length ≤ c ∧ Bytes w A k ∧ (∃ z, l = List.replicate z 0 ++ k) ∧ wr = w
set_option maxHeartbeats 1000000 in
theorem trimLeft_any (A : Option Addr) (n c : Nat) (l : List UInt8) (hn : n = l.length) (hc : l.length ≤ c ∧ l.length ≤ 140737488351232) (w : World) (hb : Bytes w A l) :
    Calls Tryz.prog 127 #[.slice A n c, .int .u8 0] w fun e w' => ∃ (A2 : Option Addr) (m c2 : Nat), e = .returned (.slice A2 m c2) ∧ (m = 0 ↔ l.all (· == 0) = true) ∧ w' = w := by
  subst hn
  have HC := Lib.hid hc
  clear hc
  go_enter Tryz.func127, Tryz.ntmps127
  go_wp2
  go_loopw [0] (fun v wr => TrimL w l v wr) (fun v _ => LenOf v)
  case atStart => exact ⟨A, c, l, rfl, HC.out.1, hb, ⟨0, rfl⟩, rfl⟩
  case round =>
    obtain ⟨A2, c2, k, rfl, hm, hb2, hz, hwr⟩ := hrel
    subst hwr
    have hkl : k.length ≤ 140737488351232 := by obtain ⟨z, e⟩ := hz; have := congrArg List.length e; rw [List.length_append] at this; have := HC.out; omega
    have HZ := Lib.hid hz
    clear hz
    cases k with
    | nil =>
      go_wp2
      go_ret
      refine ⟨none, 0, 0, rfl, ?_, rfl⟩
      obtain ⟨z, e⟩ := HZ.out
      rw [e]; simp
    | cons x t =>
      have hgt : decide ((((x :: t).length : Nat) : Int) > 0) = true := by rw [decide_eq_true_eq]; simp
      obtain ⟨m, hml⟩ : ∃ m, m = (x :: t).length := ⟨_, rfl⟩
      have hm1 : 1 ≤ m := by rw [hml]; simp
      have hcut := Lib.hid hb2
      obtain ⟨b, off, rfl, hlt, hcell⟩ := hb2.at_ (by simp)
      have d0 := hcell 0 (by simp)
      rw [Nat.add_zero, show (x :: t).getD 0 0 = x from rfl] at d0
      rw [← hml] at hgt hm hkl ⊢
      have HML := Lib.hid hml
      clear hml hcell hb2 hb
      by_cases hx0 : x = 0
      · have e0 : iu8 x = 0 := by rw [hx0]; rfl
        rw [e0] at d0
        clear e0
        go_wp2_with (first
          | ((with_reducible show wpList _ _ _ ((⟨some 16, _, _, _, _, _⟩ : Oper) :: _) _ _); refine wpList_cut_bytes (o := ⟨some 16, _, _, _, _, _⟩) (by rfl) _ _ _ (by rfl) _ Tryz.underlying39 size1 (some ⟨b, off, none⟩) (m) (c2) .i64 (1) (by rfl) (by rfl) (x :: t) (HML.out) (hm1) (hm) (hcut.out) ?_; intro A3 hb3 _)
          | fail)
        go_roundw
        case rel =>
          refine ⟨A3, c2 - 1, t, rfl, ?_, hb3, ?_, rfl⟩
          · have := HML.out; simp at this; omega
          · obtain ⟨z, e⟩ := HZ.out
            refine ⟨z + 1, ?_⟩
            rw [e, hx0, List.replicate_succ', List.append_assoc]; rfl
        case measure => have := HML.out; simp [LenOf] at this ⊢; omega
      · have e0 : (iu8 x == 0) = false := by
          rw [beq_eq_false_iff_ne]; intro e; exact hx0 (iu8_inj (by rw [e]; rfl))
        have hm0 : ((m : Int) == 0) = false := by rw [beq_eq_false_iff_ne]; omega
        go_wp2
        go_ret
        refine ⟨some ⟨b, off, none⟩, m, c2, rfl, ?_, rfl⟩
        obtain ⟨z, e⟩ := HZ.out
        rw [e]
        constructor
        · intro h; omega
        · intro h; simp [hx0] at h
set_option maxRecDepth 100000 in
set_option maxHeartbeats 1000000 in
theorem trim_any (A : Option Addr) (n c : Nat) (l : List UInt8) (hn : n = l.length) (hc : l.length ≤ c ∧ l.length ≤ 140737488351232) (w : World) (hb : Bytes w A l) :
    Calls Tryz.prog 95 #[.slice A n c, .string ⟨#[0]⟩] w fun e w' => ∃ (A2 : Option Addr) (m c2 : Nat), e = .returned (.slice A2 m c2) ∧ (m = 0 ↔ l.all (· == 0) = true) ∧ Below w.heap.size w w' := by
  by_cases h0 : n = 0
  · have hl : l = [] := List.eq_nil_of_length_eq_zero (by omega)
    subst h0 hl
    clear hb hc hn
    go_enter Tryz.func95, Tryz.ntmps95
    go_wp2
    go_ret
    exact ⟨none, 0, 0, rfl, by simp, Below.refl _ _⟩
  · have hz0 : ((n : Int) == 0) = false := by rw [beq_eq_false_iff_ne]; omega
    have HN := Lib.hid (And.intro hn hc)
    clear hn hc h0
    go_enter Tryz.func95, Tryz.ntmps95
    go_wp2
    refine wp_region_tree (Below w.heap.size w) [] (PlanT.takes [0, 1, 2, 4, 5] (.opt 3 (.opt 6 (PlanT.takes [7] .done) .no) .no)) (by kernel_rfl) (by kernel_rfl) ((Below.refl _ _).drew) ?_
    refine wpTree_pure _ _ _ (by rfl) (by rfl) ?_
    dsimp only [List.filterMap, List.getElem?_cons_zero, List.getElem?_cons_succ]
    repeat (go_big_quiet_step (fail))
    refine wpQuiet_nil ?_
    refine wpTree_one _ rfl ?_
    go_wp2_with fail
    refine (trimRight_any A n c l HN.out.1 HN.out.2 w.drew hb).mono ?_
    rintro e w2 ⟨m, rfl, hml, hz, hnz, hw2⟩
    have hC2 : Below w.heap.size w w2 := by rw [hw2]; exact (Below.refl _ _).drew
    have hmb : m ≤ c ∧ m ≤ 140737488351232 := by have := HN.out; omega
    have HZ := Lib.hid (And.intro hml (And.intro hz hnz))
    clear hml hz hnz hw2
    go_wp2_with fail
    refine TreeQ.in_ hC2 ?_
    refine wpTree_one _ rfl ?_
    go_wp2_with fail
    have hlt : (l.take m).length = m := by rw [List.length_take]; have := HZ.out.1; omega
    refine (trimLeft_any A m c (l.take m) hlt.symm (by rw [hlt]; exact hmb) w2 ((Bytes.below hb hC2).take m)).mono ?_
    rintro e w3 ⟨A2, m2, c2, rfl, hm2, hw3⟩
    have hC3 : Below w.heap.size w w3 := by rw [hw3]; exact hC2
    have HM := Lib.hid hm2
    clear hw3 hm2 hC2 hlt hmb
    go_wp2_with fail
    refine TreeQ.in_ hC3 ?_
    refine wpTree_pure _ _ _ (by rfl) (by rfl) ?_
    dsimp only [List.filterMap, List.getElem?_cons_zero, List.getElem?_cons_succ]
    repeat (go_big_quiet_step (fail))
    refine wpQuiet_nil ?_
    refine wpTree_done ?_
    have HC3 := Lib.hid hC3
    clear hC3
    go_wp2
    go_ret
    refine ⟨A2, m2, c2, rfl, HM.out.trans ?_, HC3.out⟩
    obtain ⟨h1, h2, h3⟩ := HZ.out
    have hin := HN.out.1
    constructor
    · intro h
      have hm0 : m = 0 := by
        rcases Nat.eq_zero_or_pos m with h4 | h4
        · exact h4
        · exfalso
          refine h3 h4 ?_
          have h5 : (l.take m)[m - 1]? = some (l.getD (m - 1) 0) := by
            rw [List.getElem?_take_of_lt (by omega), List.getD_eq_getElem?_getD, List.getElem?_eq_getElem (by omega)]; rfl
          have h6 := List.all_eq_true.1 h _ (List.mem_of_getElem? h5)
          simpa using h6
      rw [List.all_eq_true]
      intro x hx
      obtain ⟨i, hi, rfl⟩ := List.getElem_of_mem hx
      have := h2 i (by omega) hi
      rw [List.getD_eq_getElem?_getD, List.getElem?_eq_getElem hi] at this
      simpa using this
    · intro h
      rw [List.all_eq_true] at h ⊢
      exact fun x hx => h x (List.mem_of_mem_take hx)
end Go.Proofs.YtfoegmjpfkmggaaGreatDoor
