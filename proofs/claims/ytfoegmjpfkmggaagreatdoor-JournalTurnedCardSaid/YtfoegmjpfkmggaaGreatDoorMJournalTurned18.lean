/- A step's message; a slot's bytes as a disk has them. Conditions: the disk is up; bodies of at most 600 bytes. (Printed by gen/ka.py.) -/
import Derived.Test.YtfoegmjpfkmggaaGreatDoorMJournalTurned17
namespace Go.Proofs.YtfoegmjpfkmggaaGreatDoor
open Go.RowKit
theorem sizeStep : (Tryz.prog.info? 31).map (·.size) = some 7 := by kernel_rfl
def jop (o : Int) : Int := 1 + (pickN o 40 : Nat)
def jvw (v : Int) : Int := (pickN v 4 : Nat)
theorem jop_ok (o v : Int) (bs : List UInt8) (h : bs.length ≤ 600) : JmOk (jop o) (jvw v) bs := by
  have h1 := pickN_lt o 40 (by omega)
  have h2 := pickN_lt v 4 (by omega)
  unfold jop jvw
  exact ⟨by omega, by omega, by omega, by omega, by omega⟩
section
variable (a o v s : Int) (bs : List UInt8) (K : Option Addr) (kn kc : Nat) (t : Int) (w : World)
set_option maxRecDepth 100000 in
set_option maxHeartbeats 1000000 in
theorem sop_any : Calls Tryz.prog 38 #[.agg #[.int .i64 a, .int .i64 o, .int .i64 v, .int .i64 s, .string (str bs), .slice K kn kc, .int .i64 t]] w fun e w' => e = .returned (.int .i64 (jop o)) ∧ Below w.heap.size w w' := by
  have hb := (Below.refl w.heap.size w).alloc (Nat.le_refl _) (.cells #[.int .i64 a, .int .i64 o, .int .i64 v, .int .i64 s, .string (str bs), .slice K kn kc, .int .i64 t] 31)
  have q1 := (Blk.new w 31 #[.int .i64 a, .int .i64 o, .int .i64 v, .int .i64 s, .string (str bs), .slice K kn kc, .int .i64 t]).at_ 1 (v := .int .i64 o) rfl
  have HB := Lib.hid hb
  clear hb
  go_enter Tryz.func38, Tryz.ntmps38
  go_wp2_with fail
  refine (pick_any o 40 (by omega) (by omega) _).mono ?_
  rintro e w1 ⟨rfl, hw⟩
  obtain rfl := hw.symm
  clear hw q1
  have h1 := pickN_lt o 40 (by omega)
  have e1 : wrap64 (1 + ((pickN o 40 : Nat) : Int)) = jop o := by unfold wrap64 jop; omega
  have HE1 := Lib.hid e1
  clear h1 e1
  go_wp2
  go_ret
  exact ⟨by rw [← HE1.out]; rfl, HB.out⟩
set_option maxRecDepth 100000 in
set_option maxHeartbeats 2000000 in
theorem smsg_any (hbs : bs.length ≤ 1000000) : Calls Tryz.prog 8 #[.agg #[.int .i64 a, .int .i64 o, .int .i64 v, .int .i64 s, .string (str bs), .slice K kn kc, .int .i64 t]] w fun e w' => ∃ g c, e = .returned (.agg (msgc (jm (jop o) (jvw v) bs.length) (.slice (some ⟨g, 0, none⟩) bs.length c))) ∧
      w.heap.size ≤ g ∧ Bytes w' (some ⟨g, 0, none⟩) bs ∧ (bs.length ≤ c ∧ c ≤ 9223372036854775807) ∧ Below w.heap.size w w' := by
  have hb := ((Below.refl w.heap.size w).alloc (Nat.le_refl _) (.cells #[.int .i64 a, .int .i64 o, .int .i64 v, .int .i64 s, .string (str bs), .slice K kn kc, .int .i64 t] 31)).alloc (by simp) (.cells #[.int .i64 0, .int .i64 0, .int .i64 0, .int .i64 0, .int .i64 0, .int .i64 0, .int .i64 0, .int .i64 0, .int .i64 0, .int .u64 0, .int .u64 0, .int .i64 0, .int .i64 0, .int .u64 0, .int .i64 0, .int .i64 0, .slice none 0 0] 41)
  have k0 := (Blk.new w 31 #[.int .i64 a, .int .i64 o, .int .i64 v, .int .i64 s, .string (str bs), .slice K kn kc, .int .i64 t]).alloc (.cells #[.int .i64 0, .int .i64 0, .int .i64 0, .int .i64 0, .int .i64 0, .int .i64 0, .int .i64 0, .int .i64 0, .int .i64 0, .int .u64 0, .int .u64 0, .int .i64 0, .int .i64 0, .int .u64 0, .int .i64 0, .int .i64 0, .slice none 0 0] 41)
  have k1 := (Blk.new' (w.alloc (.cells #[.int .i64 a, .int .i64 o, .int .i64 v, .int .i64 s, .string (str bs), .slice K kn kc, .int .i64 t] 31)) 41 #[.int .i64 0, .int .i64 0, .int .i64 0, .int .i64 0, .int .i64 0, .int .i64 0, .int .i64 0, .int .i64 0, .int .i64 0, .int .u64 0, .int .u64 0, .int .i64 0, .int .i64 0, .int .u64 0, .int .i64 0, .int .i64 0, .slice none 0 0] (n := w.heap.size + 1) (by simp)).sub zeroMsg_cells.symm
  have hz : ((w.alloc (.cells #[.int .i64 a, .int .i64 o, .int .i64 v, .int .i64 s, .string (str bs), .slice K kn kc, .int .i64 t] 31)).alloc (.cells #[.int .i64 0, .int .i64 0, .int .i64 0, .int .i64 0, .int .i64 0, .int .i64 0, .int .i64 0, .int .i64 0, .int .i64 0, .int .u64 0, .int .u64 0, .int .i64 0, .int .i64 0, .int .u64 0, .int .i64 0, .int .i64 0, .slice none 0 0] 41)).heap.size = w.heap.size + 2 := by simp
  have H0 := Lib.hid (And.intro hb (And.intro k0 (And.intro k1 (And.intro hz hbs))))
  clear hb k0 k1 hz hbs
  go_enter Tryz.func8, Tryz.ntmps8
  go_wp2_with fail
  generalize (w.alloc (.cells #[.int .i64 a, .int .i64 o, .int .i64 v, .int .i64 s, .string (str bs), .slice K kn kc, .int .i64 t] 31)).alloc (.cells #[.int .i64 0, .int .i64 0, .int .i64 0, .int .i64 0, .int .i64 0, .int .i64 0, .int .i64 0, .int .i64 0, .int .i64 0, .int .u64 0, .int .u64 0, .int .i64 0, .int .i64 0, .int .u64 0, .int .i64 0, .int .i64 0, .slice none 0 0] 41) = w1 at H0 ⊢
  have hC0 : Near [w.heap.size + 1] w1 w1.drew := (Near.refl _ _).drew
  refine wp_region_tree (Near [w.heap.size + 1] w1) [] (PlanT.takes [2, 5] (PlanT.takes [0, 3, 6] (.opt 1 (.opt 4 (.opt 7 (.opt 8 .done .no) .no) .no) .no))) (by kernel_rfl) (by kernel_rfl) (hC0) ?_
  refine wpTree_pure _ _ _ (by rfl) (by rfl) ?_
  dsimp only [List.filterMap, List.getElem?_cons_zero, List.getElem?_cons_succ]
  repeat (go_big_quiet_step (fail))
  refine wpQuiet_nil ?_
  refine wpTree_takeL _ _ _ (by rfl) (by rfl) (hC0) ?_
  dsimp only [List.filterMap, List.getElem?_cons_zero, List.getElem?_cons_succ]
  (refine wpQuiet_load_blk (fun w' hw' => H0.out.2.1.near hw' (by simp)) (by rfl) _ _ (by rfl) (by rfl) _ Tryz.underlying31 (by rfl) (sizeStep) (by rfl) ?_; simp only [Act.put, List.setIfInBounds_toArray, List.set_cons_zero, List.set_cons_succ])
  (refine wpQuiet_load_cell (fun w' hw' => (H0.out.2.1.near hw' (by simp)).at_ 2 (v := .int .i64 v) rfl) (by rfl) _ _ (by rfl) (by rfl) _ Tryz.underlying3 (by rfl) ?_; simp only [Act.put, List.setIfInBounds_toArray, List.set_cons_zero, List.set_cons_succ])
  (refine wpQuiet_load_cell (fun w' hw' => (H0.out.2.1.near hw' (by simp)).at_ 4 (v := .string (str bs)) rfl) (by rfl) _ _ (by rfl) (by rfl) _ Tryz.underlying9 (by rfl) ?_; simp only [Act.put, List.setIfInBounds_toArray, List.set_cons_zero, List.set_cons_succ])
  refine wpQuiet_nil ?_
  refine wpTree_one _ rfl ?_
  go_wp2_with fail
  refine (sop_any a o v s bs K kn kc t w1.drew).mono ?_
  rintro e w2 ⟨rfl, hb2⟩
  have hC2 : Near [w.heap.size + 1] w1 w2 := hC0.trans (Near.below hb2)
  have hN2 : Near [] w1 w2 := (Near.refl [] w1).drew.trans (Near.below hb2)
  clear hC0 hb2
  go_wp2_with fail
  refine TreeQ.in_ hC2 ?_
  refine wpTree_one _ rfl ?_
  go_wp2_with fail
  refine (pick_any v 4 (by omega) (by omega) _).mono ?_
  rintro e w2' ⟨rfl, hw⟩
  obtain rfl := hw.symm
  clear hw
  go_wp2_with fail
  refine TreeQ.in_ hC2 ?_
  refine wpTree_one _ rfl ?_
  go_wp2_with fail
  refine (jprep_any (jop o) (jvw v) bs H0.out.2.2.2.2 w2).mono ?_
  rintro e w3 ⟨g, c, rfl, hg, hby, hc, hb3⟩
  have hN3 : Near [] w1 w3 := hN2.trans (Near.below hb3)
  have hs := hN2.size
  have H3 := Lib.hid (And.intro hN3 (And.intro (H0.out.2.2.1.near hN3 (by simp)) (And.intro hby (And.intro hc (show w.heap.size + 2 ≤ g by have := H0.out.2.2.2.1; omega)))))
  have hC3 : Near [w.heap.size + 1] w1 w3 := hC2.trans (Near.below hb3)
  clear hC2 hN2 hN3 hb3 hg hby hc hs
  go_wp2_with fail
  refine TreeQ.in_ hC3 ?_
  refine wpTree_one _ rfl ?_
  have hm3 := H3.out.2.1
  go_wp2_with (first
    | ((with_reducible show wpList _ _ _ ((⟨none, _, _, _, _, _⟩ : Oper) :: _) _ _); refine wpList_store_blk (o := ⟨none, _, _, _, _, _⟩) (hm3) (by rfl) _ _ _ (by rfl) (by rfl) (msgc (jm (jop o) (jvw v) bs.length) (.slice (some ⟨g, 0, none⟩) bs.length c)) (by rfl) (sizeMsg) (msgc_size _ _) (msgc_size _ _) (msgc_one _ _ rfl) ?_; intro w9 h9 hu9; refine stopped ?_)
    | fail)
  refine Stopped.mk ?_
  have hC9 : Near [w.heap.size + 1] w1 w9 := hC3.trans (Near.upd hu9 (List.mem_singleton_self _))
  go_wp2_with fail
  refine TreeQ.in_ hC9 ?_
  refine wpTree_done ?_
  have hb9 := H3.out.2.2.1
  have HE := Lib.hid (And.intro (Bytes.upd hb9 hu9 (fun ad e => by cases e; have := H3.out.2.2.2.2; show g ≠ w.heap.size + 1; omega)) (H0.out.1.trans (hC9.toBelow (fun x hx => by rw [List.mem_singleton.1 hx]; omega) H0.out.1.size)))
  clear hC9 hC3 hu9 hm3 hb9
  go_wp2_with fail
  refine bodyPost_ret (results_row1 (by rfl) _ _ (w.heap.size + 1) _ _ _ (by rfl) h9 Tryz.underlying41 (by rfl) (by rw [msgc_size]; exact sizeMsg)) rfl ?_
  exact ⟨g, c, rfl, by have := H3.out.2.2.2.2; omega, HE.out.1, H3.out.2.2.2.1, HE.out.2⟩
end
set_option maxRecDepth 100000 in
set_option maxHeartbeats 1000000 in
theorem slotBytes_any {w : World} {p : Pl} {L : List UInt8} (n : Nat) (hn : n < 16) (hd : JD w p L) : Calls Tryz.prog 10 #[.pointer (some ⟨p.gd, 0, none⟩), .int .i64 (n : Int)] w fun e w' => ∃ gh gp, e = .returned (.tuple #[.slice (some ⟨gh, 0, none⟩) 256 256, .slice (some ⟨gp, 0, none⟩) 1280 1280]) ∧
    Bytes w' (some ⟨gh, 0, none⟩) (jhd L n) ∧ Bytes w' (some ⟨gp, 0, none⟩) (jpr L n) ∧ (w.heap.size ≤ gh ∧ w.heap.size ≤ gp) ∧ Below w.heap.size w w' := by
  have e1 : wrap64 (8 + (n : Int)) = ((8 + n : Nat) : Int) := by unfold wrap64; omega
  have e2 : wrap64 (5 * (n : Int)) = 5 * (n : Int) := by unfold wrap64; omega
  have e3 : wrap64 (24 + 5 * (n : Int)) = ((24 + 5 * n : Nat) : Int) := by unfold wrap64; omega
  have HD := Lib.hid hd
  clear hd
  go_enter Tryz.func10, Tryz.ntmps10
  go_wp2_with fail
  refine (jdread1 n hn HD.out).mono ?_
  rintro e w2 ⟨gh, rfl, hgh, hh2, hb2⟩
  have H2 := Lib.hid (And.intro (HD.out.near (Near.below hb2)) (And.intro hh2 (And.intro hb2 hgh)))
  clear hh2 hb2 e1 hgh
  go_wp2_with fail
  refine (jdread5 n hn H2.out.1).mono ?_
  rintro e w3 ⟨gp, rfl, hgp, hp3, hb3⟩
  have H3 := Lib.hid (And.intro (Bytes.below H2.out.2.1 hb3) (And.intro hp3 (And.intro (show w.heap.size ≤ gh ∧ w.heap.size ≤ gp from ⟨H2.out.2.2.2, Nat.le_trans H2.out.2.2.1.size hgp⟩) (H2.out.2.2.1.trans (hb3.mono H2.out.2.2.1.size)))))
  clear hgp hp3 hb3 e2 e3 H2
  go_wp2
  go_ret2
  exact ⟨gh, gp, rfl, H3.out⟩
end Go.Proofs.YtfoegmjpfkmggaaGreatDoor

/- What a journal is said to have, in cells: sixteen slots, sixteen messages. Plain facts. No condition. -/
namespace Go.Proofs.YtfoegmjpfkmggaaGreatDoor
open Go.RowKit
theorem fm_len {α : Type} {f : α → List Value} {c : Nat} (hc : ∀ a, (f a).length = c) (l : List α) : (l.flatMap f).length = c * l.length := by
  induction l with
  | nil => rfl
  | cons a l ih => rw [List.flatMap_cons, List.length_append, ih, hc, List.length_cons, Nat.mul_succ, Nat.add_comm]
theorem fm_set {α : Type} {f : α → List Value} {c : Nat} (hc : ∀ a, (f a).length = c) : ∀ (l : List α) (i : Nat) (x : α) (_ : i < l.length), (l.set i x).flatMap f = (l.flatMap f).take (c * i) ++ (f x ++ (l.flatMap f).drop (c * i + c))
  | [], i, x, h => by simp at h
  | a :: l, 0, x, h => by
    rw [List.set_cons_zero, List.flatMap_cons, List.flatMap_cons, Nat.mul_zero, List.take_zero, List.nil_append, Nat.zero_add, ← hc a, List.drop_left]
  | a :: l, i + 1, x, h => by
    have ih := fm_set hc l i x (by simpa using h)
    rw [List.set_cons_succ, List.flatMap_cons, List.flatMap_cons, ih, Nat.mul_succ, Nat.add_comm (c * i) c]
    have e1 : (f a ++ l.flatMap f).take (c + c * i) = f a ++ (l.flatMap f).take (c * i) := by rw [← hc a, List.take_length_add_append]
    have e2 : (f a ++ l.flatMap f).drop (c + c * i + c) = (l.flatMap f).drop (c * i + c) := by rw [Nat.add_assoc, ← hc a, List.drop_length_add_append, hc]
    rw [e1, e2, List.append_assoc, Nat.add_comm c (c * i)]
theorem fm_at {α : Type} {f : α → List Value} {c : Nat} (hc : ∀ a, (f a).length = c) : ∀ (l : List α) (i k : Nat) (_ : k < c) (h : i < l.length), (l.flatMap f)[c * i + k]? = (f l[i])[k]?
  | [], i, k, _, h => by simp at h
  | a :: l, 0, k, hk, h => by
    rw [List.flatMap_cons, Nat.mul_zero, Nat.zero_add, List.getElem?_append_left (by rw [hc]; exact hk)]
    rfl
  | a :: l, i + 1, k, hk, h => by
    rw [List.flatMap_cons, List.getElem?_append_right (by rw [hc, Nat.mul_succ]; omega), hc, Nat.mul_succ, show c * i + c + k - c = c * i + k by omega, fm_at hc l i k hk (by simpa using h)]
    rfl
theorem setAll_list : ∀ (vs : List Value) (o : Nat) (l : List Value) (_ : o + vs.length ≤ l.length), setAll l.toArray o vs = (l.take o ++ (vs ++ l.drop (o + vs.length))).toArray
  | [], o, l, _ => by simp [setAll]
  | v :: r, o, l, h => by
    rw [List.length_cons] at h
    have ih := setAll_list r (o + 1) (l.set o v) (by rw [List.length_set]; omega)
    show setAll (l.toArray.setIfInBounds o v) (o + 1) r = _
    rw [List.setIfInBounds_toArray, ih]
    congr 1
    have e1 : (l.set o v).take (o + 1) = l.take o ++ [v] := by
      rw [List.take_set, List.set_eq_take_append_cons_drop, if_pos (by rw [List.length_take]; omega), List.take_take, Nat.min_eq_left (by omega), List.drop_of_length_le (by rw [List.length_take]; omega)]
    have e2 : (l.set o v).drop (o + 1 + r.length) = l.drop (o + (v :: r).length) := by
      rw [List.drop_set_of_lt (by omega), List.length_cons, Nat.add_assoc, Nat.add_comm 1]
    rw [e1, e2]
    simp
abbrev MsT := HdF × Value
def mrow (m : MsT) : List Value := (msgc m.1 m.2).toList
theorem mrow_length (m : MsT) : (mrow m).length = 17 := by unfold mrow; rw [Array.length_toList, msgc_size]
theorem slc_len (s : SlT) : (slc s).length = 4 := rfl
def hcl (ls : List SlT) (ms : List MsT) : List Value := slcs ls ++ ms.flatMap mrow
theorem hcl_length {ls : List SlT} {ms : List MsT} (h1 : ls.length = 16) (h2 : ms.length = 16) : (hcl ls ms).length = 336 := by
  unfold hcl; rw [List.length_append, slcs_length, fm_len mrow_length, h1, h2]
theorem hcl_set1 {ls : List SlT} {ms : List MsT} (h1 : ls.length = 16) (h2 : ms.length = 16) {i : Nat} (hi : i < 16) (x : SlT) : setAll (hcl ls ms).toArray (i * 4) (slc x) = (hcl (ls.set i x) ms).toArray := by
  have hl := hcl_length h1 h2
  have hs : (slcs ls).length = 64 := by rw [slcs_length, h1]
  rw [setAll_list _ _ _ (by rw [hl, slc_len]; omega), slc_len]
  congr 1
  have hf : slcs (ls.set i x) = (slcs ls).take (4 * i) ++ (slc x ++ (slcs ls).drop (4 * i + 4)) := fm_set slc_len ls i x (by omega)
  unfold hcl
  rw [hf, List.take_append_of_le_length (by omega), List.drop_append_of_le_length (by omega), Nat.mul_comm]
  simp
theorem hcl_set2 {ls : List SlT} {ms : List MsT} (h1 : ls.length = 16) (h2 : ms.length = 16) {i : Nat} (hi : i < 16) (m : MsT) : setAll (hcl ls ms).toArray (64 + i * 17) (mrow m) = (hcl ls (ms.set i m)).toArray := by
  have hl := hcl_length h1 h2
  have hs : (slcs ls).length = 64 := by rw [slcs_length, h1]
  rw [setAll_list _ _ _ (by rw [hl, mrow_length]; omega), mrow_length]
  congr 1
  have hf := fm_set mrow_length ms i m (by omega)
  unfold hcl
  rw [hf, show 64 + i * 17 = (slcs ls).length + 17 * i by omega, List.take_length_add_append, Nat.add_assoc, List.drop_length_add_append]
  simp
theorem hcl_slot {ls : List SlT} {ms : List MsT} {i k : Nat} (h : i < ls.length) (hk : k < 4) : (hcl ls ms)[i * 4 + k]? = (slc ls[i])[k]? := by
  unfold hcl
  rw [List.getElem?_append_left (by rw [slcs_length]; omega), Nat.mul_comm, slcs_at ls i k hk h]
theorem hcl_msg {ls : List SlT} {ms : List MsT} {i k : Nat} (h1 : ls.length = 16) (h : i < ms.length) (hk : k < 17) : (hcl ls ms)[64 + i * 17 + k]? = (mrow ms[i])[k]? := by
  have hs : (slcs ls).length = 64 := by rw [slcs_length, h1]
  unfold hcl
  rw [List.getElem?_append_right (by omega), hs, show 64 + i * 17 + k - 64 = 17 * i + k by omega, fm_at mrow_length ms i k hk h]
theorem hcl_one (ls : List SlT) (ms : List MsT) (h : ∀ m ∈ ms, m.2.oneCell' = true) : (hcl ls ms).all (·.oneCell') = true := by
  unfold hcl
  rw [List.all_append, slcs_one, Bool.true_and, List.all_eq_true]
  intro v hv
  obtain ⟨m, hm, hv⟩ := List.mem_flatMap.1 hv
  have := msgc_one m.1 m.2 (h m hm)
  unfold mrow at hv
  exact (Array.all_eq_true_iff_forall_mem.1 this) v (by simpa using hv)
end Go.Proofs.YtfoegmjpfkmggaaGreatDoor

/- What a journal has, by what it tells: the law's asked. Condition: each slot is empty, or has the prepare that it says. (Printed by gen/kc.py.) -/
namespace Go.Proofs.YtfoegmjpfkmggaaGreatDoor
open Go.RowKit
theorem _root_.Go.Near.mix {X Y : List Nat} {w W W' : World} (h : Near X w W) (k : Near Y W W') (hY : ∀ y ∈ Y, y ∈ X ∨ w.heap.size ≤ y) : Near X w W' :=
  ⟨k.os.trans h.os, k.tape.trans h.tape, k.output.trans h.output, Nat.le_trans h.size k.size, fun j hj hn => (k.block j (Nat.lt_of_lt_of_le hj h.size) (fun hx => by
    rcases hY j hx with h1 | h1
    · exact hn h1
    · omega)).trans (h.block j hj hn)⟩
theorem infoHeld : (Tryz.prog.info? 48).map (·.size) = some 336 := by kernel_rfl
/-- A slot is empty, or has the prepare that it says. -/
def AskOk (L : List UInt8) (l : List SlT) (i : Nat) : Prop := jst l i = (4, 0, 0, false) ∨ ∃ F b, Slot.prep (jpr L i) i = (true, F, b) ∧ jst l i = (1, F 5, F 3, false) ∧ 1 ≤ F 5 ∧ jsl (F 5) = i
def askM (L : List UInt8) (l : List SlT) (i : Nat) : HdF × List UInt8 := if (jst l i).2.1 = 0 then (Hd.none_, []) else (Slot.prep (jpr L i) i).2
theorem AskOk.get {L : List UInt8} {l : List SlT} {i : Nat} (h : AskOk L l i) : (jget L l (jst l i).2.1).2 = l ∧ (jget L l (jst l i).2.1).1.2 = askM L l i := by
  rcases h with h | ⟨F, b, h1, h2, h3, h4⟩
  · unfold askM
    rw [h]
    dsimp only
    rw [if_pos rfl]
    unfold jget
    rw [if_pos (by omega)]
    exact ⟨rfl, rfl⟩
  · have hg : jget L l (F 5) = ((0, F, b), l) := by
      unfold jget jgood
      rw [h4, h2, h1, if_neg (by omega), if_neg (by simp), if_neg (by simp), if_pos (by simp)]
    have e : (jst l i).2.1 = F 5 := by rw [h2]
    rw [e, hg]
    unfold askM
    rw [e, if_neg (by omega), h1]
    exact ⟨rfl, rfl⟩
def askL (l : List SlT) (k : Nat) : List SlT := (List.range 16).map fun t => if t < k then jst l t else (0, 0, 0, false)
def askR (ms : Nat → MsT) (k : Nat) : List MsT := (List.range 16).map fun t => if t < k then ms t else (zeroHd, .slice none 0 0)
theorem askL_length (l : List SlT) (k : Nat) : (askL l k).length = 16 := by unfold askL; simp
theorem askR_length (ms : Nat → MsT) (k : Nat) : (askR ms k).length = 16 := by unfold askR; simp
theorem askL_succ (l : List SlT) (k : Nat) : (askL l k).set k (jst l k) = askL l (k + 1) := by
  apply List.ext_getElem?
  intro j
  unfold askL
  rw [List.getElem?_set, List.length_map, List.length_range, List.getElem?_map, List.getElem?_map]
  by_cases hj : j < 16
  · rw [List.getElem?_range hj]
    by_cases e : k = j
    · subst e; rw [if_pos rfl, if_pos hj]; simp
    · rw [if_neg e]
      simp only [Option.map_some]
      congr 1
      by_cases h : j < k
      · rw [if_pos h, if_pos (by omega)]
      · rw [if_neg h, if_neg (by omega)]
  · rw [List.getElem?_eq_none (by simp; omega)]
    by_cases e : k = j
    · rw [if_pos e, if_neg (by omega)]; rfl
    · rw [if_neg e]; rfl
theorem askR_succ (ms : Nat → MsT) (k : Nat) (m : MsT) : (askR ms k).set k m = askR (fun t => if t = k then m else ms t) (k + 1) := by
  apply List.ext_getElem?
  intro j
  unfold askR
  rw [List.getElem?_set, List.length_map, List.length_range, List.getElem?_map, List.getElem?_map]
  by_cases hj : j < 16
  · rw [List.getElem?_range hj]
    by_cases e : k = j
    · subst e; rw [if_pos rfl, if_pos hj]; simp
    · rw [if_neg e]
      simp only [Option.map_some]
      congr 1
      by_cases h : j < k
      · rw [if_pos h, if_pos (by omega), if_neg (by omega)]
      · rw [if_neg h, if_neg (by omega)]
  · rw [List.getElem?_eq_none (by simp; omega)]
    by_cases e : k = j
    · rw [if_pos e, if_neg (by omega)]; rfl
    · rw [if_neg e]; rfl
/-- The messages that were told so far. -/
def AskMs (L : List UInt8) (l : List SlT) (ms : Nat → MsT) (base k : Nat) (w : World) : Prop := ∀ t, t < k → (ms t).1 = (askM L l t).1 ∧ ∃ A c, (ms t).2 = .slice A (askM L l t).2.length c ∧ Bytes w A (askM L l t).2 ∧ ∀ ad, A = some ad → base ≤ ad.block
theorem AskMs.one {L : List UInt8} {l : List SlT} {ms : Nat → MsT} {base k : Nat} {w : World} (h : AskMs L l ms base k w) : ∀ m ∈ askR ms k, m.2.oneCell' = true := by
  intro m hm
  unfold askR at hm
  obtain ⟨t, ht, rfl⟩ := List.mem_map.1 hm
  by_cases h2 : t < k
  · obtain ⟨-, A, c, e, -⟩ := h t h2
    rw [if_pos h2, e]; rfl
  · rw [if_neg h2]; rfl
theorem AskMs.near {L : List UInt8} {l : List SlT} {ms : Nat → MsT} {base k : Nat} {w w' : World} {X : List Nat} (h : AskMs L l ms base k w) (n : Near X w w') (hX : ∀ x ∈ X, x < base) : AskMs L l ms base k w' := fun t ht => by
  obtain ⟨e1, A, c, e2, hb, hl⟩ := h t ht
  exact ⟨e1, A, c, e2, Bytes.near hb n (fun ad e hx => by have := hl ad e; have := hX _ hx; omega), hl⟩
def AskRel (w : World) (gj : Nat) (p : Pl) (L : List UInt8) (l : List SlT) (b3 base : Nat) (i : Value) (wr : World) : Prop := ∃ (k : Nat) (ms : Nat → MsT), k ≤ 16 ∧ i = .int .i64 (k : Int) ∧ Blk wr b3 48 (hcl (askL l k) (askR ms k)).toArray ∧ AskMs L l ms base k wr ∧ JR wr gj p L l ∧ Near [gj, b3] w wr
theorem zero_held : Tryz.zeroCells48 = (hcl (askL [] 0) (askR (fun _ => (zeroHd, .slice none 0 0)) 0)).toArray := by kernel_rfl
section
variable {w : World} {gj : Nat} {p : Pl} {L : List UInt8} {l : List SlT}
set_option maxRecDepth 100000 in
set_option maxHeartbeats 4000000 in
theorem jasked_any (hok : ∀ i, i < 16 → AskOk L l i) (h : JR w gj p L l) : Calls Tryz.prog 9 #[.pointer (some ⟨gj, 0, none⟩)] w fun e w' => ∃ ms : Nat → MsT, e = .returned (.agg (hcl (askL l 16) (askR ms 16)).toArray) ∧
    AskMs L l ms w.heap.size 16 w' ∧ JR w' gj p L l ∧ Near [gj] w w' := by
  have H0 := Lib.hid (And.intro hok h)
  clear hok h
  go_enter Tryz.func9, Tryz.ntmps9
  have k2 := (Blk.new w 48 Tryz.zeroCells48).alloc (.cells Tryz.zeroCells48 48)
  have k3 := Blk.new' (w.alloc (.cells Tryz.zeroCells48 48)) 48 Tryz.zeroCells48 (n := w.heap.size + 1) (by simp)
  have hb := ((Below.refl w.heap.size w).alloc (Nat.le_refl _) (.cells Tryz.zeroCells48 48)).alloc (by simp) (.cells Tryz.zeroCells48 48)
  have hz : ((w.alloc (.cells Tryz.zeroCells48 48)).alloc (.cells Tryz.zeroCells48 48)).heap.size = w.heap.size + 2 := by simp
  replace k3 := k3.sub zero_held
  have HJ := Lib.hid (And.intro H0.out.2.lt (And.intro H0.out.2.off H0.out.2.jd.lt))
  have H1 := Lib.hid (And.intro k2 (And.intro k3 (And.intro hb (And.intro hz (H0.out.2.below hb)))))
  clear k2 k3 hb hz
  go_wp2_with fail
  generalize (w.alloc (.cells Tryz.zeroCells48 48)).alloc (.cells Tryz.zeroCells48 48) = w1 at H1 ⊢
  refine (jslots_any H1.out.2.2.2.2).mono ?_
  rintro e w2 ⟨v, rfl, ⟨sp, ho⟩, hb2⟩
  obtain ⟨A, c, rfl, hc, hcm, hr, -⟩ := OwnsC.reads ho
  have h16 := H0.out.2.n16
  obtain ⟨b, off, rfl, hcell⟩ := hr (by rw [← List.length_pos_iff, slcs_length, h16]; omega)
  have hbl := OwnsC.lt ho b rfl
  have H2 := Lib.hid (And.intro (H1.out.1.below hb2 H1.out.1.lt) (And.intro (H1.out.2.1.below hb2 H1.out.2.1.lt) (And.intro (H1.out.2.2.1.trans (hb2.mono H1.out.2.2.1.size)) (And.intro (H1.out.2.2.2.2.below hb2) (And.intro hcell (And.intro (show w.heap.size + 2 ≤ b by have := H1.out.2.2.2.1; omega) (And.intro h16 (show w.heap.size + 2 ≤ w2.heap.size by have := H1.out.2.2.2.1; have := hb2.size; omega))))))))
  clear ho hc hcm hr hcell hbl h16 hb2
  go_wp2_with fail
  have hgj : gj < w.heap.size := HJ.out.1
  go_loopw [5] (fun i wr => AskRel w2 gj p L l (w.heap.size + 1) (w.heap.size + 2) i wr) (fun i _ => 16 - (intOf i).toNat)
  case atStart => exact ⟨0, (fun _ => (zeroHd, .slice none 0 0)), Nat.zero_le _, rfl, H2.out.2.1, fun t ht => absurd ht (by omega), H2.out.2.2.2.1, Near.refl _ _⟩
  case round =>
    obtain ⟨k, ms, hk, rfl, hbk, hms, hJ, hnr⟩ := hrel
    by_cases hlt : k < 16
    · obtain ⟨s1, s2, s3, s4, hs⟩ : ∃ s1 s2 s3 s4, jst l k = (s1, s2, s3, s4) := ⟨_, _, _, _, rfl⟩
      have hkl : k < l.length := by rw [H2.out.2.2.2.2.2.2.1]; exact hlt
      have hcl : ∀ j v, j < 4 → (slc (jst l k))[j]? = some v → wr.cell? ⟨b, off + k * 4 + j, none⟩ = some v := fun j v hj hv => by
        have h1 := H2.out.2.2.2.2.1 (k * 4 + j) v (by rw [Nat.mul_comm, slcs_at l k j hj hkl, jst_at hkl]; exact hv)
        rw [← Nat.add_assoc] at h1
        exact hnr.cell_ (by have := H2.out.2.2.2.2.2.1; simp; omega) h1
      have hrg : wr.rangeAt b (off + k * 4) (slc (jst l k)) := fun j u hu => hcl j u (by have := (List.getElem?_eq_some_iff.1 hu).1; simpa [slc] using this) hu
      rw [hs] at hrg hcl
      have c1 := hcl 1 (.int .i64 s2) (by omega) rfl
      have HX := Lib.hid (And.intro hms (And.intro hJ (And.intro hnr (And.intro hrg hs))))
      have HM := Lib.hid hms.one
      clear hms hJ hnr hrg hcl hs hkl
      go_wp2_with (first
        | ((with_reducible show wpList _ _ _ ((⟨some 22, _, _, _, _, _⟩ : Oper) :: _) _ _); refine wpList_load_mid (o := ⟨some 22, _, _, _, _, _⟩) HX.out.2.2.2.1 (by rfl) _ _ (by rfl) (by rfl) _ Tryz.underlying44 (by rfl) sizeSt (by rfl) ?_)
        | ((with_reducible show wpList _ _ _ ((⟨none, _, _, _, _, _⟩ : Oper) :: _) _ _); refine wpList_store_in (o := ⟨none, _, _, _, _, _⟩) hbk (by rfl) _ _ _ (by rfl) (k * 4) (by rfl) #[.int .i64 s1, .int .i64 s2, .int .i64 s3, .bool s4] (by rfl) sizeSt (by rfl) (by rw [List.size_toArray, hcl_length (askL_length _ _) (askR_length _ _)]; omega) (st_one _ _ _ _) ?_; intro w3 hg3 hu3; refine stopped ?_)
        | fail)
      refine Stopped.mk ?_
      have hb3o : w.heap.size + 1 ≠ gj ∧ w.heap.size + 1 ∉ p.all none := ⟨by omega, fun hx => by have := HJ.out.2.2 _ hx; omega⟩
      have hn3 : Near [w.heap.size + 1] wr w3 := Near.upd hu3 (List.mem_singleton_self _)
      have hg3' : Blk w3 (w.heap.size + 1) 48 (hcl (askL l (k + 1)) (askR ms k)).toArray := by
        have e1 := askL_succ l k
        rw [HX.out.2.2.2.2] at e1
        rw [← e1, ← hcl_set1 (askL_length _ _) (askR_length _ _) hlt]
        exact hg3
      have c1' := hn3.cell_ (by have := H2.out.2.2.2.2.2.1; simp; omega) c1
      have hag := (H0.out.1 k hlt).get
      rw [HX.out.2.2.2.2] at hag
      have H3 := Lib.hid (And.intro hg3' (And.intro (HX.out.2.1.near' hn3 hb3o.1 hb3o.2) (And.intro hn3 (And.intro hag (And.intro (HX.out.1.near hn3 (fun x hx => by rw [List.mem_singleton.1 hx]; omega)) hb3o)))))
      have hs2r := HX.out.2.2.1.size
      clear hb3o hn3 hg3' hag c1 hu3 hg3 hbk
      go_wp2_with fail
      refine (jget_any s2 H3.out.2.1).mono ?_
      rintro e w4 ⟨v, rfl, ⟨sp4, ho4⟩, hJ4, hn4⟩
      obtain ⟨A4, c4, rfl, -, -, hby4⟩ := OwnB.open_ ho4
      have hlo := OwnsC.lt ho4
      have hk4 := H3.out.2.2.2.1
      obtain ⟨M, hM⟩ : ∃ M, M = jget L l s2 := ⟨_, rfl⟩
      rw [← hM] at hJ4 hby4 hlo hk4 ⊢
      obtain ⟨⟨mc, F, bd⟩, l4⟩ := M
      dsimp only at hJ4 hby4 hlo hk4 ⊢
      obtain ⟨rfl, hk5⟩ := hk4
      have hbk4 := H3.out.1.near hn4 (by have := H3.out.2.2.2.2.2.1; simp; omega)
      have hs3 := H3.out.2.2.1.size
      have H4 := Lib.hid (And.intro hJ4 (And.intro hn4 (And.intro hby4 (And.intro hk5 (show ∀ ad, A4 = some ad → w.heap.size + 2 ≤ ad.block from fun ad e => by have := (hlo ad.block (by rw [e]; rfl)).1; have := H2.out.2.2.2.2.2.2.2; omega)))))
      clear hJ4 hn4 hby4 hk5 ho4 hlo hM hs3 c1'
      go_wp2_with (first
        | ((with_reducible show wpList _ _ _ ((⟨none, _, _, _, _, _⟩ : Oper) :: _) _ _); refine wpList_store_in (o := ⟨none, _, _, _, _, _⟩) hbk4 (by rfl) _ _ _ (by rfl) (64 + k * 17) (by rfl) (msgc F (.slice A4 bd.length c4)) (by rfl) sizeMsg (msgc_size _ _) (by rw [List.size_toArray, hcl_length (askL_length _ _) (askR_length _ _)]; omega) (msgc_one _ _ rfl) ?_; intro w5 hg5 hu5; refine stopped ?_)
        | fail)
      refine Stopped.mk ?_
      have hn5 : Near [w.heap.size + 1] w4 w5 := Near.upd hu5 (List.mem_singleton_self _)
      have hb5 : Blk w5 (w.heap.size + 1) 48 (hcl (askL l4 (k + 1)) (askR (fun t => if t = k then (F, .slice A4 bd.length c4) else ms t) (k + 1))).toArray := by
        rw [← askR_succ, ← hcl_set2 (askL_length _ _) (askR_length _ _) hlt]
        exact hg5
      have hmw : AskMs L l4 (fun t => if t = k then (F, .slice A4 bd.length c4) else ms t) (w.heap.size + 2) (k + 1) w5 := fun t ht => by
        by_cases e : t = k
        · subst e
          dsimp only
          rw [if_pos rfl, ← H4.out.2.2.2.1]
          exact ⟨rfl, A4, c4, rfl, Bytes.near H4.out.2.2.1 hn5 (fun ad e => by have := H4.out.2.2.2.2 ad e; simp; omega), H4.out.2.2.2.2⟩
        · dsimp only
          rw [if_neg e]
          exact ((H3.out.2.2.2.2.1.near H4.out.2.1 (fun x hx => by rw [List.mem_singleton.1 hx]; omega)).near hn5 (fun x hx => by rw [List.mem_singleton.1 hx]; omega)) t (by omega)
      have hX := fun (x : Nat) (hx : x ∈ [w.heap.size + 1]) => show x ∈ [gj, w.heap.size + 1] by rw [List.mem_singleton.1 hx]; simp
      have hX2 := fun (x : Nat) (hx : x ∈ [gj]) => show x ∈ [gj, w.heap.size + 1] by rw [List.mem_singleton.1 hx]; simp
      have HE := Lib.hid (And.intro hb5 (And.intro hmw (And.intro (H4.out.1.near' hn5 H3.out.2.2.2.2.2.1 H3.out.2.2.2.2.2.2) (((HX.out.2.2.1.trans (H3.out.2.2.1.wider hX)).trans (H4.out.2.1.wider hX2)).trans (hn5.wider hX)))))
      clear hn5 hb5 hmw hX hX2 hu5 hg5 hbk4
      go_wp2_with fail
      refine ⟨?_, by simp [intOf]; omega⟩
      exact ⟨k + 1, _, by omega, by go_num, HE.out⟩
    · obtain rfl : k = 16 := by omega
      have h2 := H2.out.1.near hnr (by simp; omega)
      have HX := Lib.hid (And.intro hms (And.intro hJ (And.intro hnr hms.one)))
      clear hms hJ hnr hlt hk
      go_wp2_with (first
        | ((with_reducible show wpList _ _ _ ((⟨some 38, _, _, _, _, _⟩ : Oper) :: _) _ _); refine wpList_load_blk (o := ⟨some 38, _, _, _, _, _⟩) (hbk) (by rfl) _ _ (by rfl) (by rfl) _ Tryz.underlying48 (by rfl) (infoHeld) (by rw [List.size_toArray, hcl_length (askL_length _ _) (askR_length _ _)]) ?_)
        | ((with_reducible show wpList _ _ _ ((⟨none, _, _, _, _, _⟩ : Oper) :: _) _ _); refine wpList_store_blk (o := ⟨none, _, _, _, _, _⟩) (h2) (by rfl) _ _ _ (by rfl) (by rfl) ((hcl (askL l 16) (askR ms 16)).toArray) (by rfl) (infoHeld) (by kernel_rfl) (by rw [List.size_toArray, hcl_length (askL_length _ _) (askR_length _ _)]) (by rw [List.all_toArray]; exact hcl_one _ _ HX.out.2.2.2) ?_; intro w9 h9 hu9)
        | fail)
      refine bodyPost_ret (results_row1 (by rfl) _ _ w.heap.size _ _ _ (by rfl) h9 Tryz.underlying48 (by rfl) (by rw [List.size_toArray, hcl_length (askL_length _ _) (askR_length _ _)]; exact infoHeld)) rfl ?_
      have hn9 : Near [w.heap.size] wr w9 := Near.upd hu9 (List.mem_singleton_self _)
      refine ⟨ms, rfl, fun t ht => ?_, HX.out.2.1.near' hn9 (by omega) (fun hx => by have := HJ.out.2.2 _ hx; omega), ?_⟩
      · obtain ⟨e1, A1, c1, e2, hb1, hl1⟩ := HX.out.1 t ht
        exact ⟨e1, A1, c1, e2, Bytes.near hb1 hn9 (fun ad e => by have := hl1 ad e; simp; omega), fun ad e => by have := hl1 ad e; omega⟩
      · exact (((Near.below H2.out.2.2.1 : Near [gj] w w2).mix HX.out.2.2.1 (fun y hy => by simp at hy; rcases hy with rfl | rfl; exact .inl (by simp); exact .inr (by omega))).mix hn9 (fun y hy => .inr (by rw [List.mem_singleton.1 hy]; exact Nat.le_refl _)))
end
end Go.Proofs.YtfoegmjpfkmggaaGreatDoor

/- The document's numbers out of bytes (its package of headers): at. Conditions: the bytes can be read. -/
namespace Go.Proofs.YtfoegmjpfkmggaaGreatDoor
open Go.RowKit
/-- A number's first byte and the rest. -/
theorem lpart_head (l : List UInt8) (p : Nat) : ∀ k, lpart l p (k + 1) = (l.getD p 0).toNat + 256 * lpart l (p + 1) k
  | 0 => by simp [lpart]
  | k + 1 => by
    rw [lpart, lpart_head l p k, lpart, Nat.mul_add, Nat.pow_succ, show p + (k + 1) = p + 1 + k by omega]
    have e : (l.getD (p + 1 + k) 0).toNat * (256 ^ k * 256) = 256 * ((l.getD (p + 1 + k) 0).toNat * 256 ^ k) := by rw [Nat.mul_comm (256 ^ k) 256, ← Nat.mul_assoc, Nat.mul_comm _ 256, Nat.mul_assoc]
    omega
theorem lpart_4 (l : List UInt8) (p : Nat) : lpart l p 4 = at4 l p := by
  unfold at4 un4
  simp only [lpart, Nat.reducePow, Nat.add_zero]
  omega
/-- One more byte, from the highest on. -/
theorem hiU (V : Nat) (hV : V < 256 ^ 7) (x : UInt8) : bits .or .u64 (IntKind.u64.wrap ((V : Int) * 256)) (IntKind.u64.wrap (iu8 x)) = ((x.toNat + 256 * V : Nat) : Int) := by
  have hx := x.toNat_lt
  have e1 : IntKind.u64.wrap (iu8 x) = (x.toNat : Int) := IntWalk.u64_in _ (by unfold iu8; omega)
  have e2 : IntKind.u64.wrap ((V : Int) * 256) = ((V * 256 : Nat) : Int) := by rw [IntWalk.u64_in _ (by omega)]; simp
  rw [e1, e2, u64_or_nat _ _ (by omega) (by omega)]
  congr 1
  rw [Nat.or_comm, or_sum x.toNat V 8 256 (by rfl) (by omega)]
  omega
def AtRel (w : World) (l : List UInt8) (p n : Nat) (v i : Value) (wr : World) : Prop := ∃ k : Nat, k ≤ n ∧ v = .int .u64 (lpart l (p + k) (n - k) : Nat) ∧ i = .int .i64 ((k : Int) - 1) ∧ wr = w
set_option maxRecDepth 100000 in
set_option maxHeartbeats 1000000 in
theorem rat_any (A : Option Addr) (N c : Nat) (l : List UInt8) (p n : Nat) (hn : n ≤ 8) (hp : p + n ≤ l.length) (hN : N = l.length) (h0 : 0 < N) (hN2 : N ≤ 65536) (w : World) (hb : Bytes w A l) :
    Calls Tryz.prog 88 #[.slice A N c, .int .i64 (p : Int), .int .i64 (n : Int)] w fun e w' => e = .returned (.int .u64 (lpart l p n : Nat)) ∧ w' = w := by
  obtain ⟨b, off, rfl, hbl, hc⟩ := hb.at_ (by omega)
  have HN := Lib.hid (And.intro hn (And.intro hp (And.intro hN hN2)))
  have HC := Lib.hid hc
  have hn1 : wrap64 ((n : Int) - 1) = (n : Int) - 1 := by unfold wrap64; omega
  clear hb hn hp hN h0 hN2 hbl hc
  go_enter Tryz.func88, Tryz.ntmps88
  go_wp2_with fail
  have HW := Lib.hid hn1
  clear hn1
  go_loopw [7, 8] (fun v i wr => AtRel w l p n v i wr) (fun _ i _ => (intOf i + 1).toNat)
  case atStart => exact ⟨n, Nat.le_refl _, by rw [Nat.sub_self]; rfl, by rw [HW.out], rfl⟩
  case round =>
    obtain ⟨k, hk, rfl, rfl, rfl⟩ := hrel
    cases k with
    | zero =>
      clear hk
      go_wp2
      go_ret
      exact ⟨rfl, rfl⟩
    | succ j =>
      have hpj : p + j < l.length := by have := HN.out.1; have := HN.out.2.1; omega
      have d0 := HC.out (p + j) hpj
      have e1 : wrap64 ((p : Int) + (j : Int)) = ((p + j : Nat) : Int) := by have := HN.out; unfold wrap64; omega
      have e2 : wrap64 ((j : Int) - 1) = (j : Int) - 1 := by have := HN.out; unfold wrap64; omega
      have e3 : (p + j : Nat) < N := by rw [HN.out.2.2.1]; exact hpj
      have e4 := hiU (lpart l (p + (j + 1)) (n - (j + 1))) (Nat.lt_of_lt_of_le (lpart_lt _ _ _) (Nat.pow_le_pow_right (by omega) (by have := HN.out.1; omega))) (l.getD (p + j) 0)
      have e5 := lpart_head l (p + j) (n - (j + 1))
      rw [show n - (j + 1) + 1 = n - j by omega, show p + j + 1 = p + (j + 1) by omega] at e5
      rw [← e5] at e4
      have e0 : ((j + 1 : Nat) : Int) - 1 = (j : Int) := by omega
      rw [e0]
      clear e5 hpj
      go_wp2_with fail
      exact ⟨⟨j, by omega, by rw [← e4, List.getD_eq_getElem?_getD], by rw [e2], rfl⟩, by rw [e2]; simp only [intOf]; omega⟩
end Go.Proofs.YtfoegmjpfkmggaaGreatDoor

/- A number of 128 bits out of bytes, by the document: of, Read. Conditions: sixteen bytes, that can be read. -/
namespace Go.Proofs.YtfoegmjpfkmggaaGreatDoor
open Go.RowKit
theorem _root_.Go.Near.cellR {X : List Nat} {w w' : World} (k : Near X w w') {g o : Nat} (hg : g ∉ X) {v : Value} (h : w.cell? ⟨g, o, none⟩ = some v) : w'.cell? ⟨g, o, none⟩ = some v := by
  rw [k.cell (World.block_lt_of_cell? _ _ h) hg]; exact h
def OfRel (w : World) (g : Nat) (l : List UInt8) (i : Value) (wr : World) : Prop := ∃ k : Nat, k ≤ 8 ∧ i = .int .i64 ((k : Int) - 1) ∧ Blk wr g 36 (u128c (lpart l (8 + k) (8 - k)) (lpart l k (8 - k))) ∧ Near [g] w wr
set_option maxRecDepth 100000 in
set_option maxHeartbeats 2000000 in
theorem rof_any (l : List UInt8) (h16 : l.length = 16) (w : World) :
    Calls Tryz.prog 122 #[.agg (l.map u8v).toArray] w fun e w' => e = .returned (.agg (u128c (at8 l 8) (at8 l 0))) ∧ Below w.heap.size w w' := by
  have hz : ((w.alloc (.cells (l.map u8v).toArray 150)).alloc (.cells #[.int .u64 0, .int .u64 0] 36)).heap.size = w.heap.size + 2 := by simp
  have k1 := ((Blk.new w 150 (l.map u8v).toArray).alloc (.cells #[.int .u64 0, .int .u64 0] 36)).alloc (.cells #[.int .u64 0, .int .u64 0] 36)
  have k2 := (Blk.new' (w.alloc (.cells (l.map u8v).toArray 150)) 36 #[.int .u64 0, .int .u64 0] (n := w.heap.size + 1) (by simp)).alloc (.cells #[.int .u64 0, .int .u64 0] 36)
  have k3 := Blk.new' ((w.alloc (.cells (l.map u8v).toArray 150)).alloc (.cells #[.int .u64 0, .int .u64 0] 36)) 36 #[.int .u64 0, .int .u64 0] (n := w.heap.size + 2) (by simp)
  have hB := (((Below.refl w.heap.size w).alloc (Nat.le_refl _) (.cells (l.map u8v).toArray 150)).alloc (by simp) (.cells #[.int .u64 0, .int .u64 0] 36)).alloc (by simp; omega) (.cells #[.int .u64 0, .int .u64 0] 36)
  have H0 := Lib.hid (And.intro k1 (And.intro k2 (And.intro k3 (And.intro hB h16))))
  clear k1 k2 k3 hB hz h16
  go_enter Tryz.func122, Tryz.ntmps122
  go_wp2_with fail
  simp only [show w.heap.size + 1 + 1 = w.heap.size + 2 from rfl]
  generalize ((w.alloc (.cells (l.map u8v).toArray 150)).alloc (.cells #[.int .u64 0, .int .u64 0] 36)).alloc (.cells #[.int .u64 0, .int .u64 0] 36) = w3 at H0 ⊢
  go_loopw [4] (fun i wr => OfRel w3 (w.heap.size + 2) l i wr) (fun i _ => (intOf i + 1).toNat)
  case atStart => exact ⟨8, Nat.le_refl _, rfl, H0.out.2.2.1, Near.refl _ _⟩
  case round =>
    obtain ⟨k, hk, rfl, hb, hn⟩ := hrel
    have HR := Lib.hid (And.intro hb hn)
    clear hb hn
    cases k with
    | zero =>
      clear hk
      have h3 := (HR.out.1.sub (show u128c (lpart l (8 + 0) (8 - 0)) (lpart l 0 (8 - 0)) = u128c (at8 l 8) (at8 l 0) by rw [← lpart_8, ← lpart_8]))
      have h2 := H0.out.2.1.near HR.out.2 (by simp)
      have hb := H0.out.2.2.2.1
      have hs : w3.heap.size ≤ wr.heap.size := HR.out.2.size
      have hB : Below w.heap.size w wr := hb.trans (HR.out.2.toBelow (fun x hx => by rw [List.mem_singleton.1 hx]; omega) hb.size)
      have HE := Lib.hid hB
      clear HR H0 hb hs hB
      go_wp2_with (first
        | ((with_reducible show wpList _ _ _ ((⟨some 28, _, _, _, _, _⟩ : Oper) :: _) _ _); refine wpList_load_blk (o := ⟨some 28, _, _, _, _, _⟩) (h3) (by rfl) _ _ (by rfl) (by rfl) _ Tryz.underlying36 (by rfl) (sizeU) (by rfl) ?_)
        | ((with_reducible show wpList _ _ _ ((⟨none, _, _, _, _, _⟩ : Oper) :: _) _ _); refine wpList_store_blk (o := ⟨none, _, _, _, _, _⟩) (h2) (by rfl) _ _ _ (by rfl) (by rfl) (u128c (at8 l 8) (at8 l 0)) (by rfl) (sizeU) (by rfl) (by rfl) (by simp [u128c, Value.oneCell']) ?_; intro w9 h9 hu9)
        | fail)
      refine bodyPost_ret (results_row1 (by rfl) _ _ (w.heap.size + 1) _ _ _ (by rfl) h9 Tryz.underlying36 (by rfl) (by exact sizeU)) rfl ⟨rfl, HE.out.upd hu9 (by omega)⟩
    | succ j =>
      have e0 : ((j + 1 : Nat) : Int) - 1 = (j : Int) := by omega
      rw [e0]
      have e2 : wrap64 ((j : Int) - 1) = (j : Int) - 1 := by unfold wrap64; omega
      have e3 : wrap64 (8 + (j : Int)) = ((8 + j : Nat) : Int) := by unfold wrap64; omega
      have hj8 : j < 8 := by omega
      have cb : ∀ i, i < 16 → wr.cell? ⟨w.heap.size, i, none⟩ = some (.int .u8 (iu8 (l.getD i 0))) := fun i hi => by
        have h1 := H0.out.2.2.2.2
        rw [(H0.out.1.near HR.out.2 (by simp)).cell, List.getElem?_toArray, List.getElem?_map, List.getElem?_eq_getElem (by omega), List.getD_eq_getElem?_getD, List.getElem?_eq_getElem (by omega)]
        rfl
      have b0 := cb j (by omega)
      have b8 := cb (8 + j) (by omega)
      have f1 := HR.out.1.frozen 1
      have f0 := HR.out.1.frozen 0
      have hpow : (256 : Nat) ^ (8 - (j + 1)) ≤ 256 ^ 7 := Nat.pow_le_pow_right (by omega) (by omega)
      have x1 := hiU (lpart l (j + 1) (8 - (j + 1))) (Nat.lt_of_lt_of_le (lpart_lt _ _ _) hpow) (l.getD j 0)
      have x2 := hiU (lpart l (8 + (j + 1)) (8 - (j + 1))) (Nat.lt_of_lt_of_le (lpart_lt _ _ _) hpow) (l.getD (8 + j) 0)
      have y1 := lpart_head l j (8 - (j + 1))
      have y2 := lpart_head l (8 + j) (8 - (j + 1))
      rw [show 8 - (j + 1) + 1 = 8 - j by omega] at y1 y2
      rw [show 8 + j + 1 = 8 + (j + 1) by omega] at y2
      rw [← y1] at x1
      rw [← y2] at x2
      have hlo := lpart_lt l j (8 - j)
      obtain ⟨lo, hlo0⟩ : ∃ lo, lo = lpart l (j + 1) (8 - (j + 1)) := ⟨_, rfl⟩
      obtain ⟨hi, hhi0⟩ : ∃ hi, hi = lpart l (8 + (j + 1)) (8 - (j + 1)) := ⟨_, rfl⟩
      obtain ⟨lo', hlo1⟩ : ∃ lo', lo' = lpart l j (8 - j) := ⟨_, rfl⟩
      obtain ⟨hi', hhi1⟩ : ∃ hi', hi' = lpart l (8 + j) (8 - j) := ⟨_, rfl⟩
      obtain ⟨p0, hp0⟩ : ∃ p0, p0 = l.getD j 0 := ⟨_, rfl⟩
      obtain ⟨p8, hp8⟩ : ∃ p8, p8 = l.getD (8 + j) 0 := ⟨_, rfl⟩
      rw [← hp0] at b0 x1
      rw [← hp8] at b8 x2
      rw [← hlo0, ← hlo1] at x1
      rw [← hhi0, ← hhi1] at x2
      have hgb : Blk wr (w.heap.size + 2) 36 (u128c hi lo) := by rw [hhi0, hlo0]; exact HR.out.1
      have c1 := hgb.at_ 1 (v := .int .u64 (lo : Nat)) rfl
      have c0 := hgb.at_ 0 (v := .int .u64 (hi : Nat)) rfl
      have HX := Lib.hid (And.intro hgb (And.intro HR.out.2 (And.intro hlo1 hhi1)))
      clear e0 cb hpow y1 y2 hlo hlo0 hhi0 hlo1 hhi1 hp0 hp8 hgb HR
      go_wp2_with fail
      refine wp_region_tail 9 (by kernel_rfl) (by kernel_rfl) ?_
      simp only [List.take_succ_cons, List.take_zero, List.drop_succ_cons, List.drop_zero]
      repeat (go_big_quiet_step (fail))
      refine wpQuiet_nil ?_
      go_wp2_with fail
      have hu1 := (Upd.refl (w.heap.size + 2) wr).set 1 (.int .u64 (lo' : Nat))
      have g1 := ((HX.out.1.set_ 1 (.int .u64 (lo' : Nat))).sub (show _ = u128c hi lo' from rfl)).drew
      have n1 : Near [w.heap.size + 2] w3 (wr.setCell ⟨w.heap.size + 2, 1, none⟩ (.int .u64 (lo' : Nat))).drew := (HX.out.2.1.trans (Near.upd hu1 (List.mem_singleton_self _))).drew
      have b8' : (wr.setCell ⟨w.heap.size + 2, 1, none⟩ (.int .u64 (lo' : Nat))).drew.cell? ⟨w.heap.size, 8 + j, none⟩ = some (.int .u8 (iu8 p8)) := ((Near.upd hu1 (List.mem_singleton_self _) : Near [w.heap.size + 2] _ _).drew).cellR (by simp) b8
      have HX1 := Lib.hid (And.intro g1 n1)
      generalize (wr.setCell ⟨w.heap.size + 2, 1, none⟩ (.int .u64 (lo' : Nat))).drew = w4 at g1 b8' HX1 ⊢
      clear hu1 n1 c0 c1 b0 b8 f0 f1
      have c0 := g1.at_ 0 (v := .int .u64 (hi : Nat)) rfl
      have f0 := g1.frozen 0
      clear g1
      refine wp_region_tail 10 (by kernel_rfl) (by kernel_rfl) ?_
      simp only [List.take_succ_cons, List.take_zero, List.drop_succ_cons, List.drop_zero]
      repeat (go_big_quiet_step (fail))
      refine wpQuiet_nil ?_
      go_wp2_with fail
      have hu2 := (Upd.refl (w.heap.size + 2) w4).set 0 (.int .u64 (hi' : Nat))
      have g2 := ((HX1.out.1.set_ 0 (.int .u64 (hi' : Nat))).sub (show _ = u128c hi' lo' from rfl)).drew
      refine ⟨⟨j, by omega, rfl, ?_, (HX1.out.2.trans (Near.upd hu2 (List.mem_singleton_self _))).drew⟩, by simp only [intOf]; omega⟩
      rw [← HX.out.2.2.1, ← HX.out.2.2.2]
      exact g2
def RrRel (w : World) (g : Nat) (l : List UInt8) (i : Value) (wr : World) : Prop := ∃ k : Nat, k ≤ 16 ∧ i = .int .i64 (k : Int) ∧ Blk wr g 150 (arr 16 fun t => if t < k then u8v (l.getD t 0) else .int .u8 0) ∧ Near [g] w wr
theorem arr_u8 (l : List UInt8) (n : Nat) (h : l.length = n) : (arr n fun t => if t < n then u8v (l.getD t 0) else .int .u8 0) = (l.map u8v).toArray := by
  subst h
  apply Array.ext_getElem?
  intro k
  rw [arr_get, List.getElem?_toArray, List.getElem?_map]
  by_cases hk : k < l.length
  · rw [if_pos hk, if_pos hk, List.getElem?_eq_getElem hk, List.getD_eq_getElem?_getD, List.getElem?_eq_getElem hk]; rfl
  · rw [if_neg hk, List.getElem?_eq_none (by omega)]; rfl
set_option maxRecDepth 100000 in
set_option maxHeartbeats 2000000 in
theorem ruread_any (A : Option Addr) (c : Nat) (l : List UInt8) (h16 : l.length = 16) (w : World) (hb : Bytes w A l) :
    Calls Tryz.prog 89 #[.slice A 16 c] w fun e w' => e = .returned (.tuple #[.agg (u128c (at8 l 8) (at8 l 0)), .int .i64 0]) ∧ Below w.heap.size w w' := by
  obtain ⟨b, off, rfl, hbl, hc⟩ := hb.at_ (by omega)
  have k1 := (Blk.new w 36 #[.int .u64 0, .int .u64 0]).alloc (.cells zero16 150)
  have k2 := Blk.new' (w.alloc (.cells #[.int .u64 0, .int .u64 0] 36)) 150 zero16 (n := w.heap.size + 1) (by simp)
  have hB := ((Below.refl w.heap.size w).alloc (Nat.le_refl _) (.cells #[.int .u64 0, .int .u64 0] 36)).alloc (by simp) (.cells zero16 150)
  have H0 := Lib.hid (And.intro k1 (And.intro k2 (And.intro hB (And.intro h16 (And.intro hbl hc)))))
  have a16 := alloc16
  clear k1 k2 hB hb hbl hc
  go_enter Tryz.func89, Tryz.ntmps89
  go_wp2_with fail
  clear a16
  generalize (w.alloc (.cells #[.int .u64 0, .int .u64 0] 36)).alloc (.cells zero16 150) = w3 at H0 ⊢
  go_loopw [5] (fun i wr => RrRel w3 (w.heap.size + 1) l i wr) (fun i _ => 16 - (intOf i).toNat)
  case atStart => exact ⟨0, Nat.zero_le _, rfl, H0.out.2.1, Near.refl _ _⟩
  case round =>
    obtain ⟨k, hk, rfl, hb, hn⟩ := hrel
    have HR := Lib.hid (And.intro hb hn)
    clear hb hn
    by_cases hlt : k < 16
    · have hk2 : k < l.length := by have := H0.out.2.2.2.1; omega
      have cb : wr.cell? ⟨b, off + k, none⟩ = some (.int .u8 (iu8 (l.getD k 0))) := by
        have h3 := (H0.out.2.2.1.cell (p := ⟨b, off + k, none⟩) H0.out.2.2.2.2.1).trans (H0.out.2.2.2.2.2 k hk2)
        exact HR.out.2.cellR (by have := H0.out.2.2.2.2.1; simp; omega) h3
      have ck := HR.out.1.at_ k (v := .int .u8 0) (by rw [arr_at _ hlt, if_neg (by omega)])
      have fk := HR.out.1.frozen k
      obtain ⟨x, hx⟩ : ∃ x, x = l.getD k 0 := ⟨_, rfl⟩
      rw [← hx] at cb
      have HXX := Lib.hid hx
      clear hk2 hx
      go_wp2_with fail
      have hu := (Upd.refl (w.heap.size + 1) wr).set k (.int .u8 (iu8 x))
      have g1 := (HR.out.1.set_ k (.int .u8 (iu8 x))).sub (show _ = arr 16 (fun t => if t < k + 1 then u8v (l.getD t 0) else .int .u8 0) by
        rw [arr_set]
        apply arr_congr
        intro t ht
        by_cases e : t = k
        · subst e; rw [if_pos rfl, if_pos (by omega), HXX.out]; rfl
        · rw [if_neg e]
          by_cases h2 : t < k
          · rw [if_pos h2, if_pos (by omega)]
          · rw [if_neg h2, if_neg (by omega)])
      exact ⟨⟨k + 1, by omega, by go_num, g1, HR.out.2.trans (Near.upd hu (List.mem_singleton_self _))⟩, by simp [intOf]; omega⟩
    · obtain rfl : k = 16 := by omega
      have h3 := HR.out.1.sub (arr_u8 l 16 h16)
      have h2 := H0.out.1.near HR.out.2 (by simp)
      have hb := H0.out.2.2.1
      have hB : Below w.heap.size w wr := hb.trans (HR.out.2.toBelow (fun x hx => by rw [List.mem_singleton.1 hx]; omega) hb.size)
      have HE := Lib.hid (And.intro hB (And.intro h2 h16))
      clear HR H0 hb hB hlt hk h2
      go_wp2_with (first
        | ((with_reducible show wpList _ _ _ ((⟨some 20, _, _, _, _, _⟩ : Oper) :: _) _ _); refine wpList_load_blk (o := ⟨some 20, _, _, _, _, _⟩) (h3) (by rfl) _ _ (by rfl) (by rfl) _ Tryz.underlying150 (by rfl) (size16) (by simp [HE.out.2.2]) ?_)
        | fail)
      refine (rof_any l HE.out.2.2 wr).mono ?_
      rintro e w4 ⟨rfl, hb4⟩
      have h4 := HE.out.2.1.below hb4 HE.out.2.1.lt
      have HF := Lib.hid (HE.out.1.trans (hb4.mono HE.out.1.size))
      clear hb4 h3
      go_wp2_with (first
        | ((with_reducible show wpList _ _ _ ((⟨none, _, _, _, _, _⟩ : Oper) :: _) _ _); refine wpList_store_blk (o := ⟨none, _, _, _, _, _⟩) (h4) (by rfl) _ _ _ (by rfl) (by rfl) (u128c (at8 l 8) (at8 l 0)) (by rfl) (sizeU) (by rfl) (by rfl) (by simp [u128c, Value.oneCell']) ?_; intro w9 h9 hu9)
        | fail)
      refine bodyPost_ret (results_row_tmp (by rfl) _ _ w.heap.size _ _ _ (by rfl) h9 Tryz.underlying36 (by rfl) (by exact sizeU)) rfl ⟨rfl, HF.out.upd hu9 (Nat.le_refl _)⟩
end Go.Proofs.YtfoegmjpfkmggaaGreatDoor

/- What the document's function answers that opens sealed bytes. Conditions: the bytes can be read; they are at most 2^47 - 5000. -/
namespace Go
open Go.RowKit
namespace Proofs.YtfoegmjpfkmggaaGreatDoor
set_option maxHeartbeats 400000 in
theorem ropen_any (A : Option Addr) (n c : Nat) (l : List UInt8) (hn : n = l.length) (hc : l.length ≤ c) (hc2 : l.length ≤ 140737488351232 ∧ c ≤ 9223372036854775807) (w : World) (hb : Bytes w A l) :
    Calls Tryz.prog 87 #[.slice A n c] w fun e w' => ∃ v, e = .returned (.tuple #[v, .int .i64 (Sha.opened l).1]) ∧ (∃ sp, OwnB 5 w' w.heap.size v (Sha.opened l).2 sp) ∧ Below w.heap.size w w' := by
  subst hn
  go_enter Tryz.func87, Tryz.ntmps87
  by_cases h16 : l.length < 16
  · have ho : Sha.opened l = (4, []) := by unfold Sha.opened; rw [if_pos h16]
    rw [ho]
    go_wp2
    go_ret2
    exact ⟨_, rfl, ⟨[], OwnsC.nil _ _ _ _⟩, Below.refl _ _⟩
  · have ho : Sha.opened l = if Sha.sum (l.drop 16) = l.take 16 then (0, l.drop 16) else (12, []) := by unfold Sha.opened; rw [if_neg h16]
    have HO := Lib.hid ho
    clear ho
    obtain ⟨T, hT⟩ : ∃ T, T = l.take 16 := ⟨_, rfl⟩
    obtain ⟨D, hD⟩ : ∃ D, D = l.drop 16 := ⟨_, rfl⟩
    have hTl : T.length = 16 := by rw [hT]; simp; omega
    have hDl : D.length = l.length - 16 := by rw [hD]; simp
    rw [← hT, ← hD] at HO
    have hbT : Bytes w A T := by rw [hT]; exact hb.take 16
    have HD := Lib.hid hD
    have HDL := Lib.hid hDl
    have HTL := Lib.hid hTl
    clear hT hD hDl hTl
    have a16 := alloc16
    go_wp2_with (first
      | (show wpList _ _ _ ((⟨some 9, _, _, _, _, _⟩ : Oper) :: _) _ _; refine wpList_cut_bytes (o := ⟨some 9, _, _, _, _, _⟩) (by rfl) _ _ _ (by rfl) _ Tryz.underlying39 size1 A l.length c .i64 16 (by rfl) (by rfl) l rfl (by omega) hc hb ?_; intro A3 hl3 _; rw [← HD.out] at hl3 ⊢)
      | fail)
    refine (rsum_any A3 (c - 16) D (by have := HDL.out; omega) (by have := HDL.out; omega) w hl3).mono ?_
    rintro e w1 ⟨rfl, hb1⟩
    have hs16 := Sha.sum_length D
    obtain ⟨S, hS⟩ : ∃ S, S = Sha.sum D := ⟨_, rfl⟩
    rw [← hS] at hs16 ⊢ HO
    clear hS
    have hz := Blk.new w1 150 zero16
    have hbz := hb1.alloc hb1.size (.cells zero16 150)
    go_wp2_with (first
      | (show wpList _ _ _ ((⟨none, _, _, _, _, _⟩ : Oper) :: _) _ _; refine wpList_store_blk (o := ⟨none, _, _, _, _, _⟩) hz (by rfl) _ _ _ (by rfl) (by rfl) (S.map u8v).toArray (by rfl) size16 (arr_size _ _) (by simp [hs16]) (u8_all _) ?_; intro w2 h2 hu2; have hb2 := hbz.upd hu2 hb1.size; have hT2 := Bytes.below hbT hb2; have hl2 := Bytes.below hb hb2; have hS2 := h2.bytes; have hsz2 := hb2.size; clear hu2 hbz hz h2)
      | fail)
    simp only [Act.put]
    refine wp_region_mix (fun w' => w' = w2.drew) [0, 2, 3] [1, 4] 5 [] (by kernel_rfl) (by kernel_rfl) (fun c a a' w h q => ⟨h ▸ q.1, q.2⟩) rfl ?_
    dsimp only [List.filterMap, List.getElem?_cons_zero, List.getElem?_cons_succ]
    repeat (go_big_quiet_step (fail))
    refine wpQuiet_nil ?_
    refine wpQuiet_convert_str (by rfl) 39 9 5 _ (by rfl) Tryz.underlying39 Tryz.underlying5 Tryz.underlying9 (some ⟨w1.heap.size, 0, none⟩) 16 16 S (by rfl) hs16.symm (fun w' hw' => by subst hw'; exact hS2) ?_
    simp only [Act.put, List.setIfInBounds_toArray, List.set_cons_zero, List.set_cons_succ]
    refine wpQuiet_convert_str (by rfl) 39 9 5 _ (by rfl) Tryz.underlying39 Tryz.underlying5 Tryz.underlying9 A 16 c T (by rfl) HTL.out.symm (fun w' hw' => by subst hw'; exact hT2) ?_
    simp only [Act.put, List.setIfInBounds_toArray, List.set_cons_zero, List.set_cons_succ]
    refine wpQuiet_nil ?_
    rintro w3 rfl
    have hbq := str_beq S T
    have hb2d := hb2.trans (Below.refl _ _).drew
    have hl2d : Bytes w2.drew A l := hl2
    clear hS2 hT2 hl2 hl3
    by_cases he : S = T
    · rw [decide_eq_true he] at hbq
      rw [if_pos he] at HO
      have hb3 := hb2d.alloc hb2d.size (.cells #[] 5)
      have ho3 := OwnB.lit0 (e := 5) w2.drew hb2d.size
      have hl3 := Bytes.below hb hb3
      have hsz3 := hb3.size
      go_wp2_with (first
        | (show wpList _ _ _ ((⟨some 19, _, _, _, _, _⟩ : Oper) :: _) _ _; refine wpList_cut_bytes (o := ⟨some 19, _, _, _, _, _⟩) (by rfl) _ _ _ (by rfl) _ Tryz.underlying39 size1 A l.length c .i64 16 (by rfl) (by rfl) l rfl (by omega) hc hl3 ?_; intro A4 hl4 _; rw [← HD.out] at hl4 ⊢)
        | (show wpList _ _ _ ((⟨some 20, _, _, _, _, _⟩ : Oper) :: _) _ _; refine wpList_append_bytes (o := ⟨some 20, _, _, _, _, _⟩) (by rfl) _ _ _ (by rfl) w.heap.size _ Tryz.underlying39 u8info (.slice (some ⟨w2.drew.heap.size, 0, none⟩) 0 0) [] [] (by rfl) ho3 A4 (c - 16) D (by rfl) hl4 (by have := HDL.out; simp; omega) hsz3 ?_; intro v4 w4 sp4 ho4 hg4 _ _; have hb4 := hb3.grown hg4 hsz3 (fun k hk => (OwnsC.lt ho3 k hk).1); clear hl3 hb3 hg4)
        | fail)
      go_ret2
      rw [HO.out]
      exact ⟨v4, rfl, ⟨sp4, by simpa using ho4⟩, hb4⟩
    · rw [decide_eq_false he] at hbq
      rw [if_neg he] at HO
      go_wp2_with fail
      go_ret2
      rw [HO.out]
      exact ⟨_, rfl, ⟨[], OwnsC.nil _ _ _ _⟩, hb2d⟩
end Proofs.YtfoegmjpfkmggaaGreatDoor
end Go
