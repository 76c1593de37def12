/- []byte(s) of a string that is no constant. Plain facts over any program. No condition. -/
import Derived.Test.YtfoegmjpfkmggaaGreatDoorMJournalTurned15
import Derived.Lib.ConvBytes
import Derived.Test.YtfoegmjpfkmggaaGreatDoorProg
namespace Go
open Go.RowKit
theorem bytesWorld_below (w : World) (e : TypeId) (s : ByteArray) : Below w.heap.size w (Lib.bytesWorld w e s) :=
  ⟨by simp [Lib.bytesWorld, World.freeze, World.alloc, World.drew, -World.alloc_eq, -World.drew_eq], by simp [Lib.bytesWorld, World.freeze, World.alloc, World.drew, -World.alloc_eq, -World.drew_eq], by simp [Lib.bytesWorld, World.freeze, World.alloc, World.drew, -World.alloc_eq, -World.drew_eq], by rw [Lib.bytesWorld_size]; omega, fun k hk => Lib.bytesWorld_at_old w e s k hk⟩
theorem bytesWorld_bytes (w : World) (e : TypeId) (l : List UInt8) : Bytes (Lib.bytesWorld w e (str l)) (some ⟨w.heap.size, 0, none⟩) l := fun _ => ⟨w.heap.size, 0, rfl, fun j v hv => by
  rw [List.getElem?_map] at hv
  have hj : j < l.length := by
    rcases Nat.lt_or_ge j l.length with h | h
    · exact h
    · rw [List.getElem?_eq_none h] at hv; cases hv
  rw [Nat.zero_add, Lib.bytesWorld_cell w e (str l) j (by simpa [str, ByteArray.size] using hj)]
  rw [List.getElem?_eq_getElem hj] at hv
  rw [← hv]
  simp [str, List.getD, List.getElem?_eq_getElem hj, u8v, iu8]⟩
end Go

/- What the statements on journals share: a fresh ring, a prepare, is an op answered by just this, are all slots empty. Conditions: the journal is known. (Printed by gen/jq.py.) -/
namespace Go
open Go.RowKit
theorem wpList_str_bytes' {P : Program} {w : World} {Q : Exit → Act → World → Prop} {ops : Array Oper} {rest : List Oper} {o : Oper} {a : Act} (hgd : o.guard = none) (src dst e : TypeId) (x : Operand) (ho : o.op = .convert src dst x)
    (hs : P.underlying src = some .string) (hd : P.underlying dst = some (.slice e)) (he : P.underlying e = some (.int .u8)) (l : List UInt8) (hl : l.length ≤ 140737488351232) (hx : a.eval x = .string (str l))
    (h : ∀ w' c, Bytes w' (some ⟨w.heap.size, 0, none⟩) l → Below w.heap.size w w' → (l.length ≤ c ∧ w'.heap.size = w.heap.size + 1) → c ≤ 9223372036854775807 → wpList P ops Q rest (a.put o.dst (.slice (some ⟨w.heap.size, 0, none⟩) l.length c)) w') : wpList P ops Q (o :: rest) a w := by
  refine wpList_plain hgd fun K hK => ?_
  unfold Oper.wp execOp
  have hr := Lib.run_convert_string_bytes (P := P) w src dst e (str l) hs hd he
  simp only [ho, hx, Sem.run_bind, hr, Result.andThen_ok, Sem.run_pure]
  have hsz : (str l).size = l.length := by simp [str, ByteArray.size]
  have h1 := grownCap_ge w (str l).size 0 e
  have h2 := grownCap_le_maxLen w (str l).size 0 e (by rw [hsz]; unfold maxLen; omega)
  rw [hsz] at h1 h2 ⊢
  unfold maxLen at h2
  exact hK _ _ (h _ _ (bytesWorld_bytes w e l) (bytesWorld_below w e (str l)) ⟨h1, Lib.bytesWorld_size w e (str l)⟩ (by omega))
end Go
namespace Go.Proofs.YtfoegmjpfkmggaaGreatDoor
open Go.RowKit
/-- The prepare of an op and a view, with a body of n bytes. -/
def jm (op vw : Int) (n : Nat) : HdF := setF (fP op vw) 2 n
theorem jm_cells (op vw : Int) (n : Nat) (v : Value) : msgc (jm op vw n) v = #[.int .i64 2, .int .i64 0, .int .i64 n, .int .i64 vw, .int .i64 0, .int .i64 op, .int .i64 0, .int .i64 0, .int .i64 0, .int .u64 0, .int .u64 0, .int .i64 0, .int .i64 0, .int .u64 0, .int .i64 0, .int .i64 0, v] := by rfl
set_option maxRecDepth 100000 in
set_option maxHeartbeats 1000000 in
theorem jprep_any (op vw : Int) (bs : List UInt8) (hb : bs.length ≤ 1000000) (w : World) :
    Calls Tryz.prog 23 #[.int .i64 op, .int .i64 vw, .string (str bs)] w fun e w' => ∃ g c, e = .returned (.agg (msgc (jm op vw bs.length) (.slice (some ⟨g, 0, none⟩) bs.length c))) ∧
      (w.heap.size ≤ g ∧ g < w'.heap.size) ∧ Bytes w' (some ⟨g, 0, none⟩) bs ∧ (bs.length ≤ c ∧ c ≤ 9223372036854775807) ∧ Below w.heap.size w w' := by
  have hB := (Below.refl w.heap.size w).alloc (Nat.le_refl _) (.cells #[.int .i64 0, .int .i64 0, .int .i64 0, .int .i64 0, .int .i64 0, .int .i64 0, .int .i64 0, .int .i64 0, .int .i64 0, .int .u64 0, .int .u64 0, .int .i64 0, .int .i64 0, .int .u64 0, .int .i64 0, .int .i64 0, .slice none 0 0] 41)
  have hg0 := (Blk.new w 41 #[.int .i64 0, .int .i64 0, .int .i64 0, .int .i64 0, .int .i64 0, .int .i64 0, .int .i64 0, .int .i64 0, .int .i64 0, .int .u64 0, .int .u64 0, .int .i64 0, .int .i64 0, .int .u64 0, .int .i64 0, .int .i64 0, .slice none 0 0]).sub zeroMsg_cells.symm
  have hsz : (str bs).size = bs.length := by simp [str, ByteArray.size]
  have H0 := Lib.hid (And.intro hB hb)
  clear hB hb
  go_enter Tryz.func23, Tryz.ntmps23
  go_wp2_with (first
    | ((with_reducible show wpList _ _ _ ((⟨some 13, _, _, _, _, _⟩ : Oper) :: _) _ _); refine wpList_str_bytes' (o := ⟨some 13, _, _, _, _, _⟩) (by rfl) _ _ 5 _ (by rfl) Tryz.underlying9 Tryz.underlying39 Tryz.underlying5 bs (by have := H0.out.2; omega) (by rfl) ?_; intro w3 c3 hb3 hB3 hc3 hd3; have hg3 := hg0.below hB3 (by simp); have H3 := Lib.hid (And.intro hb3 (And.intro hc3 (And.intro hd3 hB3))); clear hb3 hB3 hc3 hd3 hg0; (try rw [hsz]); clear hsz)
    | (rw [← jm_cells]; ((with_reducible show wpList _ _ _ ((⟨none, _, _, _, _, _⟩ : Oper) :: _) _ _); refine wpList_store_blk (o := ⟨none, _, _, _, _, _⟩) (hg3) (by rfl) _ _ _ (by rfl) (by rfl) (msgc (jm op vw bs.length) (.slice (some ⟨w.heap.size + 1, 0, none⟩) bs.length c3)) (by rfl) (sizeMsg) (by rfl) (msgc_size _ _) (msgc_one _ _ rfl) ?_; intro w9 h9 hu9))
    | fail)
  refine bodyPost_ret (results_row1 (by rfl) _ _ w.heap.size _ _ _ (by rfl) h9 Tryz.underlying41 (by rfl) (by rw [msgc_size]; exact sizeMsg)) rfl ?_
  have hz : (w.alloc (.cells #[.int .i64 0, .int .i64 0, .int .i64 0, .int .i64 0, .int .i64 0, .int .i64 0, .int .i64 0, .int .i64 0, .int .i64 0, .int .u64 0, .int .u64 0, .int .i64 0, .int .i64 0, .int .u64 0, .int .i64 0, .int .i64 0, .slice none 0 0] 41)).heap.size = w.heap.size + 1 := by simp
  have hb3 := H3.out.1
  have hB3 := H3.out.2.2.2
  rw [hz] at hb3
  have hz9 := hu9.size
  have hz3 := H3.out.2.1.2
  exact ⟨w.heap.size + 1, c3, rfl, ⟨Nat.le_succ _, by omega⟩, Bytes.upd hb3 hu9 (fun ad e => by cases e; show w.heap.size + 1 ≠ w.heap.size; omega), ⟨H3.out.2.1.1, H3.out.2.2.1⟩, (H0.out.1.trans (hB3.mono (by simp))).upd hu9 (Nat.le_refl _)⟩
/-- The ring of a disk that is new. -/
def jL0 (L : List UInt8) : List UInt8 := jfmt L (List.replicate 20480 0) (jheads 16)
theorem jL0_slots {L : List UInt8} (h : 26624 ≤ L.length) : jopd (jL0 L) 16 = List.replicate 16 (4, 0, 0, false) := jopd_fmt L h
theorem jL0_length {L : List UInt8} (h : 26624 ≤ L.length) : (jL0 L).length = L.length := jfmt_length h (List.length_replicate ..) (jheads_length 16)
set_option maxRecDepth 100000 in
set_option maxHeartbeats 2000000 in
theorem jfresh_any (w : World) : Calls Tryz.prog 6 #[] w fun e w' => ∃ (p : Pl) (gj : Nat), e = .returned (.tuple #[.pointer (some ⟨p.gd, 0, none⟩), .pointer (some ⟨gj, 0, none⟩), .bool true]) ∧
    JR w' gj p (jL0 (Dsk.new 104).L) (List.replicate 16 (4, 0, 0, false)) ∧ (∀ x ∈ gj :: p.all none, w.heap.size ≤ x) ∧ Below w.heap.size w w' := by
  go_enter Tryz.func6, Tryz.ntmps6
  go_wp2_with fail
  refine (new_all 104 (by omega) w).mono ?_
  rintro e w1 ⟨p, rfl, hd, hge, hB⟩
  have hJ := JD.new (by omega) hd
  have hX : ∀ x ∈ p.all none, w.heap.size ≤ x := by
    intro x hx
    unfold Pl.all at hx
    simp only [List.cons_append, List.nil_append, List.mem_cons, Option.toList_none, List.not_mem_nil, or_false] at hx
    omega
  have H1 := Lib.hid (And.intro hJ (And.intro hX hB))
  clear hd hge hJ hX hB
  go_wp2_with fail
  refine (jformat_any H1.out.1).mono ?_
  rintro e w2 ⟨rfl, ⟨Z, rfl, hd2⟩, hn2⟩
  have hB2 := H1.out.2.2.trans (hn2.toBelow H1.out.2.1 H1.out.2.2.size)
  have H2 := Lib.hid (And.intro hd2 hB2)
  clear hd2 hn2 hB2
  go_wp2_with fail
  refine (jopen_any H2.out.1).mono ?_
  rintro e w3 ⟨gj, rfl, hgj, hJ3, hB3⟩
  have hl : 26624 ≤ (Dsk.new 104).L.length := by show 26624 ≤ (List.replicate (104 * 256) (0 : UInt8)).length; rw [List.length_replicate]; omega
  rw [show jopd (jfmt (Dsk.new 104).L (List.replicate 20480 0) (jheads 16)) 16 = List.replicate 16 (4, 0, 0, false) from jL0_slots hl] at hJ3
  have H3 := Lib.hid (And.intro hJ3 (And.intro (H2.out.2.trans (hB3.mono H2.out.2.size)) (show w.heap.size ≤ gj from Nat.le_trans H2.out.2.size hgj)))
  clear hJ3 hB3 hgj hl
  go_wp2
  go_ret3
  refine ⟨p, gj, rfl, H3.out.1, fun x hx => ?_, H3.out.2.1⟩
  rcases List.mem_cons.1 hx with rfl | hx
  · exact H3.out.2.2
  · exact H1.out.2.1 x hx
theorem Bytes.updHi {w0 w w' : World} {g : Nat} {A : Option Addr} {l : List UInt8} (h0 : Bytes w0 A l) (hg : w0.heap.size ≤ g) (h : Bytes w A l) (u : Upd g w w') : Bytes w' A l := by
  rcases Nat.eq_zero_or_pos l.length with e | e
  · obtain rfl := List.eq_nil_of_length_eq_zero e; exact Reads.nil _ _
  · obtain ⟨b, off, rfl, hb, _⟩ := Bytes.at_ h0 e
    exact Bytes.upd h u (fun ad e => by cases e; show b ≠ g; omega)
section
variable {w w' : World} {gj : Nat} {p : Pl} {L : List UInt8} {l : List SlT}
set_option maxRecDepth 100000 in
set_option maxHeartbeats 2000000 in
theorem jgets_any (op : Int) (g : HdF) (B : Option Addr) (m d : Nat) (bs : List UInt8) (co : Int) (hm : m = bs.length) (hby : Bytes w B bs) (h : JR w gj p L l) (hB : ∀ ad, B = some ad → ad.block ≠ gj) :
    Calls Tryz.prog 24 #[.pointer (some ⟨gj, 0, none⟩), .int .i64 op, .agg (msgc g (.slice B m d)), .int .i64 co] w fun e w' =>
      e = .returned (.bool (((jget L l op).1.1 == co) && (Hd.beq (jget L l op).1.2.1 g && decide ((jget L l op).1.2.2 = bs)))) ∧ JR w' gj p L (jget L l op).2 ∧ Near [gj] w w' := by
  have hBw := (Below.refl w.heap.size w).alloc (Nat.le_refl _) (.cells (msgc g (.slice B m d)) 41)
  have hg1 := Blk.new w 41 (msgc g (.slice B m d))
  have h1 := h.below hBw
  have hby1 := Bytes.below hby hBw
  have hgl := h.lt
  have H0 := Lib.hid (And.intro hBw (And.intro hm (And.intro hB hgl)))
  have hg0 : w.heap.size ∉ [gj] := by simp; omega
  clear h hBw hby hm hB hgl
  go_enter Tryz.func24, Tryz.ntmps24
  go_wp2_with fail
  generalize w.alloc (.cells (msgc g (.slice B m d)) 41) = w1 at hg1 h1 hby1 H0 ⊢
  refine (jget_any op h1).mono ?_
  rintro e w2 ⟨v, rfl, ⟨sp, ho⟩, hJ, hn⟩
  obtain ⟨A, c, rfl, hc, hcc, hbv⟩ := OwnB.open_ ho
  have hg2 := hg1.near hn hg0
  have hby2 := Bytes.near hby1 hn (fun ad e => by have := H0.out.2.2.1 ad e; simpa using this)
  have hB2 := (Below.refl w2.heap.size w2).alloc (Nat.le_refl _) (.cells #[.int .i64 0, .int .i64 0, .int .i64 0, .int .i64 0, .int .i64 0, .int .i64 0, .int .i64 0, .int .i64 0, .int .i64 0, .int .u64 0, .int .u64 0, .int .i64 0, .int .i64 0, .int .u64 0, .int .i64 0, .int .i64 0, .slice none 0 0] 41)
  have hg3 := hg2.alloc (.cells #[.int .i64 0, .int .i64 0, .int .i64 0, .int .i64 0, .int .i64 0, .int .i64 0, .int .i64 0, .int .i64 0, .int .i64 0, .int .u64 0, .int .u64 0, .int .i64 0, .int .i64 0, .int .u64 0, .int .i64 0, .int .i64 0, .slice none 0 0] 41)
  have hs1 := H0.out.1.size
  have hl2 := hg2.lt
  have H2 := Lib.hid (And.intro (hJ.below hB2) (And.intro (Bytes.below hby2 hB2) (And.intro (Bytes.below hbv hB2) (And.intro hg3 (And.intro ((Near.below (X := [gj]) H0.out.1).trans (hn.trans (Near.below (X := [gj]) hB2))) hl2)))))
  have ho2 := OwnsC.lt ho
  have HO := Lib.hid ho2
  have HB := Lib.hid (show gj < w2.heap.size ∧ Bytes w2 B bs ∧ (∀ x ∈ p.all none, x < w2.heap.size) from ⟨hJ.lt, hby2, hJ.jd.lt⟩)
  clear hJ hn ho hc hcc hbv hg2 hby2 hB2 hg3 hg1 h1 hby1 hg0 hs1 hl2 ho2
  obtain ⟨G, hG⟩ : ∃ G, G = jget L l op := ⟨_, rfl⟩
  rw [← hG] at H2 HO ⊢
  obtain ⟨⟨gc, F, bd⟩, l2⟩ := G
  have HG := Lib.hid hG
  clear hG
  dsimp only at H2 HO ⊢
  by_cases hc : gc = co
  · subst hc
    go_wp2_with (first
      | ((with_reducible show wpList _ _ _ ((⟨none, _, _, _, _, _⟩ : Oper) :: _) _ _); refine wpList_store_blk (o := ⟨none, _, _, _, _, _⟩) ((Blk.new w2 41 #[.int .i64 0, .int .i64 0, .int .i64 0, .int .i64 0, .int .i64 0, .int .i64 0, .int .i64 0, .int .i64 0, .int .i64 0, .int .u64 0, .int .u64 0, .int .i64 0, .int .i64 0, .int .u64 0, .int .i64 0, .int .i64 0, .slice none 0 0])) (by rfl) _ _ _ (by rfl) (by rfl) (msgc F (.slice A bd.length c)) (by rfl) (sizeMsg) (by rfl) (msgc_size _ _) (msgc_one _ _ rfl) ?_; intro w3 h3 hu3; have hg4 := H2.out.2.2.2.1.upd hu3 (by have := H2.out.2.2.2.2.2; omega))
      | ((with_reducible show wpList _ _ _ ((⟨some 21, _, _, _, _, _⟩ : Oper) :: _) _ _); refine wpList_want (by rfl) ?_; refine wpList_load_blk (o := ⟨some 21, _, _, _, _, _⟩) (h3) (by rfl) _ _ (by rfl) (by rfl) _ Tryz.underlying41 (by rfl) (sizeMsg) (msgc_size _ _) ?_)
      | ((with_reducible show wpList _ _ _ ((⟨some 22, _, _, _, _, _⟩ : Oper) :: _) _ _); refine wpList_want (by rfl) ?_; refine wpList_load_blk (o := ⟨some 22, _, _, _, _, _⟩) (hg4) (by rfl) _ _ (by rfl) (by rfl) _ Tryz.underlying41 (by rfl) (sizeMsg) (msgc_size _ _) ?_)
      | fail)
    have hu : Near [w2.heap.size] _ w3 := Near.upd hu3 (List.mem_singleton_self _)
    have hgl := H2.out.1.lt
    have hns : Near [gj] w w3 := H2.out.2.2.2.2.1.high hu (fun y hy => by rw [List.mem_singleton.1 hy]; have := H2.out.2.2.2.2.2; omega)
    have h1 := H2.out.2.1
    have h2 := H2.out.2.2.1
    have hB3 := Bytes.updHi HB.out.2.1 (Nat.le_refl _) h1 hu3
    have hA3 := Bytes.near h2 hu (fun ad e => by have := (HO.out ad.block (by rw [e]; rfl)).2; simp; omega)
    have hJ3 := H2.out.1.near' hu (by have := HB.out.1; omega) (fun hx => by have := HB.out.2.2 _ hx; omega)
    have H3 := Lib.hid (And.intro hJ3 hns)
    clear hu hgl hns h1 h2 hJ3 hu3 h3 hg4
    refine (sameMessage_any F g A B bd.length m c d bd bs rfl H0.out.2.1 w3 hA3 hB3).mono ?_
    rintro e w4 ⟨rfl, hb4⟩
    have HE := Lib.hid (And.intro (H3.out.1.below hb4) (H3.out.2.trans (Near.below hb4)))
    clear hb4 hA3 hB3
    go_wp2
    go_ret
    rw [← HG.out]
    exact ⟨by simp, HE.out⟩
  · have hc' : (gc == co) = false := by simpa using hc
    clear hc
    go_wp2_with (first
      | ((with_reducible show wpList _ _ _ ((⟨none, _, _, _, _, _⟩ : Oper) :: _) _ _); refine wpList_store_blk (o := ⟨none, _, _, _, _, _⟩) ((Blk.new w2 41 #[.int .i64 0, .int .i64 0, .int .i64 0, .int .i64 0, .int .i64 0, .int .i64 0, .int .i64 0, .int .i64 0, .int .i64 0, .int .u64 0, .int .u64 0, .int .i64 0, .int .i64 0, .int .u64 0, .int .i64 0, .int .i64 0, .slice none 0 0])) (by rfl) _ _ _ (by rfl) (by rfl) (msgc F (.slice A bd.length c)) (by rfl) (sizeMsg) (by rfl) (msgc_size _ _) (msgc_one _ _ rfl) ?_; intro w3 h3 hu3)
      | fail)
    have hu : Near [w2.heap.size] _ w3 := Near.upd hu3 (List.mem_singleton_self _)
    have hns : Near [gj] w w3 := H2.out.2.2.2.2.1.high hu (fun y hy => by rw [List.mem_singleton.1 hy]; have := H2.out.2.2.2.2.2; omega)
    have hJ3 := H2.out.1.near' hu (by have := HB.out.1; omega) (fun hx => by have := HB.out.2.2 _ hx; omega)
    go_ret
    rw [← HG.out]
    exact ⟨by simp [hc'], hJ3, hns⟩
end
end Go.Proofs.YtfoegmjpfkmggaaGreatDoor

/- Are all slots empty: of a journal whose slots are. Condition: the journal is known. -/
namespace Go.Proofs.YtfoegmjpfkmggaaGreatDoor
open Go.RowKit
set_option maxHeartbeats 1000000 in
theorem exec_neq_st {o : Oper} {ac : Act} (w : World) (x y : Operand) (r : TypeId) (ho : o.op = .binOp .neq 44 x y r) (f g : SSt) (hx : ac.eval x = stv f) (hy : ac.eval y = stv g) :
    (execOp ac.eval o).run Tryz.prog w = .ok (.value (.bool (!decide (f = g)))) w := by
  have e1 := eqSt w f g
  unfold stv at hx hy e1
  unfold execOp
  simp only [ho, hx, hy, Sem.run_bind, run_eqGuard_agg w .neq 44 x y _ _ noselSt, Result.andThen_ok, run_neq_struct, e1, Sem.run_pure]
section
variable {w w' : World} {gj : Nat} {p : Pl} {L : List UInt8}
def JEmRel (w : World) (v : Value) (wr : World) : Prop := ∃ i : Nat, i ≤ 16 ∧ v = .int .i64 (i : Int) ∧ wr = w
set_option maxRecDepth 100000 in
set_option maxHeartbeats 1000000 in
theorem jempty_true (h : JR w gj p L (List.replicate 16 (4, 0, 0, false))) : Calls Tryz.prog 27 #[.pointer (some ⟨gj, 0, none⟩)] w fun e w' => e = .returned (.bool true) ∧ Below w.heap.size w w' := by
  have hS := jslots_any h
  clear h
  go_enter Tryz.func27, Tryz.ntmps27
  go_wp2_with fail
  refine hS.mono ?_
  rintro e w2 ⟨v, rfl, ⟨sp, ho⟩, hB⟩
  obtain ⟨A, c, rfl, hc, hcm, hr, -⟩ := OwnsC.reads ho
  obtain ⟨b, off, rfl, hcell⟩ := hr (by unfold slcs slc; simp)
  have hrg : ∀ i, i < 16 → w2.rangeAt b (off + i * 4) (slc (4, 0, 0, false)) := fun i hi j u hu => by
    have hj : j < 4 := by have := (List.getElem?_eq_some_iff.1 hu).1; simpa [slc] using this
    have hl : i < (List.replicate 16 ((4, 0, 0, false) : SlT)).length := by rw [List.length_replicate]; exact hi
    have := hcell (i * 4 + j) u (by rw [Nat.mul_comm, slcs_at _ i j hj hl, List.getElem_replicate]; exact hu)
    rw [← Nat.add_assoc] at this
    exact this
  have H2 := Lib.hid (And.intro hB hrg)
  clear hS ho hc hcm hr hcell hB hrg
  go_wp2_with fail
  go_loopw [4] (fun v wr => JEmRel w2 v wr) (fun v _ => 16 - (intOf v).toNat)
  case atStart => exact ⟨0, Nat.zero_le _, rfl, rfl⟩
  case round =>
    obtain ⟨i, hi, rfl, rfl⟩ := hrel
    by_cases hlt : i < 16
    · have hrg := H2.out.2 i hlt
      go_wp2_with (first
        | ((with_reducible show wpList _ _ _ ((⟨some 16, _, _, _, _, _⟩ : Oper) :: _) _ _); refine wpList_load_mid (o := ⟨some 16, _, _, _, _, _⟩) hrg (by rfl) _ _ (by rfl) (by rfl) _ Tryz.underlying44 (by rfl) sizeSt (by rfl) ?_)
        | ((with_reducible show wpList _ _ _ ((⟨some 18, _, _, _, _, _⟩ : Oper) :: _) _ _); refine wpList_run (o := ⟨some 18, _, _, _, _, _⟩) _ (by rfl) (exec_neq_st _ _ _ _ (by rfl) (4, 0, 0, false) (4, 0, 0, false) (by rfl) (by rfl)) ?_)
        | fail)
      exact ⟨⟨i + 1, by omega, by go_num, rfl⟩, by simp [intOf]; omega⟩
    · obtain rfl : i = 16 := by omega
      clear hlt hi
      go_wp2
      go_ret
      exact ⟨rfl, H2.out.1⟩
end
end Go.Proofs.YtfoegmjpfkmggaaGreatDoor

/- Put, whole. Conditions: the journal is known; the message's bytes can be read. -/
namespace Go.Proofs.YtfoegmjpfkmggaaGreatDoor
open Go.RowKit
section
variable {w : World} {gj : Nat} {p : Pl} {L : List UInt8} {l : List SlT}
set_option maxRecDepth 100000 in
set_option maxHeartbeats 2000000 in
theorem jput_err (f : HdF) (A : Option Addr) (n c : Nat) (b : List UInt8) (co : Int) (hco : co ≠ 0) (hsb : Slot.bytes f b = (co, [])) (hn : n = b.length) (hby : Bytes w A b) (hc : n ≤ c ∧ c ≤ 9223372036854775807) (hin : Hd.in_ f) (h : JR w gj p L l) :
    Calls Tryz.prog 7 #[.pointer (some ⟨gj, 0, none⟩), .agg (msgc f (.slice A n c))] w fun e w' => e = .returned (.int .i64 co) ∧ JR w' gj p L l ∧ Near (gj :: p.all none) w w' := by
  have hB := ((Below.refl w.heap.size w).alloc (Nat.le_refl _) (.cells #[.pointer (some ⟨gj, 0, none⟩)] 26)).alloc (by simp) (.cells (msgc f (.slice A n c)) 41)
  have hm := Blk.new' (w.alloc (.cells #[.pointer (some ⟨gj, 0, none⟩)] 26)) 41 (msgc f (.slice A n c)) (n := w.heap.size + 1) (by simp)
  have HB := Lib.hid hB
  have h1 := h.below hB
  have hby1 := Bytes.below hby hB
  have HN := Lib.hid (And.intro hn (And.intro hc hin))
  have H0 := Lib.hid h
  clear h hB hby hn hc hin
  go_enter Tryz.func7, Tryz.ntmps7
  go_wp2_with fail
  refine (jnone_any h1).mono ?_
  rintro e w1 ⟨rfl, hw⟩
  obtain rfl := hw.symm
  clear hw
  go_wp2_with (first
    | ((with_reducible show wpList _ _ _ ((⟨some 11, _, _, _, _, _⟩ : Oper) :: _) _ _); refine wpList_load_blk (o := ⟨some 11, _, _, _, _, _⟩) (hm) (by rfl) _ _ (by rfl) (by rfl) _ Tryz.underlying41 (by rfl) (sizeMsg) (msgc_size _ _) ?_)
    | fail)
  refine (sbytes_any f A n c b _ HN.out.1 hby1 HN.out.2.1 HN.out.2.2).mono ?_
  rintro e w2 ⟨E, rfl, hE, hEg, hEn, hEl, hbx⟩
  have HQ := Lib.hid (show Below w.heap.size w (w2.alloc (.cells #[E.val] 39)) from (HB.out.trans (hbx.mono HB.out.size)).alloc (by have := hbx.size; have := HB.out.size; omega) _)
  clear hE hEg hEn hEl hbx h1 hby1 hm HN HB
  rw [hsb]
  unfold Ent.val at HQ ⊢
  have hq : (co != 0) = true := by simp [hco]
  go_wp2
  go_ret
  exact ⟨rfl, H0.out.below HQ.out, Near.below HQ.out⟩
set_option maxRecDepth 100000 in
set_option maxHeartbeats 2000000 in
theorem jput_ok (f : HdF) (A : Option Addr) (n c : Nat) (b X : List UInt8) (hX : X.length = 1280) (hsb : Slot.bytes f b = (0, X)) (hn : n = b.length) (hby : Bytes w A b) (hc : n ≤ c ∧ c ≤ 9223372036854775807) (hin : Hd.in_ f) (h : JR w gj p L l) :
    Calls Tryz.prog 7 #[.pointer (some ⟨gj, 0, none⟩), .agg (msgc f (.slice A n c))] w fun e w' => e = .returned (.int .i64 0) ∧ JR w' gj p (wr (wr L (256 * (24 + 5 * jslot f)) X) (256 * (8 + jslot f)) (X.take 256)) (l.set (jslot f) (1, f 5, f 3, false)) ∧ Near (gj :: p.all none) w w' := by
  have hB := ((Below.refl w.heap.size w).alloc (Nat.le_refl _) (.cells #[.pointer (some ⟨gj, 0, none⟩)] 26)).alloc (by simp) (.cells (msgc f (.slice A n c)) 41)
  have hm := Blk.new' (w.alloc (.cells #[.pointer (some ⟨gj, 0, none⟩)] 26)) 41 (msgc f (.slice A n c)) (n := w.heap.size + 1) (by simp)
  have hj := (Blk.new w 26 #[.pointer (some ⟨gj, 0, none⟩)]).alloc (.cells (msgc f (.slice A n c)) 41)
  have HB := Lib.hid hB
  have h1 := h.below hB
  have hby1 := Bytes.below hby hB
  have HN := Lib.hid (And.intro hn (And.intro hc hin))
  have H0 := Lib.hid h
  have hz : ((w.alloc (.cells #[.pointer (some ⟨gj, 0, none⟩)] 26)).alloc (.cells (msgc f (.slice A n c)) 41)).heap.size = w.heap.size + 2 := by simp
  have HZ := Lib.hid hz
  clear h hB hby hn hc hin hz
  go_enter Tryz.func7, Tryz.ntmps7
  go_wp2_with fail
  generalize (w.alloc (.cells #[.pointer (some ⟨gj, 0, none⟩)] 26)).alloc (.cells (msgc f (.slice A n c)) 41) = w1 at hm hj HB h1 hby1 HZ ⊢
  refine (jnone_any h1).mono ?_
  rintro e w1' ⟨rfl, hw⟩
  obtain rfl := hw.symm
  clear hw
  go_wp2_with (first
    | ((with_reducible show wpList _ _ _ ((⟨some 11, _, _, _, _, _⟩ : Oper) :: _) _ _); refine wpList_load_blk (o := ⟨some 11, _, _, _, _, _⟩) (hm) (by rfl) _ _ (by rfl) (by rfl) _ Tryz.underlying41 (by rfl) (sizeMsg) (msgc_size _ _) ?_)
    | fail)
  refine (sbytes_any f A n c b _ HN.out.1 hby1 HN.out.2.1 HN.out.2.2).mono ?_
  rintro e w2 ⟨E, rfl, hE, hEg, hEn, hEl, hbx⟩
  rw [hsb] at hEl ⊢
  obtain ⟨EA, En, El⟩ := E
  dsimp only at hEl hEn
  subst hEl
  obtain ⟨hE1, hE2, ⟨hE3, hE4⟩ | ⟨sg, st, hE3, hE4⟩⟩ := hE
  · exact absurd (congrArg List.length hE4) (by dsimp only; rw [hX]; simp)
  dsimp only at hE3 hE4
  subst hE3
  rw [hX] at hEn
  subst hEn
  have hEg : w1.heap.size ≤ sg := hEg sg rfl
  have h2 := h1.below hbx
  have hj2 := hj.below hbx hj.lt
  have hm2 := hm.below hbx hm.lt
  have hb3 := Blk.new w2 39 #[.slice (some ⟨sg, 0, none⟩) 1280 1280]
  have hm3 := hm2.alloc (.cells #[.slice (some ⟨sg, 0, none⟩) 1280 1280] 39)
  have hj3 := hj2.alloc (.cells #[.slice (some ⟨sg, 0, none⟩) 1280 1280] 39)
  have hx3 := hE4.alloc (.cells #[.slice (some ⟨sg, 0, none⟩) 1280 1280] 39)
  have hB3 := (Below.refl w2.heap.size w2).alloc (Nat.le_refl _) (.cells #[.slice (some ⟨sg, 0, none⟩) 1280 1280] 39)
  have h3 := h2.below hB3
  have hz3 : (w2.alloc (.cells #[.slice (some ⟨sg, 0, none⟩) 1280 1280] 39)).heap.size = w2.heap.size + 1 := by simp
  have hw2 : w.heap.size + 2 ≤ w2.heap.size := by have := HZ.out; have := hbx.size; omega
  have hsg := hE4.lt
  have HB3 := Lib.hid ((HB.out.trans (hbx.mono HB.out.size)).trans (hB3.mono (by omega)))
  have HS := Lib.hid (And.intro hz3 (And.intro hw2 (And.intro hsg (show w.heap.size + 2 ≤ sg by have := HZ.out; omega))))
  have d5 := hm3.at_ 5 (v := .int .i64 (f 5)) (msgc_at f _ 5 (by omega))
  have H3 := Lib.hid (And.intro h3 (And.intro hj3 (And.intro hb3 (And.intro hx3 hm3))))
  clear h2 hj2 hm2 hE1 hE2 hE4 hEg hbx h1 hj hm hby1 h3 hj3 hb3 hx3 hm3 hB3 hz3 hw2 hsg
  unfold Ent.val
  dsimp only
  rw [hX]
  go_wp2_with fail
  generalize hw3 : w2.alloc (.cells #[.slice (some ⟨sg, 0, none⟩) 1280 1280] 39) = w3 at HS HB3 H3 d5 ⊢
  clear hw3
  refine (sof_any (f 5) w3).mono ?_
  rintro e w3' ⟨rfl, hw⟩
  obtain rfl := hw.symm
  clear hw
  obtain ⟨hk16, hke⟩ := jslot_lt f
  rw [hke]
  generalize hkk : jslot f = k at hk16 ⊢
  have HKK := Lib.hid hkk
  clear hke hkk
  obtain ⟨s2, hs2⟩ : ∃ s2, s2 = w2.heap.size := ⟨_, rfl⟩
  rw [← hs2] at HS H3 ⊢
  clear hs2
  have hn4 := Blk.new w3 3 #[.int .i64 (k : Int)]
  have hB4 := (Below.refl w3.heap.size w3).alloc (Nat.le_refl _) (.cells #[.int .i64 (k : Int)] 3)
  have hm4 := H3.out.2.2.2.2.alloc (.cells #[.int .i64 (k : Int)] 3)
  have hj4 := H3.out.2.1.alloc (.cells #[.int .i64 (k : Int)] 3)
  have hb4 := H3.out.2.2.1.alloc (.cells #[.int .i64 (k : Int)] 3)
  have hx4 := H3.out.2.2.2.1.alloc (.cells #[.int .i64 (k : Int)] 3)
  have h4 := H3.out.1.below hB4
  have d0 := hj4.at_ 0 (v := .pointer (some ⟨gj, 0, none⟩)) rfl
  have dg := h4.jb.at_ 0 (jc_0 _ _)
  have H4 := Lib.hid (And.intro h4 (And.intro hj4 (And.intro hb4 (And.intro hx4 (And.intro hm4 (And.intro hn4 hB4))))))
  clear h4 hj4 hb4 hx4 hm4 hn4 hB4 d5 
  go_wp2_with fail
  generalize hw4 : w3.alloc (.cells #[.int .i64 (k : Int)] 3) = w4 at H4 d0 dg ⊢
  clear hw4
  have hP := H0.out.jd.lt
  have hjb : w.heap.size ∉ p.all none := fun hx => by have := hP _ hx; omega
  have hgj := H0.out.off
  have hC0 : Near (p.all none) w4 w4.drew := (Near.refl _ _).drew
  refine wp_region_tree (Near (p.all none) w4) [] (PlanT.takes [0, 6] (PlanT.takes [1, 7] (PlanT.takes [2, 3, 8, 9] (PlanT.takes [4, 10] (PlanT.takes [5, 11] (.opt 12 (.opt 13 (PlanT.takes [14] .done) .no) .no)))))) (by kernel_rfl) (by kernel_rfl) (hC0) ?_
  refine wpTree_pure _ _ _ (by rfl) (by rfl) ?_
  dsimp only [List.filterMap, List.getElem?_cons_zero, List.getElem?_cons_succ]
  repeat (go_big_quiet_step (fail))
  refine wpQuiet_nil ?_
  refine wpTree_takeL _ _ _ (by rfl) (by rfl) (hC0) ?_
  dsimp only [List.filterMap, List.getElem?_cons_zero, List.getElem?_cons_succ]
  (refine wpQuiet_load_cell (fun w' hw' => Near.cell_ hw' hjb d0) (by rfl) _ _ (by rfl) (by rfl) _ Tryz.underlying26 (by rfl) ?_; simp only [Act.put, List.setIfInBounds_toArray, List.set_cons_zero, List.set_cons_succ])
  (refine wpQuiet_load_cell (fun w' hw' => Near.cell_ hw' hjb d0) (by rfl) _ _ (by rfl) (by rfl) _ Tryz.underlying26 (by rfl) ?_; simp only [Act.put, List.setIfInBounds_toArray, List.set_cons_zero, List.set_cons_succ])
  refine wpQuiet_nil ?_
  refine wpTree_pure _ _ _ (by rfl) (by rfl) ?_
  dsimp only [List.filterMap, List.getElem?_cons_zero, List.getElem?_cons_succ]
  repeat (go_big_quiet_step (fail))
  refine wpQuiet_nil ?_
  refine wpTree_takeL _ _ _ (by rfl) (by rfl) (hC0) ?_
  dsimp only [List.filterMap, List.getElem?_cons_zero, List.getElem?_cons_succ]
  (refine wpQuiet_load_cell (fun w' hw' => Near.cell_ hw' hgj dg) (by rfl) _ _ (by rfl) (by rfl) _ Tryz.underlying25 (by rfl) ?_; simp only [Act.put, List.setIfInBounds_toArray, List.set_cons_zero, List.set_cons_succ])
  (refine wpQuiet_load_cell (fun w' hw' => Near.cell_ hw' hgj dg) (by rfl) _ _ (by rfl) (by rfl) _ Tryz.underlying25 (by rfl) ?_; simp only [Act.put, List.setIfInBounds_toArray, List.set_cons_zero, List.set_cons_succ])
  refine wpQuiet_nil ?_
  refine wpTree_pure _ _ _ (by rfl) (by rfl) ?_
  dsimp only [List.filterMap, List.getElem?_cons_zero, List.getElem?_cons_succ]
  repeat (go_big_quiet_step (fail))
  refine wpQuiet_nil ?_
  refine wpTree_one _ rfl ?_
  go_wp2_with fail
  have hf5 := (Blk.new w4 93 #[.func (.func 33) #[] #[.pointer (some ⟨w.heap.size, 0, none⟩), .pointer (some ⟨w3.heap.size, 0, none⟩), .pointer (some ⟨s2, 0, none⟩)], .func (.func 36) #[.pointer (some ⟨p.gd, 0, none⟩)] #[], .func (.func 37) #[] #[.pointer (some ⟨w.heap.size, 0, none⟩), .pointer (some ⟨w3.heap.size, 0, none⟩), .pointer (some ⟨s2, 0, none⟩)], .func (.func 36) #[.pointer (some ⟨p.gd, 0, none⟩)] #[]]).drew
  have hC5 : Near [] w4 (w4.alloc (.cells #[.func (.func 33) #[] #[.pointer (some ⟨w.heap.size, 0, none⟩), .pointer (some ⟨w3.heap.size, 0, none⟩), .pointer (some ⟨s2, 0, none⟩)], .func (.func 36) #[.pointer (some ⟨p.gd, 0, none⟩)] #[], .func (.func 37) #[] #[.pointer (some ⟨w.heap.size, 0, none⟩), .pointer (some ⟨w3.heap.size, 0, none⟩), .pointer (some ⟨s2, 0, none⟩)], .func (.func 36) #[.pointer (some ⟨p.gd, 0, none⟩)] #[]] 93)).drew := (Near.below ((Below.refl w4.heap.size w4).alloc (Nat.le_refl _) _)).drew
  generalize (w4.alloc (.cells #[.func (.func 33) #[] #[.pointer (some ⟨w.heap.size, 0, none⟩), .pointer (some ⟨w3.heap.size, 0, none⟩), .pointer (some ⟨s2, 0, none⟩)], .func (.func 36) #[.pointer (some ⟨p.gd, 0, none⟩)] #[], .func (.func 37) #[] #[.pointer (some ⟨w.heap.size, 0, none⟩), .pointer (some ⟨w3.heap.size, 0, none⟩), .pointer (some ⟨s2, 0, none⟩)], .func (.func 36) #[.pointer (some ⟨p.gd, 0, none⟩)] #[]] 93)).drew = w5 at hf5 hC5 ⊢
  have hC5p : Near (p.all none) w4 w5 := hC5.wider (fun x hx => by cases hx)
  have hs4 := H4.out.2.2.2.2.2.2.size
  have hs5 := hC5.size
  have hX0 : ∀ x : Nat, x ∉ ([] : List Nat) := fun x hx => by cases hx
  have hoff : ∀ x, w.heap.size ≤ x → x ∉ p.all none := fun x hx hm => by have := hP x hm; omega
  have hK : PutK w5 w.heap.size w3.heap.size s2 gj sg p k El := ⟨H4.out.2.1.near hC5 (hX0 _), H4.out.2.2.2.2.2.1.near hC5 (hX0 _), H4.out.2.2.1.near hC5 (hX0 _), hC5.cell_ (hX0 _) dg, Blk.bytes (H4.out.2.2.2.1.near hC5 (hX0 _)), hX, hk16,
    ⟨hjb, hoff _ (by have := HS.out; omega), hoff _ (by have := HS.out; omega), hgj, hoff _ (by have := HS.out; omega)⟩⟩
  have hD5 := H4.out.1.jd.near hC5
  have H5 := Lib.hid (And.intro hK (And.intro hD5 (And.intro hf5 hC5p)))
  have hg4 : w4.heap.size ∉ p.all none := hoff _ (by have := HS.out; omega)
  clear hK hD5 hf5 hs5 hX0
  refine TreeQ.in_ hC5p ?_
  refine wpTree_one _ rfl ?_
  go_wp2_with fail
  refine (jputall H5.out.1 H5.out.2.1 H5.out.2.2.1 hg4).mono ?_
  rintro e w6 ⟨rfl, hd6, hn6⟩
  have hC6 : Near (p.all none) w4 w6 := hC5p.trans hn6
  have H6 := Lib.hid (And.intro hd6 hC6)
  clear hd6 hn6 H5 hC5 hC5p hg4
  go_wp2_with fail
  refine TreeQ.in_ hC6 ?_
  refine wpTree_pure _ _ _ (by rfl) (by rfl) ?_
  dsimp only [List.filterMap, List.getElem?_cons_zero, List.getElem?_cons_succ]
  repeat (go_big_quiet_step (fail))
  refine wpQuiet_nil ?_
  refine wpTree_done ?_
  clear hC6 hC0
  go_wp2_with fail
  have hm6 := (H4.out.2.2.2.2.1.near H6.out.2 (hoff _ (by omega)))
  have hj6 := (H4.out.2.1.near H6.out.2 hjb)
  have hn6 := (H4.out.2.2.2.2.2.1.near H6.out.2 (hoff _ (by have := HS.out; omega)))
  have hJ6 := H4.out.1.jb.near H6.out.2 hgj
  have c0 := hj6.at_ 0 (v := .pointer (some ⟨gj, 0, none⟩)) rfl
  have c1 := hn6.at_ 0 (v := .int .i64 (k : Int)) rfl
  have c5 := hm6.at_ 5 (v := .int .i64 (f 5)) (msgc_at f _ 5 (by omega))
  have c3 := hm6.at_ 3 (v := .int .i64 (f 3)) (msgc_at f _ 3 (by omega))
  have h16 := H4.out.1.n16
  have hC7 : Near [gj] w6 w6.drew := (Near.refl _ _).drew
  have hgl := H0.out.lt
  have n0 : w.heap.size ∉ [gj] := by simp; omega
  have n1 : w3.heap.size ∉ [gj] := by have := HS.out; simp; omega
  have n2 : w.heap.size + 1 ∉ [gj] := by simp; omega
  have HJ := Lib.hid (And.intro hJ6 (And.intro h16 hk16))
  clear hm6 hj6 hn6 d0 dg hJ6 h16
  refine wp_region_tree (Near [gj] w6) [] (PlanT.takes [2, 3, 5, 6] (PlanT.takes [0, 1, 4, 7] (PlanT.takes [8, 9, 10, 11] (.opt 12 .done .no)))) (by kernel_rfl) (by kernel_rfl) (hC7) ?_
  refine wpTree_pure _ _ _ (by rfl) (by rfl) ?_
  dsimp only [List.filterMap, List.getElem?_cons_zero, List.getElem?_cons_succ]
  repeat (go_big_quiet_step (fail))
  refine wpQuiet_nil ?_
  refine wpTree_takeL _ _ _ (by rfl) (by rfl) (hC7) ?_
  dsimp only [List.filterMap, List.getElem?_cons_zero, List.getElem?_cons_succ]
  (refine wpQuiet_load_cell (fun w' hw' => Near.cell_ hw' n0 c0) (by rfl) _ _ (by rfl) (by rfl) _ Tryz.underlying26 (by rfl) ?_; simp only [Act.put, List.setIfInBounds_toArray, List.set_cons_zero, List.set_cons_succ])
  (refine wpQuiet_load_cell (fun w' hw' => Near.cell_ hw' n1 c1) (by rfl) _ _ (by rfl) (by rfl) _ Tryz.underlying3 (by rfl) ?_; simp only [Act.put, List.setIfInBounds_toArray, List.set_cons_zero, List.set_cons_succ])
  (refine wpQuiet_load_cell (fun w' hw' => Near.cell_ hw' n2 c5) (by rfl) _ _ (by rfl) (by rfl) _ Tryz.underlying3 (by rfl) ?_; simp only [Act.put, List.setIfInBounds_toArray, List.set_cons_zero, List.set_cons_succ])
  (refine wpQuiet_load_cell (fun w' hw' => Near.cell_ hw' n2 c3) (by rfl) _ _ (by rfl) (by rfl) _ Tryz.underlying3 (by rfl) ?_; simp only [Act.put, List.setIfInBounds_toArray, List.set_cons_zero, List.set_cons_succ])
  refine wpQuiet_nil ?_
  refine wpTree_pure _ _ _ (by rfl) (by rfl) ?_
  dsimp only [List.filterMap, List.getElem?_cons_zero, List.getElem?_cons_succ]
  repeat (go_big_quiet_step (fail))
  refine wpQuiet_nil ?_
  have hJd := HJ.out.1.drew
  refine wpTree_one _ rfl ?_
  go_wp2_with (first
    | ((with_reducible show wpList _ _ _ ((⟨none, _, _, _, _, _⟩ : Oper) :: _) _ _); refine wpList_store_in (o := ⟨none, _, _, _, _, _⟩) hJd (by rfl) _ _ _ (by rfl) (1 + k * 4) (by rfl) #[.int .i64 1, .int .i64 (f 5), .int .i64 (f 3), .bool false] (by rfl) sizeSt (by rfl) (by rw [jc_size, HJ.out.2.1]; have := HJ.out.2.2; omega) (st_one _ _ _ _) ?_; intro w7 hg7 hu7)
    | fail)
  have hn7 : Near [gj] w6 w7 := hC7.trans (Near.upd hu7 (List.mem_singleton_self _))
  refine TreeQ.in_ hn7 ?_
  refine wpTree_done ?_
  have hb7 : Blk w7 gj 91 (jc p.gd (l.set k (1, f 5, f 3, false))) := by
    rw [← jc_set p.gd l k _ (by rw [HJ.out.2.1]; exact HJ.out.2.2), show 1 + 4 * k = 1 + k * 4 by omega]
    exact hg7
  have hd7 := H6.out.1.near' hn7 (by
    unfold Pl.all at hgj
    simp at hgj ⊢
    exact ⟨fun e => hgj.1 e.symm, fun e => hgj.2.1 e.symm, fun e => hgj.2.2 e.symm⟩)
  have hN : Near (gj :: p.all none) w w7 := ((Near.below (HB3.out.trans (H4.out.2.2.2.2.2.2.mono HB3.out.size))).trans (H6.out.2.wider (fun x hx => List.mem_cons_of_mem _ hx))).trans (hn7.wider (fun x hx => by rw [List.mem_singleton.1 hx]; exact List.mem_cons_self ..))
  have HE := Lib.hid (And.intro (JR.mk hd7 hb7 (by rw [List.length_set]; exact HJ.out.2.1)) hN)
  clear hn7 hb7 hd7 hN hg7 hu7 hJd hC7
  go_wp2
  go_ret
  rw [HKK.out]
  exact ⟨rfl, HE.out⟩
end
end Go.Proofs.YtfoegmjpfkmggaaGreatDoor

/- A prepare of the statements: its slot's bytes, how these are judged and read; Put of it. Conditions: the op is 1 to 1000, the view 0 to 1000, the body at most 1024 bytes. -/
namespace Go.Proofs.YtfoegmjpfkmggaaGreatDoor
open Go.RowKit
def jX (op vw : Int) (bs : List UInt8) : List UInt8 := fillN 1280 (Hd.bytes (jm op vw bs.length) bs)
structure JmOk (op vw : Int) (bs : List UInt8) : Prop where
  op1 : 1 ≤ op
  op2 : op ≤ 1000
  vw1 : 0 ≤ vw
  vw2 : vw ≤ 1000
  len : bs.length ≤ 1024
theorem jm_hd {op vw : Int} {bs : List UInt8} (h : JmOk op vw bs) : Hd.ok (jm op vw bs.length) = true ∧ Hd.in_ (jm op vw bs.length) ∧ setF (jm op vw bs.length) 2 bs.length = jm op vw bs.length ∧ Slot.is (jm op vw bs.length) (Slot.of op) = true := by
  obtain ⟨h1, h2, h3, h4, h5⟩ := h
  refine ⟨?_, setF_in _ _ (fP_ok op vw (by omega)).2.1, setF_self _ _ _ (by unfold jm setF; rw [if_pos rfl]), ?_⟩
  · unfold Hd.ok tenI numOk jm setF fP
    simp
    omega
  · unfold Slot.is jm setF fP
    simp
    omega
theorem jX_bytes {op vw : Int} {bs : List UInt8} (h : JmOk op vw bs) : Slot.bytes (jm op vw bs.length) bs = (0, jX op vw bs) := by
  obtain ⟨h1, h2, h3, h4⟩ := jm_hd h
  have hs : Msg.seal_ (jm op vw bs.length) bs = (0, Hd.bytes (jm op vw bs.length) bs) := by
    unfold Msg.seal_
    rw [if_neg (by have := h.len; omega), h3, if_pos h1]
  unfold Slot.bytes
  rw [hs, if_pos rfl, show jm op vw bs.length 5 = op from rfl, if_pos h4]
  rfl
theorem jX_say {op vw : Int} {bs : List UInt8} (h : JmOk op vw bs) : ∃ F, (jX op vw bs).length = 1280 ∧ Slot.prep (jX op vw bs) (Slot.of op) = (true, F, bs) ∧ Slot.kind ((jX op vw bs).take 256) (Slot.of op) = (2, F) ∧ Hd.same F (jm op vw bs.length) := by
  obtain ⟨h1, h2, h3, h4⟩ := jm_hd h
  obtain ⟨F, g1, -, g2, g3, g4⟩ := Slot.bytes_say (jm op vw bs.length) bs h2 h.len (by rw [h3]; exact h1) h4
  rw [h3] at g1 g2 g3 g4
  exact ⟨F, g1, g2, g3, g4⟩
theorem jX_len {op vw : Int} {bs : List UInt8} (h : JmOk op vw bs) : (jX op vw bs).length = 1280 := by
  obtain ⟨F, h1, _⟩ := jX_say h
  exact h1
/-- A slot that has just these bytes: how it is judged, what Get tells. -/
theorem jX_judge {op vw : Int} {bs : List UInt8} (h : JmOk op vw bs) : Slot.judge ((jX op vw bs).take 256) (jX op vw bs) (Slot.of op) = (1, op, vw, false) := by
  obtain ⟨F, _, h2, h3, h4⟩ := jX_say h
  have hb := Slot.of_bounds op
  rw [Slot.judge_in _ _ _ hb, h2, h3, decide_eq_true rfl, Slot.put_same, h4 5 (by omega), h4 3 (by omega)]
  rfl
theorem jX_get {op vw : Int} {bs : List UInt8} (h : JmOk op vw bs) {L : List UInt8} {l : List SlT} {m : Bool} (hL : jpr L (jsl op) = jX op vw bs) (hl : jst l (jsl op) = (1, op, vw, m)) :
    ∃ F, jget L l op = ((0, F, bs), l) ∧ Hd.same F (jm op vw bs.length) := by
  obtain ⟨F, _, h2, _, h4⟩ := jX_say h
  refine ⟨F, ?_, h4⟩
  have hk := (jsl_lt op).2
  have hp : Slot.prep (jpr L (jsl op)) (jsl op) = (true, F, bs) := by rw [hL, ← hk]; exact h2
  have hg : jgood L l op = true := by
    unfold jgood
    rw [hp, hl]
    simp only [h4 5 (by omega), h4 3 (by omega)]
    simp [jm, setF, fP]
  have := h.op1
  unfold jget
  rw [if_neg (by omega), if_neg (by rw [hl]; simp), if_neg (by rw [hl]; omega), if_pos hg, hp]
section
variable {w : World} {gj : Nat} {p : Pl} {L : List UInt8} {l : List SlT}
set_option maxHeartbeats 1000000 in
theorem jputm_any (op vw : Int) (bs : List UInt8) (hm : JmOk op vw bs) (A : Option Addr) (c : Nat) (hby : Bytes w A bs) (hc : bs.length ≤ c ∧ c ≤ 9223372036854775807) (h : JR w gj p L l) :
    Calls Tryz.prog 7 #[.pointer (some ⟨gj, 0, none⟩), .agg (msgc (jm op vw bs.length) (.slice A bs.length c))] w fun e w' => e = .returned (.int .i64 0) ∧
      JR w' gj p (jwr L (jX op vw bs) (jsl op)) (l.set (jsl op) (1, op, vw, false)) ∧ Near (gj :: p.all none) w w' :=
  jput_ok (jm op vw bs.length) A bs.length c bs (jX op vw bs) (jX_len hm) (jX_bytes hm) rfl hby hc (jm_hd hm).2.1 h
end
end Go.Proofs.YtfoegmjpfkmggaaGreatDoor

/- A walk is stopped in an arm, and goes on in the open. Plain facts. No condition. -/
namespace Go.Proofs.YtfoegmjpfkmggaaGreatDoor
structure Stopped (p : Prop) : Prop where
  go : p
theorem stopped {p : Prop} (h : Stopped p) : p := h.go
end Go.Proofs.YtfoegmjpfkmggaaGreatDoor

/- The chapter's examples of journals that each statement looks at. No condition. (Printed by gen/jt.py.) -/
namespace Go.Proofs.YtfoegmjpfkmggaaGreatDoor
open Go.RowKit
def l00 : List SlT := List.replicate 16 (4, 0, 0, false)
def jA1 : List UInt8 := jwr (jL0 (Dsk.new 104).L) (jX 1 0 []) 1
def jA2 : List UInt8 := jwr jA1 (jX 17 2 []) 1
theorem jm1_ok : JmOk 1 0 [] := ⟨by omega, by omega, by omega, by omega, by simp⟩
theorem jm17_ok : JmOk 17 2 [] := ⟨by omega, by omega, by omega, by omega, by simp⟩
theorem jD0_len : 26624 ≤ (Dsk.new 104).L.length := by show 26624 ≤ (List.replicate (104 * 256) (0 : UInt8)).length; rw [List.length_replicate]; omega
theorem jL0_len : 26624 ≤ (jL0 (Dsk.new 104).L).length := by rw [jL0_length jD0_len]; exact jD0_len
theorem jA1_len : 26624 ≤ jA1.length := by unfold jA1; rw [jwr_length jL0_len (jX_len jm1_ok) (by omega)]; exact jL0_len
theorem jA1_get : ∃ F, jget jA1 (l00.set 1 (1, 1, 0, false)) 1 = ((0, F, []), l00.set 1 (1, 1, 0, false)) ∧ Hd.same F (jm 1 0 0) :=
  jX_get jm1_ok (by show jpr jA1 1 = _; unfold jA1; rw [jpr_jwr jL0_len (jX_len jm1_ok) (by omega) (by omega), if_pos rfl]) (m := false) (by rfl)
theorem jA1_get2 : jget jA1 (l00.set 1 (1, 1, 0, false)) 2 = ((6, Hd.none_, []), l00.set 1 (1, 1, 0, false)) := by
  unfold jget
  rw [if_neg (by omega), if_pos (.inl (by decide +kernel))]
theorem jA2_get1 : jget jA2 ((l00.set 1 (1, 1, 0, false)).set 1 (1, 17, 2, false)) 1 = ((6, Hd.none_, []), (l00.set 1 (1, 1, 0, false)).set 1 (1, 17, 2, false)) := by
  unfold jget
  rw [if_neg (by omega), if_pos (.inl (by decide +kernel))]
theorem jA2_pr : jpr jA2 1 = jX 17 2 [] := by unfold jA2; rw [jpr_jwr jA1_len (jX_len jm17_ok) (by omega) (by omega), if_pos rfl]
theorem jA2_hd : jhd jA2 1 = (jX 17 2 []).take 256 := by unfold jA2; rw [jhd_jwr jA1_len (jX_len jm17_ok) (by omega) (by omega), if_pos rfl]
theorem jA2_get17 : ∃ F, jget jA2 (jopd jA2 16) 17 = ((0, F, []), jopd jA2 16) ∧ Hd.same F (jm 17 2 0) := by
  refine jX_get jm17_ok (m := false) jA2_pr ?_
  show jst (jopd jA2 16) 1 = _
  have h1 : 1 < (jopd jA2 16).length := by rw [jopd_length]; omega
  rw [← jst_at h1, jopd_at, if_pos (by omega), jA2_hd, jA2_pr]
  exact jX_judge jm17_ok
theorem Hd.beq_of {F g : HdF} (h : Hd.same F g) : Hd.beq F g = true := (Hd.beq_same F g).2 h
theorem zeroHd_beq : Hd.beq Hd.none_ zeroHd = true := Hd.beq_of (fun _ _ => rfl)
theorem jA1_t1 : ((jget jA1 (l00.set 1 (1, 1, 0, false)) 1).1.1 == 0 && (Hd.beq (jget jA1 (l00.set 1 (1, 1, 0, false)) 1).1.2.1 (jm 1 0 0) && decide ((jget jA1 (l00.set 1 (1, 1, 0, false)) 1).1.2.2 = []))) = true := by
  obtain ⟨F, h1, h2⟩ := jA1_get
  rw [h1]
  simp [Hd.beq_of h2]
theorem jA1_s1 : (jget jA1 (l00.set 1 (1, 1, 0, false)) 1).2 = l00.set 1 (1, 1, 0, false) := by
  obtain ⟨F, h1, h2⟩ := jA1_get
  rw [h1]
theorem jA1_t2 : ((jget jA1 (l00.set 1 (1, 1, 0, false)) 2).1.1 == 6 && (Hd.beq (jget jA1 (l00.set 1 (1, 1, 0, false)) 2).1.2.1 zeroHd && decide ((jget jA1 (l00.set 1 (1, 1, 0, false)) 2).1.2.2 = []))) = true := by
  rw [jA1_get2]
  simp [zeroHd_beq]
theorem jA2_t1 : ((jget jA2 ((l00.set 1 (1, 1, 0, false)).set 1 (1, 17, 2, false)) 1).1.1 == 6 && (Hd.beq (jget jA2 ((l00.set 1 (1, 1, 0, false)).set 1 (1, 17, 2, false)) 1).1.2.1 zeroHd && decide ((jget jA2 ((l00.set 1 (1, 1, 0, false)).set 1 (1, 17, 2, false)) 1).1.2.2 = []))) = true := by
  rw [jA2_get1]
  simp [zeroHd_beq]
theorem jA2_t17 : ((jget jA2 (jopd jA2 16) 17).1.1 == 0 && (Hd.beq (jget jA2 (jopd jA2 16) 17).1.2.1 (jm 17 2 0) && decide ((jget jA2 (jopd jA2 16) 17).1.2.2 = []))) = true := by
  obtain ⟨F, h1, h2⟩ := jA2_get17
  rw [h1]
  simp [Hd.beq_of h2]
set_option maxRecDepth 100000 in
set_option maxHeartbeats 4000000 in
theorem jawake_any (w : World) : Calls Tryz.prog 22 #[] w fun e w' => e = .returned (.bool true) ∧ Below w.heap.size w w' := by
  go_enter Tryz.func22, Tryz.ntmps22
  go_wp2_with fail
  refine (jfresh_any w).mono ?_
  rintro e w1 ⟨p, gj, rfl, hJ, hX, hB⟩
  have H1 := Lib.hid (And.intro hJ (And.intro hX hB))
  clear hJ hX hB
  go_wp2_with fail
  refine (jprep_any 17 2 [] (by simp) w1).mono ?_
  rintro e w2 ⟨g2, c2, rfl, hg2, -, hc2, hb2⟩
  have hjl := H1.out.1.lt
  have H2 := Lib.hid (And.intro hc2 (And.intro hb2 (And.intro (show g2 ≠ gj by omega) hg2.2)))
  clear hc2 hb2 hg2
  go_wp2_with fail
  refine (jprep_any 1 0 [] (by simp) w2).mono ?_
  rintro e w3 ⟨g3, c3, rfl, hg3, -, hc3, hb3⟩
  have hB13 := H2.out.2.1.trans (hb3.mono H2.out.2.1.size)
  have hJ3 := H1.out.1.below hB13
  have hB3 := H1.out.2.2.trans (hB13.mono H1.out.2.2.size)
  have hQ4 := (Blk.new w3 41 #[.int .i64 0, .int .i64 0, .int .i64 0, .int .i64 0, .int .i64 0, .int .i64 0, .int .i64 0, .int .i64 0, .int .i64 0, .int .u64 0, .int .u64 0, .int .i64 0, .int .i64 0, .int .u64 0, .int .i64 0, .int .i64 0, .slice none 0 0]).sub zeroMsg_cells.symm
  have hQ5 := (Blk.new' (w3.alloc (.cells #[.int .i64 0, .int .i64 0, .int .i64 0, .int .i64 0, .int .i64 0, .int .i64 0, .int .i64 0, .int .i64 0, .int .i64 0, .int .u64 0, .int .u64 0, .int .i64 0, .int .i64 0, .int .u64 0, .int .i64 0, .int .i64 0, .slice none 0 0] 41)) 41 #[.int .i64 0, .int .i64 0, .int .i64 0, .int .i64 0, .int .i64 0, .int .i64 0, .int .i64 0, .int .i64 0, .int .i64 0, .int .u64 0, .int .u64 0, .int .i64 0, .int .i64 0, .int .u64 0, .int .i64 0, .int .i64 0, .slice none 0 0] (n := w3.heap.size + 1) (by simp)).sub zeroMsg_cells.symm
  have hQ4' := hQ4.alloc (.cells #[.int .i64 0, .int .i64 0, .int .i64 0, .int .i64 0, .int .i64 0, .int .i64 0, .int .i64 0, .int .i64 0, .int .i64 0, .int .u64 0, .int .u64 0, .int .i64 0, .int .i64 0, .int .u64 0, .int .i64 0, .int .i64 0, .slice none 0 0] 41)
  have hBa := ((Below.refl w3.heap.size w3).alloc (Nat.le_refl _) (.cells #[.int .i64 0, .int .i64 0, .int .i64 0, .int .i64 0, .int .i64 0, .int .i64 0, .int .i64 0, .int .i64 0, .int .i64 0, .int .u64 0, .int .u64 0, .int .i64 0, .int .i64 0, .int .u64 0, .int .i64 0, .int .i64 0, .slice none 0 0] 41)).alloc (by simp) (.cells #[.int .i64 0, .int .i64 0, .int .i64 0, .int .i64 0, .int .i64 0, .int .i64 0, .int .i64 0, .int .i64 0, .int .i64 0, .int .u64 0, .int .u64 0, .int .i64 0, .int .i64 0, .int .u64 0, .int .i64 0, .int .i64 0, .slice none 0 0] 41)
  have hs12 := H2.out.2.1.size
  have hs23 := hb3.size
  have hg2l := H2.out.2.2.2
  have H3 := Lib.hid (And.intro hJ3 (And.intro hB3 (And.intro H2.out.1 (And.intro hc3 (And.intro (show g2 ≠ gj ∧ g3 ≠ gj ∧ g2 < w3.heap.size ∧ g3 < w3.heap.size ∧ gj < w3.heap.size from ⟨H2.out.2.2.1, by omega, by omega, by omega, by omega⟩) hBa)))))
  clear hs12 hs23 hg2l hjl hg3 hB13 hJ3 hB3 hc3 hb3 hQ4 hBa
  simp only [List.length_nil] at H3 ⊢
  go_wp2_with (first
    | ((with_reducible show wpList _ _ _ ((⟨none, _, _, _, _, _⟩ : Oper) :: _) _ _); refine wpList_store_blk (o := ⟨none, _, _, _, _, _⟩) (hQ4') (by rfl) _ _ _ (by rfl) (by rfl) (msgc (jm 17 2 0) (.slice (some ⟨g2, 0, none⟩) 0 c2)) (by rfl) (sizeMsg) (msgc_size _ _) (msgc_size _ _) (msgc_one _ _ rfl) ?_; intro w4 h4 hu4; have h5' := hQ5.upd hu4 (by omega); clear hQ4' hQ5)
    | ((with_reducible show wpList _ _ _ ((⟨none, _, _, _, _, _⟩ : Oper) :: _) _ _); refine wpList_store_blk (o := ⟨none, _, _, _, _, _⟩) (h5') (by rfl) _ _ _ (by rfl) (by rfl) (msgc (jm 1 0 0) (.slice (some ⟨g3, 0, none⟩) 0 c3)) (by rfl) (sizeMsg) (msgc_size _ _) (msgc_size _ _) (msgc_one _ _ rfl) ?_; intro w5 h5 hu5; have h4' := h4.upd hu5 (by omega); clear h4 h5'; refine stopped ?_)
    | fail)
  refine Stopped.mk ?_
  have hB5 := (H3.out.2.2.2.2.2.upd hu4 (Nat.le_refl _)).upd hu5 (Nat.le_succ _)
  have hJ5 := H3.out.1.below hB5
  have hP5 := H3.out.1.jd.lt
  have hXX := H1.out.2.1
  obtain ⟨gp, hgp⟩ : ∃ x, x = w3.heap.size := ⟨_, rfl⟩
  have hpo : gp ∉ gj :: p.all none ∧ gp + 1 ∉ gj :: p.all none := by
    have := H3.out.2.2.2.2.1.2.2.2.2
    refine ⟨fun hx => ?_, fun hx => ?_⟩
    all_goals
      rcases List.mem_cons.1 hx with e | e
      · omega
      · have := hP5 _ e; omega
  rw [← hgp] at h4' h5 ⊢
  have hs5 := hB5.size
  have H5 := Lib.hid (And.intro hpo (And.intro (H3.out.2.1.trans (hB5.mono H3.out.2.1.size)) (And.intro H3.out.2.2.1 (And.intro H3.out.2.2.2.1 (And.intro H3.out.2.2.2.2.1 (show w3.heap.size ≤ w5.heap.size from hs5))))))
  have HA := Lib.hid (And.intro hJ5 (And.intro h4' (And.intro h5 (Near.refl (gj :: p.all none) w5))))
  clear hB5 hJ5 hP5 hXX hgp hpo hu4 hu5 h4' h5 hs5
  go_wp2_with fail
  refine (jempty_true HA.out.1).mono ?_
  rintro e w6 ⟨rfl, hb⟩
  have HB := Lib.hid (And.intro (HA.out.1.below hb) (And.intro (HA.out.2.1.below hb HA.out.2.1.lt) (And.intro (HA.out.2.2.1.below hb HA.out.2.2.1.lt) (HA.out.2.2.2.trans (Near.below hb)))))
  have q5 := HB.out.2.2.1
  clear hb HA
  go_wp2_with (first
    | ((with_reducible show wpList _ _ _ ((⟨some 24, _, _, _, _, _⟩ : Oper) :: _) _ _); refine wpList_want (by rfl) ?_; refine wpList_load_blk (o := ⟨some 24, _, _, _, _, _⟩) (q5) (by rfl) _ _ (by rfl) (by rfl) _ Tryz.underlying41 (by rfl) (sizeMsg) (msgc_size _ _) ?_)
    | fail)
  refine (jputm_any 1 0 [] jm1_ok (some ⟨g3, 0, none⟩) c3 (Reads.nil _ _) H5.out.2.2.2.1 HB.out.1).mono ?_
  rintro e w7 ⟨rfl, hJ, hn⟩
  have HC := Lib.hid (And.intro (show JR w7 gj p jA1 (l00.set 1 (1, 1, 0, false)) from hJ) (And.intro (HB.out.2.1.near hn H5.out.1.1) (And.intro (HB.out.2.2.1.near hn H5.out.1.2) (HB.out.2.2.2.trans hn))))
  clear hJ hn HB q5
  have q5 := HC.out.2.2.1
  go_wp2_with (first
    | ((with_reducible show wpList _ _ _ ((⟨some 30, _, _, _, _, _⟩ : Oper) :: _) _ _); refine wpList_want (by rfl) ?_; refine wpList_load_blk (o := ⟨some 30, _, _, _, _, _⟩) (q5) (by rfl) _ _ (by rfl) (by rfl) _ Tryz.underlying41 (by rfl) (sizeMsg) (msgc_size _ _) ?_)
    | fail)
  refine (jgets_any 1 (jm 1 0 0) (some ⟨g3, 0, none⟩) 0 c3 [] 0 rfl (Reads.nil _ _) HC.out.1 (fun ad e => by cases e; exact H5.out.2.2.2.2.1.2.1)).mono ?_
  rintro e w8 ⟨rfl, hJ, hn⟩
  rw [jA1_t1]
  have hn' := hn.wider (Y := gj :: p.all none) (fun x hx => by rw [List.mem_singleton.1 hx]; exact List.mem_cons_self ..)
  have HD := Lib.hid (And.intro (show JR w8 gj p jA1 (l00.set 1 (1, 1, 0, false)) by rw [jA1_s1] at hJ; exact hJ) (And.intro (HC.out.2.1.near hn' H5.out.1.1) (And.intro (HC.out.2.2.1.near hn' H5.out.1.2) (HC.out.2.2.2.trans hn'))))
  clear hJ hn hn' HC q5
  go_wp2_with fail
  rw [← zeroMsg_cells]
  refine (jgets_any 2 zeroHd none 0 0 [] 6 rfl (Reads.nil _ _) HD.out.1 (fun ad e => by cases e)).mono ?_
  rintro e w9 ⟨rfl, hJ, hn⟩
  rw [jA1_t2]
  have hn' := hn.wider (Y := gj :: p.all none) (fun x hx => by rw [List.mem_singleton.1 hx]; exact List.mem_cons_self ..)
  have HE := Lib.hid (And.intro (show JR w9 gj p jA1 (l00.set 1 (1, 1, 0, false)) by rw [jA1_get2] at hJ; exact hJ) (And.intro (HD.out.2.1.near hn' H5.out.1.1) (And.intro (HD.out.2.2.1.near hn' H5.out.1.2) (HD.out.2.2.2.trans hn'))))
  clear hJ hn hn' HD
  have q4 := HE.out.2.1
  go_wp2_with (first
    | ((with_reducible show wpList _ _ _ ((⟨some 42, _, _, _, _, _⟩ : Oper) :: _) _ _); refine wpList_want (by rfl) ?_; refine wpList_load_blk (o := ⟨some 42, _, _, _, _, _⟩) (q4) (by rfl) _ _ (by rfl) (by rfl) _ Tryz.underlying41 (by rfl) (sizeMsg) (msgc_size _ _) ?_)
    | fail)
  refine (jputm_any 17 2 [] jm17_ok (some ⟨g2, 0, none⟩) c2 (Reads.nil _ _) H5.out.2.2.1 HE.out.1).mono ?_
  rintro e w10 ⟨rfl, hJ, hn⟩
  have HF := Lib.hid (And.intro (show JR w10 gj p jA2 ((l00.set 1 (1, 1, 0, false)).set 1 (1, 17, 2, false)) from hJ) (And.intro (HE.out.2.1.near hn H5.out.1.1) (HE.out.2.2.2.trans hn)))
  clear hJ hn HE q4
  go_wp2_with fail
  rw [← zeroMsg_cells]
  refine (jgets_any 1 zeroHd none 0 0 [] 6 rfl (Reads.nil _ _) HF.out.1 (fun ad e => by cases e)).mono ?_
  rintro e w11 ⟨rfl, hJ, hn⟩
  rw [jA2_t1]
  have hn' := hn.wider (Y := gj :: p.all none) (fun x hx => by rw [List.mem_singleton.1 hx]; exact List.mem_cons_self ..)
  have HG := Lib.hid (And.intro (show JR w11 gj p jA2 ((l00.set 1 (1, 1, 0, false)).set 1 (1, 17, 2, false)) by rw [jA2_get1] at hJ; exact hJ) (And.intro (HF.out.2.1.near hn' H5.out.1.1) (HF.out.2.2.trans hn')))
  clear hJ hn hn' HF
  go_wp2_with fail
  refine (jopen_any HG.out.1.jd).mono ?_
  rintro e w12 ⟨gk, rfl, hgk, hJk, hb⟩
  have hs11 := HG.out.2.2.size
  have HH := Lib.hid (And.intro hJk (And.intro (HG.out.2.1.below hb HG.out.2.1.lt) (And.intro (HG.out.2.2.trans (Near.below hb)) (And.intro (show g2 ≠ gk by have := H5.out.2.2.2.2.1.2.2.1; have := H5.out.2.2.2.2.2; omega) (show w5.heap.size ≤ gk by omega)))))
  clear hgk hJk hb hs11 HG
  have q4 := HH.out.2.1
  go_wp2_with (first
    | ((with_reducible show wpList _ _ _ ((⟨some 61, _, _, _, _, _⟩ : Oper) :: _) _ _); refine wpList_want (by rfl) ?_; refine wpList_load_blk (o := ⟨some 61, _, _, _, _, _⟩) (q4) (by rfl) _ _ (by rfl) (by rfl) _ Tryz.underlying41 (by rfl) (sizeMsg) (msgc_size _ _) ?_)
    | fail)
  refine (jgets_any 17 (jm 17 2 0) (some ⟨g2, 0, none⟩) 0 c2 [] 0 rfl (Reads.nil _ _) HH.out.1 (fun ad e => by cases e; exact HH.out.2.2.2.1)).mono ?_
  rintro e w13 ⟨rfl, -, hn⟩
  rw [jA2_t17]
  have HI := Lib.hid (H5.out.2.1.trans ((HH.out.2.2.1.high hn (fun y hy => by rw [List.mem_singleton.1 hy]; exact HH.out.2.2.2.2)).toBelow (fun x hx => H1.out.2.1 x hx) H5.out.2.1.size))
  clear hn q4 HH
  go_wp2
  go_ret
  exact ⟨rfl, HI.out⟩
end Go.Proofs.YtfoegmjpfkmggaaGreatDoor

/- What a Cut's closures do. Conditions: the journal, the slot's number, the header's bytes lie in known blocks apart from the disk's. -/
namespace Go.Proofs.YtfoegmjpfkmggaaGreatDoor
open Go.RowKit
section
variable {w : World} {jb nb ob gj : Nat} {p : Pl} {k : Nat} {L : List UInt8}
theorem cut1_any (a b c : Int) (d : Bool) (op : Int) (xb : Nat) (w : World) (hx : w.cell? ⟨xb, 0, none⟩ = some (.int .i64 op)) : Calls Tryz.prog 70 #[.agg #[.int .i64 a, .int .i64 b, .int .i64 c, .bool d], .pointer (some ⟨xb, 0, none⟩)] w fun e w' => e = .returned (.bool (decide (op < b))) ∧ Below w.heap.size w w' := by
  have hB := (Below.refl w.heap.size w).alloc (Nat.le_refl _) (.cells #[.int .i64 a, .int .i64 b, .int .i64 c, .bool d] 44)
  have q1 := (Blk.new w 44 #[.int .i64 a, .int .i64 b, .int .i64 c, .bool d]).at_ 1 (v := .int .i64 b) rfl
  have q2 := (Near.below (X := []) hB).cell_ (by simp) hx
  have HB := Lib.hid hB
  clear hB hx
  go_enter Tryz.func70, Tryz.ntmps70
  go_wp2
  go_ret
  exact ⟨rfl, HB.out⟩
/-- What a Cut's closures know. -/
structure CutK (w : World) (jb nb gj : Nat) (p : Pl) (k : Nat) : Prop where
  j : Blk w jb 26 #[.pointer (some ⟨gj, 0, none⟩)]
  n : Blk w nb 3 #[.int .i64 (k : Int)]
  d : w.cell? ⟨gj, 0, none⟩ = some (.pointer (some ⟨p.gd, 0, none⟩))
  k16 : k < 16
  off : jb ∉ p.all none ∧ nb ∉ p.all none ∧ gj ∉ p.all none
theorem CutK.near {w w' : World} (h : CutK w jb nb gj p k) (hn : Near (p.all none) w w') : CutK w' jb nb gj p k :=
  ⟨h.j.near hn h.off.1, h.n.near hn h.off.2.1, hn.cell_ h.off.2.2 h.d, h.k16, h.off⟩
set_option maxRecDepth 100000 in
set_option maxHeartbeats 1000000 in
theorem cut2_any (A : Option Addr) (c : Nat) (H : List UInt8) (hH : H.length = 256) (hc : 256 ≤ c) (h : CutK w jb nb gj p k) (hob : Blk w ob 39 #[.slice A 256 c]) (hby : Bytes w A H) (hA : ∀ ad, A = some ad → ad.block ∉ p.all none) (hoff : ob ∉ p.all none) (hd : JD w p L) :
    Calls Tryz.prog 73 #[.pointer (some ⟨jb, 0, none⟩), .pointer (some ⟨nb, 0, none⟩), .pointer (some ⟨ob, 0, none⟩)] w fun e w' => e = .returned (.int .i64 0) ∧ JD w' p (wr L (256 * (8 + k)) H) ∧ Near (p.all none) w w' := by
  have hC0 : Near (p.all none) w w.drew := (Near.refl _ _).drew
  have HK := Lib.hid (And.intro h (And.intro hd (And.intro hob (And.intro hby (And.intro hA (And.intro hoff (And.intro hH hc)))))))
  have hk := h.k16
  have k1 : wrap64 (8 + (k : Int)) = ((8 + k : Nat) : Int) := by unfold wrap64; omega
  clear h hd hob hby hA hoff hH hc
  go_enter Tryz.func73, Tryz.ntmps73
  go_wp2_with fail
  refine wp_region_tree (Near (p.all none) w) [] (PlanT.takes [0, 4, 6] (PlanT.takes [1, 2, 5] (PlanT.takes [3] (.opt 7 (PlanT.takes [8] .done) .no)))) (by kernel_rfl) (by kernel_rfl) (hC0) ?_
  refine wpTree_takeL _ _ _ (by rfl) (by rfl) (hC0) ?_
  dsimp only [List.filterMap, List.getElem?_cons_zero, List.getElem?_cons_succ]
  (refine wpQuiet_load_cell (fun w' hw' => (Blk.near HK.out.1.j hw' HK.out.1.off.1).at_ 0 (v := .pointer (some ⟨gj, 0, none⟩)) rfl) (by rfl) _ _ (by rfl) (by rfl) _ Tryz.underlying26 (by rfl) ?_; simp only [Act.put, List.setIfInBounds_toArray, List.set_cons_zero, List.set_cons_succ])
  (refine wpQuiet_load_cell (fun w' hw' => (Blk.near HK.out.1.n hw' HK.out.1.off.2.1).at_ 0 (v := .int .i64 (k : Int)) rfl) (by rfl) _ _ (by rfl) (by rfl) _ Tryz.underlying3 (by rfl) ?_; simp only [Act.put, List.setIfInBounds_toArray, List.set_cons_zero, List.set_cons_succ])
  (refine wpQuiet_load_cell (fun w' hw' => (Blk.near HK.out.2.2.1 hw' HK.out.2.2.2.2.2.1).at_ 0 (v := .slice A 256 c) rfl) (by rfl) _ _ (by rfl) (by rfl) _ Tryz.underlying39 (by rfl) ?_; simp only [Act.put, List.setIfInBounds_toArray, List.set_cons_zero, List.set_cons_succ])
  refine wpQuiet_nil ?_
  refine wpTree_pure _ _ _ (by rfl) (by rfl) ?_
  dsimp only [List.filterMap, List.getElem?_cons_zero, List.getElem?_cons_succ]
  repeat (go_big_quiet_step (fail))
  refine wpQuiet_nil ?_
  refine wpTree_takeL _ _ _ (by rfl) (by rfl) (hC0) ?_
  dsimp only [List.filterMap, List.getElem?_cons_zero, List.getElem?_cons_succ]
  (refine wpQuiet_load_cell (fun w' hw' => Near.cell_ hw' HK.out.1.off.2.2 HK.out.1.d) (by rfl) _ _ (by rfl) (by rfl) _ Tryz.underlying25 (by rfl) ?_; simp only [Act.put, List.setIfInBounds_toArray, List.set_cons_zero, List.set_cons_succ])
  refine wpQuiet_nil ?_
  refine wpTree_one _ rfl ?_
  go_wp2_with fail
  refine (jdwrite (8 + k) 256 c A H HK.out.2.2.2.2.2.2.1.symm (Bytes.near HK.out.2.2.2.1 hC0 HK.out.2.2.2.2.1) HK.out.2.2.2.2.1 (by rw [HK.out.2.2.2.2.2.2.1]; exact HK.out.2.2.2.2.2.2.2) (by rw [HK.out.2.2.2.2.2.2.1]; omega) (HK.out.2.1.near (Near.refl _ _).drew)).mono ?_
  rintro e w2 ⟨rfl, hd2, hn2⟩
  have hC2 := hC0.trans hn2
  have HR := Lib.hid (And.intro hd2 hC2)
  clear hd2 hn2 HK
  go_wp2_with fail
  refine TreeQ.in_ hC2 ?_
  refine wpTree_pure _ _ _ (by rfl) (by rfl) ?_
  dsimp only [List.filterMap, List.getElem?_cons_zero, List.getElem?_cons_succ]
  repeat (go_big_quiet_step (fail))
  refine wpQuiet_nil ?_
  refine wpTree_done ?_
  clear hC2
  go_wp2
  go_ret
  exact ⟨rfl, HR.out⟩
set_option maxRecDepth 100000 in
set_option maxHeartbeats 1000000 in
theorem cut3_any (h : CutK w jb nb gj p k) (hd : JD w p L) :
    Calls Tryz.prog 74 #[.pointer (some ⟨jb, 0, none⟩), .pointer (some ⟨nb, 0, none⟩)] w fun e w' => e = .returned (.int .i64 0) ∧ (∃ Z : List UInt8, Z = List.replicate 1280 0 ∧ JD w' p (wr L (256 * (24 + 5 * k)) Z)) ∧ Near (p.all none) w w' := by
  have hC0 : Near (p.all none) w w.drew := (Near.refl _ _).drew
  have HK := Lib.hid (And.intro h (And.intro hd hd.lt))
  have hk := h.k16
  clear h hd
  go_enter Tryz.func74, Tryz.ntmps74
  go_wp2_with fail
  refine wp_region_tree (Near (p.all none) w) [] (PlanT.takes [0, 4] (PlanT.takes [1, 2] (PlanT.takes [3] (.opt 5 (.opt 6 (.opt 7 (PlanT.takes [8] .done) .no) .no) (.opt 6 (.opt 5 (.opt 7 (PlanT.takes [8] .done) .no) .no) .no))))) (by kernel_rfl) (by kernel_rfl) (hC0) ?_
  refine wpTree_takeL _ _ _ (by rfl) (by rfl) (hC0) ?_
  dsimp only [List.filterMap, List.getElem?_cons_zero, List.getElem?_cons_succ]
  (refine wpQuiet_load_cell (fun w' hw' => (Blk.near HK.out.1.j hw' HK.out.1.off.1).at_ 0 (v := .pointer (some ⟨gj, 0, none⟩)) rfl) (by rfl) _ _ (by rfl) (by rfl) _ Tryz.underlying26 (by rfl) ?_; simp only [Act.put, List.setIfInBounds_toArray, List.set_cons_zero, List.set_cons_succ])
  (refine wpQuiet_load_cell (fun w' hw' => (Blk.near HK.out.1.n hw' HK.out.1.off.2.1).at_ 0 (v := .int .i64 (k : Int)) rfl) (by rfl) _ _ (by rfl) (by rfl) _ Tryz.underlying3 (by rfl) ?_; simp only [Act.put, List.setIfInBounds_toArray, List.set_cons_zero, List.set_cons_succ])
  refine wpQuiet_nil ?_
  refine wpTree_pure _ _ _ (by rfl) (by rfl) ?_
  dsimp only [List.filterMap, List.getElem?_cons_zero, List.getElem?_cons_succ]
  repeat (go_big_quiet_step (fail))
  refine wpQuiet_nil ?_
  refine wpTree_takeL _ _ _ (by rfl) (by rfl) (hC0) ?_
  dsimp only [List.filterMap, List.getElem?_cons_zero, List.getElem?_cons_succ]
  (refine wpQuiet_load_cell (fun w' hw' => Near.cell_ hw' HK.out.1.off.2.2 HK.out.1.d) (by rfl) _ _ (by rfl) (by rfl) _ Tryz.underlying25 (by rfl) ?_; simp only [Act.put, List.setIfInBounds_toArray, List.set_cons_zero, List.set_cons_succ])
  refine wpQuiet_nil ?_
  refine wpTree_opt _ rfl ?_ (wpTree_one _ rfl ?_)
  · go_wp2_with fail
    refine (jplace_any (k : Int) (by omega) _).mono ?_
    rintro e w1 ⟨rfl, hw⟩
    obtain rfl := hw.symm
    clear hw
    rw [show (24 : Int) + 5 * (k : Int) = ((24 + 5 * k : Nat) : Int) by omega]
    go_wp2_with fail
    refine TreeQ.in_ hC0 ?_
    refine wpTree_one _ rfl ?_
    go_wp2_with (first
      | ((with_reducible show wpList _ _ _ ((⟨some 9, _, _, _, _, _⟩ : Oper) :: _) _ _); refine wpList_make_bytes (o := ⟨some 9, _, _, _, _, _⟩) _ (by rfl) _ _ _ (by rfl) 5 Tryz.underlying39 u8info .i64 .i64 1280 1280 1280 1280 (by rfl) (by rfl) (by rfl) (by rfl) (by omega) (by omega) ?_; intro w3 hb3 hB3 hz3; obtain ⟨Z, hZ⟩ : ∃ Z : List UInt8, Z = List.replicate 1280 0 := ⟨_, rfl⟩; rw [← hZ] at hb3; have H3 := Lib.hid (And.intro hb3 (And.intro hB3 hZ)); clear hb3 hB3 hz3 hZ)
      | fail)
    have hn3 : Near [] w w3 := (Near.refl _ _).drew.trans (Near.below H3.out.2.1)
    have hn3p : Near (p.all none) w w3 := hn3.wider (fun x hx => by cases hx)
    have hZl : Z.length = 1280 := by rw [H3.out.2.2]; exact List.length_replicate ..
    have hsz : w.drew.heap.size ∉ p.all none := fun hx => by have := HK.out.2.2 _ hx; rw [World.size_drew] at this; omega
    have HW := Lib.hid (jdwrite (24 + 5 * k) 1280 1280 (some ⟨w.drew.heap.size, 0, none⟩) Z hZl.symm (Blk.bytes H3.out.1) (fun ad e => by injection e with e; rw [← e]; exact hsz) (by omega) (by omega) (HK.out.2.1.near hn3))
    refine TreeQ.in_ hn3p ?_
    refine wpTree_one _ rfl ?_
    clear hsz hn3
    go_wp2_with fail
    refine HW.out.mono ?_
    rintro e w4 ⟨rfl, hd4, hn4⟩
    have hn4p : Near (p.all none) w w4 := hn3p.trans hn4
    have HE := Lib.hid (And.intro hd4 (And.intro hn4p H3.out.2.2))
    clear hd4 hn4 hn3p HW
    go_wp2_with fail
    refine TreeQ.in_ hn4p ?_
    refine wpTree_pure _ _ _ (by rfl) (by rfl) ?_
    dsimp only [List.filterMap, List.getElem?_cons_zero, List.getElem?_cons_succ]
    repeat (go_big_quiet_step (fail))
    refine wpQuiet_nil ?_
    refine wpTree_done ?_
    clear hn4p hC0
    go_wp2
    go_ret
    exact ⟨rfl, ⟨Z, HE.out.2.2, HE.out.1⟩, HE.out.2.1⟩
  · go_wp2_with (first
      | ((with_reducible show wpList _ _ _ ((⟨some 9, _, _, _, _, _⟩ : Oper) :: _) _ _); refine wpList_make_bytes (o := ⟨some 9, _, _, _, _, _⟩) _ (by rfl) _ _ _ (by rfl) 5 Tryz.underlying39 u8info .i64 .i64 1280 1280 1280 1280 (by rfl) (by rfl) (by rfl) (by rfl) (by omega) (by omega) ?_; intro w3 hb3 hB3 hz3; obtain ⟨Z, hZ⟩ : ∃ Z : List UInt8, Z = List.replicate 1280 0 := ⟨_, rfl⟩; rw [← hZ] at hb3; have H3 := Lib.hid (And.intro hb3 (And.intro hB3 hZ)); clear hb3 hB3 hz3 hZ)
      | fail)
    have hn3 : Near [] w w3 := (Near.refl _ _).drew.trans (Near.below H3.out.2.1)
    have hn3p : Near (p.all none) w w3 := hn3.wider (fun x hx => by cases hx)
    have hZl : Z.length = 1280 := by rw [H3.out.2.2]; exact List.length_replicate ..
    have hsz : w.drew.heap.size ∉ p.all none := fun hx => by have := HK.out.2.2 _ hx; rw [World.size_drew] at this; omega
    have HW := Lib.hid (jdwrite (24 + 5 * k) 1280 1280 (some ⟨w.drew.heap.size, 0, none⟩) Z hZl.symm (Blk.bytes H3.out.1) (fun ad e => by injection e with e; rw [← e]; exact hsz) (by omega) (by omega) (HK.out.2.1.near hn3))
    refine TreeQ.in_ hn3p ?_
    refine wpTree_one _ rfl ?_
    clear hsz hn3
    go_wp2_with fail
    refine (jplace_any (k : Int) (by omega) _).mono ?_
    rintro e w1 ⟨rfl, hw⟩
    obtain rfl := hw.symm
    clear hw
    rw [show (24 : Int) + 5 * (k : Int) = ((24 + 5 * k : Nat) : Int) by omega]
    go_wp2_with fail
    refine TreeQ.in_ hn3p ?_
    refine wpTree_one _ rfl ?_
    go_wp2_with fail
    refine HW.out.mono ?_
    rintro e w4 ⟨rfl, hd4, hn4⟩
    have hn4p : Near (p.all none) w w4 := hn3p.trans hn4
    have HE := Lib.hid (And.intro hd4 (And.intro hn4p H3.out.2.2))
    clear hd4 hn4 hn3p HW
    go_wp2_with fail
    refine TreeQ.in_ hn4p ?_
    refine wpTree_pure _ _ _ (by rfl) (by rfl) ?_
    dsimp only [List.filterMap, List.getElem?_cons_zero, List.getElem?_cons_succ]
    repeat (go_big_quiet_step (fail))
    refine wpQuiet_nil ?_
    refine wpTree_done ?_
    clear hn4p hC0
    go_wp2
    go_ret
    exact ⟨rfl, ⟨Z, HE.out.2.2, HE.out.1⟩, HE.out.2.1⟩
end
end Go.Proofs.YtfoegmjpfkmggaaGreatDoor

/- An operation that calls nothing is carried out inside a fence as outside. Plain facts over any program. No condition. -/
namespace Go
section
variable {P : Program} {ops : Array Oper} {F : Fence} {n : Nat} {Q : Exit → Act → World → Prop} {a : Act} {w : World} {rest : List Oper}
theorem wpListIn_of {o : Oper} (hc : o.op.calmB = true) (h : wpList P ops (fun e a' w' => e = .normal ∧ wpListIn F n P ops Q rest a' w') [o] a w) : wpListIn F n P ops Q (o :: rest) a w := by
  simp only [wpList] at h
  simp only [wpListIn]
  split
  · rename_i hw
    rw [if_pos hw] at h
    have h1 := h.resolve_right fun hh => by obtain ⟨_, _, hq⟩ := hh.2; cases hq.1
    unfold Oper.wp at h1
    unfold Oper.wpIn
    refine ⟨fun f hf => (by rw [calm_about hc] at hf; cases hf), ?_⟩
    rw [calm_semAt hc]
    cases hr : (execOp a.eval o).run P w with
    | ok x w' =>
      rw [hr] at h1
      rcases calm_run hc _ _ _ _ hr with ⟨v, rfl⟩ | rfl
      · exact h1.2
      · exact h1.2
    | halt x w' =>
      rw [hr] at h1
      cases x <;> first | exact absurd h1.1 (by simp) | exact h1.elim
  · rename_i hw
    rw [if_neg hw] at h
    exact ⟨fun f hf => (by rw [calm_about hc] at hf; cases hf), h.2⟩
end
end Go
