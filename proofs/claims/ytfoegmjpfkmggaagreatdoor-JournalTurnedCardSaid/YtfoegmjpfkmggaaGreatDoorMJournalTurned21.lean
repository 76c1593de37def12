/- Turned bytes make no other prepare of a journal: the statement, as a call. Conditions: the arguments can be read. (Printed by gen/kd.py.) -/
import Derived.Test.YtfoegmjpfkmggaaGreatDoorMJournalTurned20
import Derived.Test.YtfoegmjpfkmggaaGreatDoorTie
import Derived.Test.YtfoegmjpfkmggaaGreatDoorCards
import Derived.SevenTiedAt
namespace Go.Proofs.YtfoegmjpfkmggaaGreatDoor
open Go.RowKit
abbrev StT := (Int × Int × Int × Int) × List UInt8 × (Option Addr × Nat × Nat) × Int
def strow (x : StT) : List Value := [.int .i64 x.1.1, .int .i64 x.1.2.1, .int .i64 x.1.2.2.1, .int .i64 x.1.2.2.2, .string (str x.2.1), .slice x.2.2.1.1 x.2.2.1.2.1 x.2.2.1.2.2, .int .i64 x.2.2.2]
def turow (x : Int × UInt8) : List Value := [.int .i64 x.1, .int .u8 (iu8 x.2)]
theorem askOk_put {L : List UInt8} {l : List SlT} (hL : 26624 ≤ L.length) (hl : l.length = 16) {op vw : Int} {bs : List UInt8} (hm : JmOk op vw bs) (h : ∀ i, i < 16 → AskOk L l i) :
    ∀ i, i < 16 → AskOk (jwr L (jX op vw bs) (jsl op)) (l.set (jsl op) (1, op, vw, false)) i := by
  intro i hi
  have hk := (jsl_lt op).1
  have hp := jpr_jwr (X := jX op vw bs) hL (jX_len hm) hk hi
  have hj := jst_set (l := l) (n := i) (m := jsl op) (x := (1, op, vw, false)) (by rw [hl]; exact hk)
  by_cases e : i = jsl op
  · rw [if_pos e] at hp hj
    obtain ⟨F, -, h2, -, h4⟩ := jX_say hm
    have e5 : F 5 = op := h4 5 (by omega)
    have e3 : F 3 = vw := h4 3 (by omega)
    refine .inr ⟨F, bs, ?_, ?_, by rw [e5]; exact hm.op1, by rw [e5]; exact e.symm⟩
    · rw [hp, e, ← (jsl_lt op).2]; exact h2
    · rw [hj, e5, e3]
  · rw [if_neg e] at hp hj
    rcases h i hi with h | ⟨F, b, h1, h2, h3, h4⟩
    · exact .inl (by rw [hj]; exact h)
    · exact .inr ⟨F, b, by rw [hp]; exact h1, by rw [hj]; exact h2, h3, h4⟩
def KtA (w : World) (gj : Nat) (p : Pl) (n : Nat) (i : Value) (wr : World) : Prop := ∃ (k : Nat) (L : List UInt8) (ls : List SlT), k ≤ n ∧ i = .int .i64 (k : Int) ∧ JR wr gj p L ls ∧ (∀ t, t < 16 → AskOk L ls t) ∧ Near (gj :: p.all none) w wr
def KtB (WB : World) (b11 b12 : Nat) (L : List UInt8) (i : Value) (wr : World) : Prop := ∃ (k : Nat) (gs : Nat → Nat × Nat), k ≤ 16 ∧ i = .int .i64 (k : Int) ∧ Blk wr b11 50 (arr 16 fun t => if t < k then .slice (some ⟨(gs t).1, 0, none⟩) 256 256 else .slice none 0 0) ∧
  Blk wr b12 50 (arr 16 fun t => if t < k then .slice (some ⟨(gs t).2, 0, none⟩) 1280 1280 else .slice none 0 0) ∧
  (∀ t, t < k → Bytes wr (some ⟨(gs t).1, 0, none⟩) (jhd L t) ∧ Bytes wr (some ⟨(gs t).2, 0, none⟩) (jpr L t) ∧ WB.heap.size ≤ (gs t).1 ∧ WB.heap.size ≤ (gs t).2) ∧ Near [b11, b12] WB wr
def KtC (WR : World) (gj : Nat) (p : Pl) (m : Nat) (ls : List SlT) (i : Value) (wr : World) : Prop := ∃ (k : Nat) (L : List UInt8), k ≤ m ∧ i = .int .i64 (k : Int) ∧ JR wr gj p L ls ∧ Near [p.gl] WR wr
def KtD (WD : World) (L L2 : List UInt8) (i : Value) (wr : World) : Prop := ∃ (k : Nat), k ≤ 16 ∧ i = .int .i64 (k : Int) ∧ (∀ t, t < k → NotForged L2 (jpr L t) t) ∧ Below WD.heap.size WD wr
theorem jr_turned {w w' : World} {gj : Nat} {p : Pl} {L L' : List UInt8} {l : List SlT} (h : JR w gj p L l) (hd : JD w' p L') (k : Near [p.gl] w w') : JR w' gj p L' l :=
  ⟨hd, h.jb.near k (fun hx => h.off (by rw [List.mem_singleton.1 hx]; simp [Pl.all])), h.n16⟩
theorem jget_case (L : List UInt8) (l : List SlT) (op : Int) : (jget L l op).1.1 = 6 ∨ (jget L l op).1.1 = 13 ∨ ((jget L l op).1.1 = 0 ∧ (Slot.prep (jpr L (jsl op)) (jsl op)).1 = true ∧ (jget L l op).1.2 = (Slot.prep (jpr L (jsl op)) (jsl op)).2) := by
  unfold jget
  split
  · exact .inl rfl
  · split
    · exact .inl rfl
    · split
      · exact .inr (.inl rfl)
      · split
        · rename_i h
          refine .inr (.inr ⟨rfl, ?_, rfl⟩)
          unfold jgood at h
          rw [Bool.and_eq_true, Bool.and_eq_true] at h
          exact h.1.1
        · exact .inr (.inl rfl)
theorem jget_six {L : List UInt8} {l : List SlT} {op : Int} (h1 : 1 ≤ op) (h2 : (jst l (jsl op)).2.1 = op) (h3 : (jst l (jsl op)).1 = 1) : (jget L l op).1.1 ≠ 6 := by
  unfold jget
  rw [if_neg (by omega), if_neg (by rw [h2, h3]; omega), if_neg (by rw [h3]; omega)]
  split <;> simp
theorem jget_off {L : List UInt8} {l : List SlT} {op : Int} (hl : l.length = 16) {t : Nat} (ht : t ≠ jsl op) : jst (jget L l op).2 t = jst l t := by
  have hk := (jsl_lt op).1
  unfold jget
  split
  · rfl
  · split
    · rfl
    · split
      · rfl
      · split
        · rfl
        · dsimp only
          rw [jst_set (by omega), if_neg ht]
def KtE (WE : World) (gj gk : Nat) (p : Pl) (L2 : List UInt8) (ls : List SlT) (i : Value) (wr : World) : Prop := ∃ (k : Nat) (lj lk : List SlT), k ≤ 16 ∧ i = .int .i64 (k : Int) ∧ JR wr gj p L2 lj ∧ JR wr gk p L2 lk ∧ (∀ t, k ≤ t → jst lj t = jst ls t) ∧ Near [gj, gk] WE wr
theorem askMs_far {L : List UInt8} {l : List SlT} {ms : Nat → MsT} {base k : Nat} {w w' : World} {X : List Nat} (h : AskMs L l ms base k w) (hn : Near X w w') (hX : ∀ x ∈ X, x < base ∨ w.heap.size ≤ x) {t : Nat} (ht : t < k) :
    (ms t).1 = (askM L l t).1 ∧ ∃ A c, (ms t).2 = .slice A (askM L l t).2.length c ∧ Bytes w' A (askM L l t).2 := by
  obtain ⟨e1, A, c, e2, hb, hl⟩ := h t ht
  refine ⟨e1, A, c, e2, ?_⟩
  rcases Nat.eq_zero_or_pos (askM L l t).2.length with e | e
  · rw [List.eq_nil_of_length_eq_zero e]; exact Reads.nil _ _
  · obtain ⟨b, off, rfl, hlt, _⟩ := Bytes.at_ hb e
    exact hb.near hn (fun ad ea hx => by
      have h1 := hl ad ea
      cases ea
      rcases hX _ hx with h2 | h2
      · omega
      · exact absurd hlt (by show ¬ b < _; exact Nat.not_lt.2 h2))
theorem own_near {e : TypeId} {w w' : World} {base n c : Nat} {A : Option Addr} {l sp : List UInt8} {X : List Nat} (h : OwnB e w base (.slice A n c) l sp) (hb : Bytes w A l) (k : Near X w w') (hX : ∀ x ∈ X, x < base) : Bytes w' A l := by
  rcases Nat.eq_zero_or_pos l.length with e0 | e0
  · rw [List.eq_nil_of_length_eq_zero e0]; exact Reads.nil _ _
  · obtain ⟨g, cap, e1, hg, _⟩ := h.at_ e0
    injection e1 with e1 e2 e3
    subst e1
    exact hb.near k (fun ad ea hx => by
      cases ea
      exact absurd (hX _ hx) (Nat.not_lt.2 hg))
theorem ktB_succ {WB wr w8 : World} {c11 c12 gh gp k : Nat} {L : List UInt8} {gs : Nat → Nat × Nat} (hc : c11 ≠ c12) (h1 : c11 < WB.heap.size) (h2 : c12 < WB.heap.size) (hk : k < 16)
    (hby : ∀ t, t < k → Bytes wr (some ⟨(gs t).1, 0, none⟩) (jhd L t) ∧ Bytes wr (some ⟨(gs t).2, 0, none⟩) (jpr L t) ∧ WB.heap.size ≤ (gs t).1 ∧ WB.heap.size ≤ (gs t).2) (hnr : Near [c11, c12] WB wr)
    (g11 : Blk w8 c11 50 (arr 16 fun t => if t < k then .slice (some ⟨(gs t).1, 0, none⟩) 256 256 else .slice none 0 0))
    (g12 : Blk w8 c12 50 (arr 16 fun t => if t < k then .slice (some ⟨(gs t).2, 0, none⟩) 1280 1280 else .slice none 0 0))
    (hh : Bytes w8 (some ⟨gh, 0, none⟩) (jhd L k)) (hp : Bytes w8 (some ⟨gp, 0, none⟩) (jpr L k)) (hg : wr.heap.size ≤ gh ∧ wr.heap.size ≤ gp) (hb : Below wr.heap.size wr w8) :
    KtB WB c11 c12 L (.int .i64 ((k : Int) + 1)) ((w8.setCell ⟨c11, k, none⟩ (.slice (some ⟨gh, 0, none⟩) 256 256)).setCell ⟨c12, k, none⟩ (.slice (some ⟨gp, 0, none⟩) 1280 1280)) := by
  have hs := hnr.size
  have hn2 : Near [c11, c12] w8 ((w8.setCell ⟨c11, k, none⟩ (.slice (some ⟨gh, 0, none⟩) 256 256)).setCell ⟨c12, k, none⟩ (.slice (some ⟨gp, 0, none⟩) 1280 1280)) :=
    (Near.upd ((Upd.refl c11 w8).set k _) (by simp)).trans (Near.upd ((Upd.refl c12 _).set k _) (by simp))
  refine ⟨k + 1, fun t => if t = k then (gh, gp) else gs t, by omega, by go_num, ?_, ?_, ?_, (hnr.trans (Near.below hb)).trans hn2⟩
  · refine (((g11.set_ k _).sub (arr_set _ _ _ _)).off hc _).sub (arr_congr fun t ht => ?_)
    by_cases e : t = k
    · subst e; simp
    · simp only [if_neg e]
      by_cases e2 : t < k
      · rw [if_pos e2, if_pos (by omega)]
      · rw [if_neg e2, if_neg (by omega)]
  · refine (((g12.off hc.symm _).set_ k _).sub (arr_set _ _ _ _)).sub (arr_congr fun t ht => ?_)
    by_cases e : t = k
    · subst e; simp
    · simp only [if_neg e]
      by_cases e2 : t < k
      · rw [if_pos e2, if_pos (by omega)]
      · rw [if_neg e2, if_neg (by omega)]
  · intro t ht
    by_cases e : t = k
    · subst e
      simp only [if_pos]
      exact ⟨hh.near hn2 (fun ad e => by cases e; simp; omega), hp.near hn2 (fun ad e => by cases e; simp; omega), by omega, by omega⟩
    · obtain ⟨x1, x2, x3, x4⟩ := hby t (by omega)
      simp only [if_neg e]
      exact ⟨(x1.below hb).near hn2 (fun ad e => by cases e; simp; omega), (x2.below hb).near hn2 (fun ad e => by cases e; simp; omega), x3, x4⟩
set_option maxRecDepth 100000 in
set_option maxHeartbeats 8000000 in
theorem jturned_law (A B : Option Addr) (c d : Nat) (l : List StT) (ts : List (Int × UInt8)) (w : World) (hA : Reads w A (l.flatMap strow)) (hB : Reads w B (ts.flatMap turow)) :
    Calls Tryz.prog 3 #[.slice A l.length c, .slice B ts.length d] w fun e w' => e = .returned (.bool true) ∧ Below w.heap.size w w' := by
  obtain ⟨n, hn⟩ : ∃ n, n = l.length := ⟨_, rfl⟩
  obtain ⟨m, hm⟩ : ∃ m, m = ts.length := ⟨_, rfl⟩
  rw [← hn, ← hm]
  have H0 := Lib.hid (And.intro hA (And.intro hB (And.intro hn hm)))
  clear hA hB hn hm
  go_enter Tryz.func3, Tryz.ntmps3
  go_wp2_with fail
  refine (jknown_any w).mono ?_
  rintro e w1 ⟨rfl, hb1⟩
  have H1 := Lib.hid hb1
  clear hb1
  go_wp2_with fail
  refine (jfresh_any w1).mono ?_
  rintro e w2 ⟨p, gj, rfl, hJ, hX, hb2⟩
  have H2 := Lib.hid (And.intro hJ (And.intro (H1.out.trans (hb2.mono H1.out.size)) (show ∀ x ∈ gj :: p.all none, w.heap.size ≤ x from fun x hx => Nat.le_trans H1.out.size (hX x hx))))
  clear hJ hX hb2 H1
  by_cases hn20 : 20 < n
  · have e1 : ((20 : Int) < (n : Int)) := by omega
    clear hn20
    go_wp2_with fail
    go_ret
    exact ⟨rfl, H2.out.2.1⟩
  by_cases hm40 : 40 < m
  · have e0 : ¬ ((20 : Int) < (n : Int)) := by omega
    have e1 : ((40 : Int) < (m : Int)) := by omega
    clear hn20 hm40
    go_wp2_with fail
    go_ret
    exact ⟨rfl, H2.out.2.1⟩
  have e0 : ¬ ((20 : Int) < (n : Int)) := by omega
  have e1 : ¬ ((40 : Int) < (m : Int)) := by omega
  go_wp2_with fail
  clear e0 e1
  go_loopw [9] (fun i wr => KtA w2 gj p n i wr) (fun i _ => n - (intOf i).toNat)
  case atStart => exact ⟨0, _, _, Nat.zero_le _, rfl, H2.out.1, fun t ht => .inl (by
    have h1 : t < (List.replicate 16 ((4, 0, 0, false) : SlT)).length := by rw [List.length_replicate]; exact ht
    rw [← jst_at h1, List.getElem_replicate]), Near.refl _ _⟩
  case round =>
    obtain ⟨k, L, ls, hk, rfl, hJ, hok, hnr⟩ := hrel
    have hbw : Below w.heap.size w wr := H2.out.2.1.trans (hnr.toBelow (fun x hx => H2.out.2.2 x hx) H2.out.2.1.size)
    have HR := Lib.hid (And.intro hJ (And.intro hok (And.intro hnr hbw)))
    clear hJ hok hnr hbw
    by_cases hlt : k < n
    · have hkl : k < l.length := by rw [← H0.out.2.2.1]; exact hlt
      obtain ⟨x, hx⟩ : ∃ x, x = l[k] := ⟨_, rfl⟩
      have hne : l.flatMap strow ≠ [] := by
        rw [← List.length_pos_iff, fm_len (c := 7) (fun _ => rfl)]; omega
      obtain ⟨b, off, eA, hcell⟩ := H0.out.1 hne
      have hcl : ∀ j v, j < 7 → (strow x)[j]? = some v → wr.cell? ⟨b, off + k * 7 + j, none⟩ = some v := fun j v hj hv => by
        have h1 := hcell (k * 7 + j) v (by rw [Nat.mul_comm, fm_at (c := 7) (fun _ => rfl) l k j hj hkl, ← hx]; exact hv)
        rw [← Nat.add_assoc] at h1
        exact (HR.out.2.2.2.cell (show (⟨b, off + k * 7 + j, none⟩ : Addr).block < w.heap.size from World.block_lt_of_cell? _ _ h1)).trans h1
      obtain ⟨⟨a, o, v, s⟩, bs, ⟨K, kn, kc⟩, t⟩ := x
      have hrg : wr.rangeAt b (off + k * 7) (strow ((a, o, v, s), bs, (K, kn, kc), t)) := fun j u hu => hcl j u (by have := (List.getElem?_eq_some_iff.1 hu).1; simpa [strow] using this) hu
      have c4 := hcl 4 (.string (str bs)) (by omega) rfl
      have hsz : (str bs).size = bs.length := by simp [str, ByteArray.size]
      have HX := Lib.hid hrg
      clear hrg hcl hx hne hcell hkl
      cases eA
      by_cases hbs : 600 < bs.length
      · have e2 : ((600 : Int) < (bs.length : Int)) := by omega
        clear hbs
        go_wp2_with fail
        go_ret
        exact ⟨rfl, HR.out.2.2.2⟩
      have e2 : ¬ ((600 : Int) < (bs.length : Int)) := by omega
      have HBS := Lib.hid hbs
      clear hbs
      go_wp2_with (first
        | ((with_reducible show wpList _ _ _ ((⟨some 65, _, _, _, _, _⟩ : Oper) :: _) _ _); refine wpList_load_mid (o := ⟨some 65, _, _, _, _, _⟩) HX.out (by rfl) _ _ (by rfl) (by rfl) _ Tryz.underlying31 (by rfl) sizeStep (by rfl) ?_)
        | fail)
      refine (smsg_any a o v s bs K kn kc t wr (by have := HBS.out; omega)).mono ?_
      rintro e w4 ⟨g4, c5, rfl, -, hby4, hc5, hb4⟩
      have H4 := Lib.hid (And.intro (HR.out.1.below hb4) (And.intro hby4 (And.intro hc5 (HR.out.2.2.1.trans (Near.below hb4)))))
      have hmk := jop_ok o v bs (by have := HBS.out; omega)
      have HMK := Lib.hid hmk
      clear hby4 hc5 hb4 hmk c4 hsz e2
      go_wp2_with fail
      refine (jputm_any (jop o) (jvw v) bs HMK.out (some ⟨g4, 0, none⟩) c5 H4.out.2.1 H4.out.2.2.1 H4.out.1).mono ?_
      rintro e w5 ⟨rfl, hJ5, hn5⟩
      have HE := Lib.hid (And.intro hJ5 (And.intro (askOk_put HR.out.1.jd.len HR.out.1.n16 HMK.out HR.out.2.1) (H4.out.2.2.2.trans hn5)))
      clear hJ5 hn5
      go_wp2_with fail
      exact ⟨⟨k + 1, _, _, by omega, by go_num, HE.out⟩, by simp [intOf]; omega⟩
    · obtain rfl : k = n := by omega
      clear hlt hk
      clear hn20 hm40
      obtain ⟨S0, hS0⟩ : ∃ S0, S0 = wr.heap.size := ⟨_, rfl⟩
      go_wp2_with fail
      refine (jasked_any HR.out.2.1 HR.out.1).mono ?_
      rintro e w5 ⟨ms, rfl, hms, hJ5, hn5⟩
      have HM1 := Lib.hid hms.one
      have H5 := Lib.hid (And.intro hms (And.intro hJ5 (And.intro (HR.out.2.2.1.trans (hn5.wider (fun x hx => by rw [List.mem_singleton.1 hx]; exact List.mem_cons_self ..))) hJ5.lt)))
      clear hms hJ5 hn5
      have zh := Blk.new w5 48 Tryz.zeroCells48
      go_wp2_with (first
        | ((with_reducible show wpList _ _ _ ((⟨none, _, _, _, _, _⟩ : Oper) :: _) _ _); refine wpList_store_blk (o := ⟨none, _, _, _, _, _⟩) (zh) (by rfl) _ _ _ (by rfl) (by rfl) ((hcl (askL ls 16) (askR ms 16)).toArray) (by rfl) (infoHeld) (by kernel_rfl) (by rw [List.size_toArray, hcl_length (askL_length _ _) (askR_length _ _)]) (by rw [List.all_toArray]; exact hcl_one _ _ HM1.out) ?_; intro w6 h6 hu6; refine stopped ?_)
        | fail)
      refine Stopped.mk ?_
      have hb6 : Below w5.heap.size w5 w6 := ((Below.refl w5.heap.size w5).alloc (Nat.le_refl _) (.cells Tryz.zeroCells48 48)).upd hu6 (Nat.le_refl _)
      have hz6 : w6.heap.size = w5.heap.size + 1 := by have h1 := hu6.size; simpa using h1
      obtain ⟨b1, hb1⟩ : ∃ b1, b1 = w5.heap.size := ⟨_, rfl⟩
      rw [← hb1] at h6 ⊢
      have k11 := (Blk.new w6 50 #[.slice none 0 0, .slice none 0 0, .slice none 0 0, .slice none 0 0, .slice none 0 0, .slice none 0 0, .slice none 0 0, .slice none 0 0, .slice none 0 0, .slice none 0 0, .slice none 0 0, .slice none 0 0, .slice none 0 0, .slice none 0 0, .slice none 0 0, .slice none 0 0]).alloc (.cells #[.slice none 0 0, .slice none 0 0, .slice none 0 0, .slice none 0 0, .slice none 0 0, .slice none 0 0, .slice none 0 0, .slice none 0 0, .slice none 0 0, .slice none 0 0, .slice none 0 0, .slice none 0 0, .slice none 0 0, .slice none 0 0, .slice none 0 0, .slice none 0 0] 50)
      have k12 := Blk.new' (w6.alloc (.cells #[.slice none 0 0, .slice none 0 0, .slice none 0 0, .slice none 0 0, .slice none 0 0, .slice none 0 0, .slice none 0 0, .slice none 0 0, .slice none 0 0, .slice none 0 0, .slice none 0 0, .slice none 0 0, .slice none 0 0, .slice none 0 0, .slice none 0 0, .slice none 0 0] 50)) 50 #[.slice none 0 0, .slice none 0 0, .slice none 0 0, .slice none 0 0, .slice none 0 0, .slice none 0 0, .slice none 0 0, .slice none 0 0, .slice none 0 0, .slice none 0 0, .slice none 0 0, .slice none 0 0, .slice none 0 0, .slice none 0 0, .slice none 0 0, .slice none 0 0] (n := w6.heap.size + 1) (by simp)
      have hb7 := ((Below.refl w6.heap.size w6).alloc (Nat.le_refl _) (.cells #[.slice none 0 0, .slice none 0 0, .slice none 0 0, .slice none 0 0, .slice none 0 0, .slice none 0 0, .slice none 0 0, .slice none 0 0, .slice none 0 0, .slice none 0 0, .slice none 0 0, .slice none 0 0, .slice none 0 0, .slice none 0 0, .slice none 0 0, .slice none 0 0] 50)).alloc (by simp) (.cells #[.slice none 0 0, .slice none 0 0, .slice none 0 0, .slice none 0 0, .slice none 0 0, .slice none 0 0, .slice none 0 0, .slice none 0 0, .slice none 0 0, .slice none 0 0, .slice none 0 0, .slice none 0 0, .slice none 0 0, .slice none 0 0, .slice none 0 0, .slice none 0 0] 50)
      have hz7 : ((w6.alloc (.cells #[.slice none 0 0, .slice none 0 0, .slice none 0 0, .slice none 0 0, .slice none 0 0, .slice none 0 0, .slice none 0 0, .slice none 0 0, .slice none 0 0, .slice none 0 0, .slice none 0 0, .slice none 0 0, .slice none 0 0, .slice none 0 0, .slice none 0 0, .slice none 0 0] 50)).alloc (.cells #[.slice none 0 0, .slice none 0 0, .slice none 0 0, .slice none 0 0, .slice none 0 0, .slice none 0 0, .slice none 0 0, .slice none 0 0, .slice none 0 0, .slice none 0 0, .slice none 0 0, .slice none 0 0, .slice none 0 0, .slice none 0 0, .slice none 0 0, .slice none 0 0] 50)).heap.size = w6.heap.size + 2 := by simp
      have hnB := (H5.out.2.2.1.trans (Near.below hb6)).trans (Near.below hb7)
      have hbB : Below w.heap.size w ((w6.alloc (.cells #[.slice none 0 0, .slice none 0 0, .slice none 0 0, .slice none 0 0, .slice none 0 0, .slice none 0 0, .slice none 0 0, .slice none 0 0, .slice none 0 0, .slice none 0 0, .slice none 0 0, .slice none 0 0, .slice none 0 0, .slice none 0 0, .slice none 0 0, .slice none 0 0] 50)).alloc (.cells #[.slice none 0 0, .slice none 0 0, .slice none 0 0, .slice none 0 0, .slice none 0 0, .slice none 0 0, .slice none 0 0, .slice none 0 0, .slice none 0 0, .slice none 0 0, .slice none 0 0, .slice none 0 0, .slice none 0 0, .slice none 0 0, .slice none 0 0, .slice none 0 0] 50)) := H2.out.2.1.trans (hnB.toBelow (fun x hx => H2.out.2.2 x hx) H2.out.2.1.size)
      have HB := Lib.hid (And.intro k11 (And.intro k12 (And.intro (h6.below hb7 (by omega)) (And.intro ((H5.out.2.1.below hb6).below hb7) (And.intro (((H5.out.1.near (X := []) (Near.below hb6) (fun x hx => by cases hx)).near (X := []) (Near.below hb7) (fun x hx => by cases hx))) (And.intro hbB (show b1 + 3 = ((w6.alloc (.cells #[.slice none 0 0, .slice none 0 0, .slice none 0 0, .slice none 0 0, .slice none 0 0, .slice none 0 0, .slice none 0 0, .slice none 0 0, .slice none 0 0, .slice none 0 0, .slice none 0 0, .slice none 0 0, .slice none 0 0, .slice none 0 0, .slice none 0 0, .slice none 0 0] 50)).alloc (.cells #[.slice none 0 0, .slice none 0 0, .slice none 0 0, .slice none 0 0, .slice none 0 0, .slice none 0 0, .slice none 0 0, .slice none 0 0, .slice none 0 0, .slice none 0 0, .slice none 0 0, .slice none 0 0, .slice none 0 0, .slice none 0 0, .slice none 0 0, .slice none 0 0] 50)).heap.size ∧ gj < b1 ∧ (∀ x ∈ p.all none, x < b1) ∧ w.heap.size ≤ b1 ∧ w6.heap.size = b1 + 1 from ⟨by omega, by rw [hb1]; exact H5.out.2.2.2, fun x hx => by rw [hb1]; exact H5.out.2.1.jd.lt x hx, by rw [hb1]; exact Nat.le_trans H2.out.2.1.size H5.out.2.2.1.size, by omega⟩)))))))
      have HM5 := Lib.hid (And.intro (show AskMs L ls ms S0 16 w5 by rw [hS0]; exact H5.out.1) (And.intro ((Near.below (X := []) hb6).trans (Near.below hb7)) (And.intro hb1 (And.intro (show gj < S0 by rw [hS0]; exact HR.out.1.lt) (show ∀ x ∈ p.all none, x < S0 by rw [hS0]; exact HR.out.1.jd.lt)))))
      clear k11 k12 hb7 hz7 hnB hbB zh hu6 hb6 h6 hz6 hb1
      go_wp2_with fail
      have e6 := HB.out.2.2.2.2.2.2.2.2.2.2
      rw [e6] at HB ⊢
      clear e6
      generalize (w6.alloc (.cells #[.slice none 0 0, .slice none 0 0, .slice none 0 0, .slice none 0 0, .slice none 0 0, .slice none 0 0, .slice none 0 0, .slice none 0 0, .slice none 0 0, .slice none 0 0, .slice none 0 0, .slice none 0 0, .slice none 0 0, .slice none 0 0, .slice none 0 0, .slice none 0 0] 50)).alloc (.cells #[.slice none 0 0, .slice none 0 0, .slice none 0 0, .slice none 0 0, .slice none 0 0, .slice none 0 0, .slice none 0 0, .slice none 0 0, .slice none 0 0, .slice none 0 0, .slice none 0 0, .slice none 0 0, .slice none 0 0, .slice none 0 0, .slice none 0 0, .slice none 0 0] 50) = WB at HB HM5 ⊢
      go_loopw [13] (fun i wr => KtB WB (b1 + 1) (b1 + 1 + 1) L i wr) (fun i _ => 16 - (intOf i).toNat)
      case atStart => exact ⟨0, fun _ => (0, 0), Nat.zero_le _, rfl, HB.out.1.sub (by rfl), HB.out.2.1.sub (by rfl), fun t ht => absurd ht (by omega), Near.refl _ _⟩
      case round =>
        obtain ⟨k, gs, hk, rfl, h11, h12, hby, hnr⟩ := hrel
        have HK := Lib.hid (And.intro h11 (And.intro h12 (And.intro hby hnr)))
        by_cases hlt : k < 16
        · have hJk : JR wr gj p L ls := by
            refine ⟨HB.out.2.2.2.1.jd.near' hnr ?_, HB.out.2.2.2.1.jb.near hnr (by have := HB.out.2.2.2.2.2.2.2.1; simp; omega), HB.out.2.2.2.1.n16⟩
            have hx := HB.out.2.2.2.2.2.2.2.2.1
            have x1 := hx p.gd (by simp [Pl.all])
            have x2 := hx p.gl (by simp [Pl.all])
            have x3 := hx p.gm (by simp [Pl.all])
            simp
            omega
          have q11 := h11.at_ k (v := .slice none 0 0) (by rw [arr_at _ hlt, if_neg (by omega)])
          have HJk := Lib.hid hJk
          have hsK := hnr.size
          clear h11 h12 hby hnr q11 hJk
          go_wp2_with fail
          refine (slotBytes_any k hlt HJk.out.jd).mono ?_
          rintro e w8 ⟨gh, gp, rfl, hh8, hp8, hg8, hb8⟩
          have g11 := HK.out.1.below hb8 HK.out.1.lt
          have g12 := HK.out.2.1.below hb8 HK.out.2.1.lt
          have q11 := g11.at_ k (v := .slice none 0 0) (by rw [arr_at _ hlt, if_neg (by omega)])
          have q12 := g12.at_ k (v := .slice none 0 0) (by rw [arr_at _ hlt, if_neg (by omega)])
          have f11 := g11.frozen k
          have f12 := g12.frozen k
          have H8 := Lib.hid (And.intro g11 (And.intro g12 (And.intro hh8 (And.intro hp8 (And.intro hg8 hb8)))))
          clear g11 g12 hh8 hp8 hg8 hb8 hsK
          go_wp2_with fail
          refine ⟨ktB_succ (by omega) (by have := HB.out.2.2.2.2.2.2.1; omega) (by have := HB.out.2.2.2.2.2.2.1; omega) hlt HK.out.2.2.1 HK.out.2.2.2 H8.out.1 H8.out.2.1 H8.out.2.2.1 H8.out.2.2.2.1 H8.out.2.2.2.2.1 H8.out.2.2.2.2.2, by simp [intOf]; omega⟩
        · obtain rfl : k = 16 := by omega
          obtain ⟨WR, rfl⟩ : ∃ x, x = wr := ⟨_, rfl⟩
          have hJR : JR WR gj p L ls := by
            refine ⟨HB.out.2.2.2.1.jd.near' hnr ?_, HB.out.2.2.2.1.jb.near hnr (by have := HB.out.2.2.2.2.2.2.2.1; simp; omega), HB.out.2.2.2.1.n16⟩
            have hx := HB.out.2.2.2.2.2.2.2.2.1
            have x1 := hx p.gd (by simp [Pl.all])
            have x2 := hx p.gl (by simp [Pl.all])
            have x3 := hx p.gm (by simp [Pl.all])
            simp
            omega
          have hbR : Below w.heap.size w WR := HB.out.2.2.2.2.2.1.trans (hnr.toBelow (by have h0 := HB.out.2.2.2.2.2.2.2.2.2.1; simp; omega) HB.out.2.2.2.2.2.1.size)
          have HRR := Lib.hid (And.intro hJR hbR)
          clear hlt hk h11 h12 hby hnr hJR hbR
          go_wp2_with fail
          go_loopw [14] (fun i wr => KtC WR gj p m ls i wr) (fun i _ => m - (intOf i).toNat)
          case atStart => exact ⟨0, L, Nat.zero_le _, rfl, HRR.out.1, Near.refl _ _⟩
          case round =>
            obtain ⟨k2, L2, hk2, rfl, hJ2, hn2⟩ := hrel
            have hbw : Below w.heap.size w wr := HRR.out.2.trans (hn2.toBelow (fun x hx => by rw [List.mem_singleton.1 hx]; exact H2.out.2.2 _ (by simp [Pl.all])) HRR.out.2.size)
            have HC := Lib.hid (And.intro hJ2 (And.intro hn2 hbw))
            clear hJ2 hn2 hbw
            by_cases hlt : k2 < m
            · have hkl : k2 < ts.length := by rw [← H0.out.2.2.2]; exact hlt
              obtain ⟨x, hx⟩ : ∃ x, x = ts[k2] := ⟨_, rfl⟩
              have hne : ts.flatMap turow ≠ [] := by
                rw [← List.length_pos_iff, fm_len (c := 2) (fun _ => rfl)]; omega
              obtain ⟨b, off, eA, hcell⟩ := H0.out.2.1 hne
              have hcl : ∀ j v, j < 2 → (turow x)[j]? = some v → wr.cell? ⟨b, off + k2 * 2 + j, none⟩ = some v := fun j v hj hv => by
                have h1 := hcell (k2 * 2 + j) v (by rw [Nat.mul_comm, fm_at (c := 2) (fun _ => rfl) ts k2 j hj hkl, ← hx]; exact hv)
                rw [← Nat.add_assoc] at h1
                exact (HC.out.2.2.cell (show (⟨b, off + k2 * 2 + j, none⟩ : Addr).block < w.heap.size from World.block_lt_of_cell? _ _ h1)).trans h1
              obtain ⟨a, by_⟩ := x
              have c0 : wr.cell? ⟨b, off + k2 * 2, none⟩ = some (.int .i64 a) := hcl 0 _ (by omega) rfl
              have c1 := hcl 1 (.int .u8 (iu8 by_)) (by omega) rfl
              have hp0 := pickN_lt a (24576 : Int) (by omega)
              have hP := fun w => pick_any a (24576 : Int) (by omega) (by omega) w
              obtain ⟨q, hq⟩ : ∃ q, q = pickN a (24576 : Int) := ⟨_, rfl⟩
              rw [← hq] at hp0 hP
              clear hq hcl hx hne hcell hkl
              cases eA
              go_wp2_with (first
                | (refine (hP _).mono ?_; rintro e w4 ⟨rfl, rfl⟩)
                | fail)
              rw [show (8 + (q : Int) / 256) = ((8 + q / 256 : Nat) : Int) by omega, show ((q : Int) % 256) = ((q % 256 : Nat) : Int) by omega]
              refine (jdturn (8 + q / 256) (q % 256) by_ (by omega) (by omega) HC.out.1.jd).mono ?_
              rintro e w5 ⟨rfl, hd5, hn5⟩
              have HE := Lib.hid (And.intro (jr_turned HC.out.1 hd5 hn5) (HC.out.2.1.trans hn5))
              clear hd5 hn5 hP c0 c1
              go_wp2_with fail
              exact ⟨⟨k2 + 1, _, by omega, by go_num, HE.out⟩, by simp [intOf]; omega⟩
            · obtain rfl : k2 = m := by omega
              clear hlt hk2
              obtain ⟨WD, rfl⟩ : ∃ x, x = wr := ⟨_, rfl⟩
              have hw0 := HB.out.2.2.2.2.2.2
              have hlt3 : p.gl < b1 := hw0.2.2.1 p.gl (by simp [Pl.all])
              have hrs := HK.out.2.2.2.size
              have d11 := HK.out.1.near HC.out.2.1 (show b1 + 1 ∉ [p.gl] by simp; omega)
              have d12 := HK.out.2.1.near HC.out.2.1 (show b1 + 1 + 1 ∉ [p.gl] by simp; omega)
              have d10 := (HB.out.2.2.1.near HK.out.2.2.2 (by simp; omega)).near HC.out.2.1 (show b1 ∉ [p.gl] by simp; omega)
              have dby : ∀ t, t < 16 → Bytes WD (some ⟨(gs t).1, 0, none⟩) (jhd L t) ∧ Bytes WD (some ⟨(gs t).2, 0, none⟩) (jpr L t) := fun t ht => by
                obtain ⟨x1, x2, x3, x4⟩ := HK.out.2.2.1 t ht
                exact ⟨x1.near HC.out.2.1 (fun ad e => by cases e; simp; omega), x2.near HC.out.2.1 (fun ad e => by cases e; simp; omega)⟩
              have hnD : Near [b1 + 1, b1 + 1 + 1, p.gl] WB WD := (HK.out.2.2.2.wider (by simp)).trans (HC.out.2.1.wider (by simp))
              have HD := Lib.hid (And.intro d10 (And.intro d11 (And.intro d12 (And.intro dby (And.intro hnD HC.out)))))
              clear hw0 hlt3 hrs d10 d11 d12 dby hnD
              go_wp2_with fail
              go_loopw [16] (fun i wr => KtD WD L L2 i wr) (fun i _ => 16 - (intOf i).toNat)
              case atStart => exact ⟨0, Nat.zero_le _, rfl, fun t ht => absurd ht (by omega), Below.refl _ _⟩
              case round =>
                obtain ⟨k3, hk3, rfl, hnf, hb3⟩ := hrel
                have hbw : Below w.heap.size w wr := HD.out.2.2.2.2.2.2.2.trans (hb3.mono HD.out.2.2.2.2.2.2.2.size)
                have HN := Lib.hid (And.intro hnf (And.intro hb3 hbw))
                clear hnf hbw
                by_cases hlt : k3 < 16
                · have q11 := (HD.out.2.1.below hb3 HD.out.2.1.lt).at_ k3 (v := .slice (some ⟨(gs k3).1, 0, none⟩) 256 256) (by rw [arr_at _ hlt, if_pos hlt])
                  have q12 := (HD.out.2.2.1.below hb3 HD.out.2.2.1.lt).at_ k3 (v := .slice (some ⟨(gs k3).2, 0, none⟩) 1280 1280) (by rw [arr_at _ hlt, if_pos hlt])
                  have g11 := HD.out.2.1.below hb3 HD.out.2.1.lt
                  have g12 := HD.out.2.2.1.below hb3 HD.out.2.2.1.lt
                  have HG := Lib.hid (And.intro g11 g12)
                  clear hb3 q11 q12 g11 g12
                  go_wp2_with fail
                  have hC0 : Below wr.heap.size wr wr.drew := (Below.refl _ _).drew
                  refine wp_region_tree (Below wr.heap.size wr) [] (PlanT.takes [0, 1, 2, 3, 5, 6, 8] (PlanT.takes [4, 7] (.opt 9 .done .no))) (by kernel_rfl) (by kernel_rfl) (hC0) ?_
                  refine wpTree_pure _ _ _ (by rfl) (by rfl) ?_
                  dsimp only [List.filterMap, List.getElem?_cons_zero, List.getElem?_cons_succ]
                  repeat (go_big_quiet_step (fail))
                  refine wpQuiet_nil ?_
                  refine wpTree_takeL _ _ _ (by rfl) (by rfl) (hC0) ?_
                  dsimp only [List.filterMap, List.getElem?_cons_zero, List.getElem?_cons_succ]
                  (refine wpQuiet_load_cell (fun w' hw' => (HG.out.1.below hw' HG.out.1.lt).at_ k3 (v := .slice (some ⟨(gs k3).1, 0, none⟩) 256 256) (by rw [arr_at _ hlt, if_pos hlt])) (by rfl) _ _ (by rfl) (by rfl) _ Tryz.underlying39 (by rfl) ?_; simp only [Act.put, List.setIfInBounds_toArray, List.set_cons_zero, List.set_cons_succ])
                  (refine wpQuiet_load_cell (fun w' hw' => (HG.out.2.below hw' HG.out.2.lt).at_ k3 (v := .slice (some ⟨(gs k3).2, 0, none⟩) 1280 1280) (by rw [arr_at _ hlt, if_pos hlt])) (by rfl) _ _ (by rfl) (by rfl) _ Tryz.underlying39 (by rfl) ?_; simp only [Act.put, List.setIfInBounds_toArray, List.set_cons_zero, List.set_cons_succ])
                  refine wpQuiet_nil ?_
                  refine wpTree_one _ rfl ?_
                  go_wp2_with fail
                  try rw [← zeroMsg_cells]
                  have hb5 := HN.out.2.1.trans (hC0.mono HN.out.2.1.size)
                  refine (forged_any (P := jpr L k3) (H := jhd L k3) k3 hlt _ _ 256 1280 (jhd_length HR.out.1.jd.len hlt) (jpr_length HR.out.1.jd.len hlt) (by omega) (by omega) ((HD.out.2.2.2.1 k3 hlt).1.below hb5) ((HD.out.2.2.2.1 k3 hlt).2.below hb5) (HD.out.2.2.2.2.2.1.jd.near (Near.below hb5))).mono ?_
                  rintro e w6 ⟨r, rfl, hr, hb6⟩
                  have hC1 : Below wr.heap.size wr w6 := hC0.trans (hb6.mono hC0.size)
                  cases r
                  · have HE := Lib.hid (And.intro (show ∀ t, t < k3 + 1 → NotForged L2 (jpr L t) t from fun t ht => by
                      by_cases e : t = k3
                      · rw [e]; exact hr rfl
                      · exact HN.out.1 t (by omega)) (HN.out.2.1.trans (hC1.mono HN.out.2.1.size)))
                    clear hr hb6 hb5 hC0
                    go_wp2_with fail
                    refine TreeQ.in_ hC1 ?_
                    refine wpTree_done ?_
                    go_wp2_with fail
                    exact ⟨⟨k3 + 1, by omega, by go_num, HE.out⟩, by simp [intOf]; omega⟩
                  · have HE := Lib.hid (HN.out.2.2.trans (hC1.mono HN.out.2.2.size))
                    clear hr hb6 hb5 hC0
                    go_wp2_with fail
                    refine TreeQ.in_ hC1 ?_
                    refine wpTree_done ?_
                    go_wp2_with fail
                    go_ret
                    exact ⟨rfl, HE.out⟩
                · obtain rfl : k3 = 16 := by omega
                  have hJo := HD.out.2.2.2.2.2.1.below hb3
                  have hnO : Near [b1 + 1, b1 + 1 + 1, p.gl] WB wr := HD.out.2.2.2.2.1.trans (Near.below hb3)
                  have d10 := HD.out.1.below hb3 HD.out.1.lt
                  clear hlt hk3 hb3
                  go_wp2_with fail
                  refine (jopen_any hJo.jd).mono ?_
                  rintro e w7 ⟨gk, rfl, hgk, hJk, hb7⟩
                  have HF := Lib.hid (And.intro (hJo.below hb7) (And.intro hJk (And.intro (d10.below hb7 d10.lt) (And.intro (hnO.trans (Near.below hb7)) (And.intro (HN.out.2.2.trans (hb7.mono HN.out.2.2.size)) (show gk ≠ gj ∧ gk ≠ b1 ∧ w.heap.size ≤ gk ∧ WB.heap.size ≤ gk from ⟨by have := hJo.lt; omega, by have := d10.lt; omega, Nat.le_trans HN.out.2.2.size hgk, Nat.le_trans hnO.size hgk⟩))))))
                  clear hJo hnO d10 hgk hJk hb7
                  go_wp2_with fail
                  go_loopw [19] (fun i wr => KtE w7 gj gk p L2 ls i wr) (fun i _ => 16 - (intOf i).toNat)
                  case atStart => exact ⟨0, _, _, Nat.zero_le _, rfl, HF.out.1, HF.out.2.1, fun t _ => rfl, Near.refl _ _⟩
                  case round =>
                    obtain ⟨k4, lj, lk, hk4, rfl, hJj, hJk, hst, hn4⟩ := hrel
                    have hbw : Below w.heap.size w wr := HF.out.2.2.2.2.1.trans (hn4.toBelow (by have h0 := H2.out.2.2 gj (by simp); have h1 := HF.out.2.2.2.2.2; simp; omega) HF.out.2.2.2.2.1.size)
                    have hgb : gj < b1 := HB.out.2.2.2.2.2.2.2.1
                    have d10 := HF.out.2.2.1.near hn4 (by have h1 := HF.out.2.2.2.2.2; simp; omega)
                    have HG := Lib.hid (And.intro hJj (And.intro hJk (And.intro hst (And.intro hn4 (And.intro hbw d10)))))
                    clear hJj hJk hst hn4 hbw d10 hgb
                    by_cases hlt : k4 < 16
                    · obtain ⟨op, hop⟩ : ∃ op, op = (jst ls k4).2.1 := ⟨_, rfl⟩
                      have c1 : wr.cell? ⟨b1, k4 * 4 + 1, none⟩ = some (.int .i64 op) := HG.out.2.2.2.2.2.at_ (k4 * 4 + 1) (by
                        rw [List.getElem?_toArray, hcl_slot (by rw [askL_length]; exact hlt) (by omega), hop]
                        have e : (askL ls 16)[k4]'(by rw [askL_length]; exact hlt) = jst ls k4 := by simp [askL, hlt]
                        rw [e]; rfl)
                      have HOP := Lib.hid hop
                      clear hop
                      by_cases h0 : op = 0
                      · subst h0
                        go_wp2_with fail
                        exact ⟨⟨k4 + 1, lj, lk, by omega, by go_num, HG.out.1, HG.out.2.1, fun t ht => HG.out.2.2.1 t (by omega), HG.out.2.2.2.1⟩, by simp [intOf]; omega⟩
                      · have hao : ∃ F b, Slot.prep (jpr L k4) k4 = (true, F, b) ∧ jst ls k4 = (1, op, F 3, false) ∧ 1 ≤ op ∧ jsl op = k4 := by
                          rcases HR.out.2.1 k4 hlt with h | ⟨F, b, h1, h2, h3, h4⟩
                          · exact absurd (by rw [HOP.out, h]) h0
                          · have e : op = F 5 := by rw [HOP.out, h2]
                            exact ⟨F, b, h1, by rw [h2, e], by rw [e]; exact h3, by rw [e]; exact h4⟩
                        obtain ⟨F, b, hF1, hF2, hF3, hF4⟩ := hao
                        have hFm : askM L ls k4 = (F, b) := by unfold askM; rw [if_neg (by rw [hF2]; exact h0), hF1]
                        have HFF := Lib.hid (And.intro hF1 (And.intro hF2 (And.intro hF3 (And.intro hF4 hFm))))
                        clear hF1 hF2 hF3 hF4 hFm
                        go_wp2_with fail
                        have hj8 := jget_any op HG.out.1
                        have hs8 : ∀ t, t ≠ k4 → jst (jget L2 lj op).2 t = jst lj t := fun t ht => jget_off HG.out.1.n16 (by rw [HFF.out.2.2.2.1]; exact ht)
                        have hcs8 := jget_case L2 lj op
                        have hsx8 : (jget L2 lj op).1.1 ≠ 6 := jget_six HFF.out.2.2.1 (by rw [HFF.out.2.2.2.1, HG.out.2.2.1 k4 (Nat.le_refl _), HFF.out.2.1]) (by rw [HFF.out.2.2.2.1, HG.out.2.2.1 k4 (Nat.le_refl _), HFF.out.2.1])
                        generalize jget L2 lj op = r8 at hj8 hs8 hcs8 hsx8
                        obtain ⟨⟨f8, m8, l8⟩, lj'⟩ := r8
                        dsimp only at hj8 hs8 hcs8 hsx8
                        have HC8 := Lib.hid (And.intro hs8 (And.intro hcs8 hsx8))
                        clear hs8 hcs8 hsx8
                        refine hj8.mono ?_
                        rintro e w8 ⟨v8, rfl, ⟨sp8, ho8⟩, hJ8, hn8⟩
                        obtain ⟨A8, c8, rfl, hc8a, hc8b, hby8⟩ := ho8.open_
                        have hk8 : JR w8 gk p L2 lk := HG.out.2.1.near' hn8 (fun e => HF.out.2.2.2.2.2.1 e.symm) HG.out.1.off
                        have H8 := Lib.hid (And.intro hJ8 (And.intro hk8 (And.intro (show ∀ X w', Near X w8 w' → (∀ x ∈ X, x < wr.heap.size) → Bytes w' A8 l8 from fun X w' k hX => own_near ho8 hby8 k hX) hn8)))
                        clear hJ8 hk8 ho8 hn8 hby8 hj8 hc8a hc8b
                        have z8 := Blk.new w8 41 #[.int .i64 0, .int .i64 0, .int .i64 0, .int .i64 0, .int .i64 0, .int .i64 0, .int .i64 0, .int .i64 0, .int .i64 0, .int .u64 0, .int .u64 0, .int .i64 0, .int .i64 0, .int .u64 0, .int .i64 0, .int .i64 0, .slice none 0 0]
                        go_wp2_with (first
                          | ((with_reducible show wpList _ _ _ ((⟨none, _, _, _, _, _⟩ : Oper) :: _) _ _); refine wpList_store_blk (o := ⟨none, _, _, _, _, _⟩) (z8) (by rfl) _ _ _ (by rfl) (by rfl) (msgc m8 (.slice A8 l8.length c8)) (by rfl) (sizeMsg) (by rfl) (msgc_size _ _) (msgc_one _ _ rfl) ?_; intro w9 h9 hu9; refine stopped ?_)
                          | fail)
                        refine Stopped.mk ?_
                        have hb9 : Below w8.heap.size w8 w9 := ((Below.refl w8.heap.size w8).alloc (Nat.le_refl _) (.cells #[.int .i64 0, .int .i64 0, .int .i64 0, .int .i64 0, .int .i64 0, .int .i64 0, .int .i64 0, .int .i64 0, .int .i64 0, .int .u64 0, .int .u64 0, .int .i64 0, .int .i64 0, .int .u64 0, .int .i64 0, .int .i64 0, .slice none 0 0] 41)).upd hu9 (Nat.le_refl _)
                        obtain ⟨g9, hg9⟩ : ∃ g, g = w8.heap.size := ⟨_, rfl⟩
                        rw [← hg9] at h9 ⊢
                        have H9 := Lib.hid (And.intro (H8.out.1.below hb9) (And.intro (H8.out.2.1.below hb9) (And.intro (Near.below (X := []) hb9) (And.intro (H8.out.2.2.2.trans (Near.below hb9)) (And.intro h9 (show wr.heap.size ≤ g9 ∧ gj < g9 ∧ gk < g9 from ⟨by rw [hg9]; exact H8.out.2.2.2.size, by rw [hg9]; exact H8.out.1.lt, by rw [hg9]; exact H8.out.2.1.lt⟩))))))
                        clear z8 hu9 hb9 h9 hg9
                        go_wp2_with fail
                        have hj10 := jget_any op H9.out.2.1
                        have hcs10 := jget_case L2 lk op
                        generalize jget L2 lk op = r10 at hj10 hcs10
                        obtain ⟨⟨f10, m10, l10⟩, lk'⟩ := r10
                        dsimp only at hj10 hcs10
                        have HC10 := Lib.hid hcs10
                        clear hcs10
                        refine hj10.mono ?_
                        rintro e w10 ⟨v10, rfl, ⟨sp10, ho10⟩, hJ10, hn10⟩
                        obtain ⟨A10, c10, rfl, -, -, hby10⟩ := ho10.open_
                        have hi10 : JR w10 gj p L2 lj' := H9.out.1.near' hn10 HF.out.2.2.2.2.2.1 H9.out.2.1.off
                        have h9' := H9.out.2.2.2.2.1.near hn10 (by have := H9.out.2.2.2.2.2; simp; omega)
                        have H10 := Lib.hid (And.intro hi10 (And.intro hJ10 (And.intro hby10 (And.intro hn10 h9'))))
                        clear hi10 hJ10 ho10 hn10 hby10 hj10 h9'
                        have z10 := Blk.new w10 41 #[.int .i64 0, .int .i64 0, .int .i64 0, .int .i64 0, .int .i64 0, .int .i64 0, .int .i64 0, .int .i64 0, .int .i64 0, .int .u64 0, .int .u64 0, .int .i64 0, .int .i64 0, .int .u64 0, .int .i64 0, .int .i64 0, .slice none 0 0]
                        go_wp2_with (first
                          | ((with_reducible show wpList _ _ _ ((⟨none, _, _, _, _, _⟩ : Oper) :: _) _ _); refine wpList_store_blk (o := ⟨none, _, _, _, _, _⟩) (z10) (by rfl) _ _ _ (by rfl) (by rfl) (msgc m10 (.slice A10 l10.length c10)) (by rfl) (sizeMsg) (by rfl) (msgc_size _ _) (msgc_one _ _ rfl) ?_; intro w11 h11 hu11; refine stopped ?_)
                          | fail)
                        refine Stopped.mk ?_
                        have hb11 : Below w10.heap.size w10 w11 := ((Below.refl w10.heap.size w10).alloc (Nat.le_refl _) (.cells #[.int .i64 0, .int .i64 0, .int .i64 0, .int .i64 0, .int .i64 0, .int .i64 0, .int .i64 0, .int .i64 0, .int .i64 0, .int .u64 0, .int .u64 0, .int .i64 0, .int .i64 0, .int .u64 0, .int .i64 0, .int .i64 0, .slice none 0 0] 41)).upd hu11 (Nat.le_refl _)
                        obtain ⟨g11, hg11⟩ : ∃ g, g = w10.heap.size := ⟨_, rfl⟩
                        rw [← hg11] at h11 ⊢
                        have hn11 : Near [gj, gk] wr w11 := (H9.out.2.2.2.1.wider (by simp)).trans ((H10.out.2.2.2.1.wider (by simp)).trans (Near.below hb11))
                        have hby11 : Bytes w11 A8 l8 := H8.out.2.2.1 [gk] w11 ((H9.out.2.2.1.wider (by simp)).trans (H10.out.2.2.2.1.trans (Near.below hb11))) (by have := HG.out.2.1.lt; simp; omega)
                        have hbw11 : Below w.heap.size w w11 := HG.out.2.2.2.2.1.trans (hn11.toBelow (by have h0 := H2.out.2.2 gj (by simp); have h1 := HF.out.2.2.2.2.2; simp; omega) HG.out.2.2.2.2.1.size)
                        have hd11 := HG.out.2.2.2.2.2.near hn11 (by have h1 := HF.out.2.2.2.2.2; have h2 := HB.out.2.2.2.2.2.2.2.1; simp; omega)
                        have H11 := Lib.hid (And.intro (H10.out.1.below hb11) (And.intro (H10.out.2.1.below hb11) (And.intro hby11 (And.intro (H10.out.2.2.1.below hb11) (And.intro (H10.out.2.2.2.2.below hb11 H10.out.2.2.2.2.lt) (And.intro h11 (And.intro (HG.out.2.2.2.1.trans hn11) (And.intro hbw11 hd11))))))))
                        clear z10 hu11 hb11 h11 hg11 hn11 hby11 hbw11 hd11
                        have hsame : ∀ (m : HdF) (l : List UInt8), (Slot.prep (jpr L2 (jsl op)) (jsl op)).1 = true ∧ (m, l) = (Slot.prep (jpr L2 (jsl op)) (jsl op)).2 → Hd.beq m F = true ∧ l = b := fun m l h => by
                          rw [HFF.out.2.2.2.1] at h
                          have h1 := HN.out.1 k4 hlt h.1
                          rw [HFF.out.1, ← h.2] at h1
                          exact ⟨h1.2.1, h1.2.2⟩
                        have hnm : Near [b1 + 1, b1 + 1 + 1, p.gl, gj, gk] w5 w11 := (HM5.out.2.1.wider (by simp)).trans ((HF.out.2.2.2.1.wider (by simp)).trans (H11.out.2.2.2.2.2.2.1.wider (by simp)))
                        obtain ⟨em1, A3, c3, em2, hb3⟩ := askMs_far HM5.out.1 hnm (by
                          have h1 := HM5.out.2.2.1
                          have h2 := HM5.out.2.2.2.1
                          have h3 := HM5.out.2.2.2.2 p.gl (by simp [Pl.all])
                          have h4 := HF.out.2.2.2.2.2
                          have h5 := HB.out.2.2.2.2.2.2.1
                          simp
                          omega) hlt
                        rw [HFF.out.2.2.2.2] at em1 em2 hb3
                        dsimp only at em1 em2 hb3
                        have hrg : w11.rangeAt b1 (64 + k4 * 17) (msgc F (.slice A3 b.length c3)).toList := fun j v hv => by
                          have hj : j < 17 := by have := (List.getElem?_eq_some_iff.1 hv).1; rw [Array.length_toList, msgc_size] at this; exact this
                          rw [show 64 + k4 * 17 + j = (64 + k4 * 17 + j) from rfl]
                          refine H11.out.2.2.2.2.2.2.2.2.at_ (64 + k4 * 17 + j) ?_
                          rw [List.getElem?_toArray, hcl_msg (askL_length _ _) (by rw [askR_length]; exact hlt) hj]
                          have e : (askR ms 16)[k4]'(by rw [askR_length]; exact hlt) = ms k4 := by simp [askR, hlt]
                          rw [e]
                          unfold mrow
                          rw [em1, em2]
                          exact hv
                        have HS := Lib.hid (And.intro hsame (And.intro hb3 hrg))
                        clear hsame hnm em1 em2 hb3 hrg
                        go_wp2_with fail
                        rcases HC8.out.2.1 with e8 | e8 | ⟨e8, hw8⟩
                        · exact absurd e8 HC8.out.2.2
                        · subst e8
                          have hC0 : Below w11.heap.size w11 w11.drew := (Below.refl _ _).drew
                          refine wp_region_tree (Below w11.heap.size w11) [] (PlanT.takes [0,1,2,3,4,5,7,8,9] (PlanT.takes [6,10] (.opt 11 (PlanT.takes [12,13,14] .done) .no))) (by kernel_rfl) (by kernel_rfl) hC0 ?_
                          refine wpTree_pure _ _ _ (by rfl) (by rfl) ?_
                          dsimp only [List.filterMap, List.getElem?_cons_zero, List.getElem?_cons_succ]
                          repeat (go_big_quiet_step (fail))
                          refine wpQuiet_nil ?_
                          refine wpTree_takeL _ _ _ (by rfl) (by rfl) (hC0) ?_
                          dsimp only [List.filterMap, List.getElem?_cons_zero, List.getElem?_cons_succ]
                          go_big_quiet_step (fail)
                          go_big_quiet_step (fail)
                          refine wpQuiet_nil ?_
                          refine wpTree_one _ rfl ?_
                          go_wp2_with fail
                          refine TreeQ.in_ hC0 ?_
                          refine wpTree_pure _ _ _ (by rfl) (by rfl) ?_
                          dsimp only [List.filterMap, List.getElem?_cons_zero, List.getElem?_cons_succ]
                          repeat (go_big_quiet_step (fail))
                          refine wpQuiet_nil ?_
                          refine wpTree_done ?_
                          go_wp2_with fail
                          have hD0 : Below w11.heap.size w11 w11.drew.drew := hC0.drew
                          rcases HC10.out with e10 | e10 | ⟨e10, hw10⟩
                          · subst e10
                            refine wp_region_tree (Below w11.heap.size w11) [] (PlanT.takes [0,1,2,3,4,5,6,7,8,9,11,12,13] (PlanT.takes [10,14] (.opt 15 (PlanT.takes [16,17,18] .done) .no))) (by kernel_rfl) (by kernel_rfl) hD0 ?_
                            refine wpTree_pure _ _ _ (by rfl) (by rfl) ?_
                            dsimp only [List.filterMap, List.getElem?_cons_zero, List.getElem?_cons_succ]
                            repeat (go_big_quiet_step (fail))
                            refine wpQuiet_nil ?_
                            refine wpTree_takeL _ _ _ (by rfl) (by rfl) (hD0) ?_
                            dsimp only [List.filterMap, List.getElem?_cons_zero, List.getElem?_cons_succ]
                            go_big_quiet_step (fail)
                            go_big_quiet_step (fail)
                            refine wpQuiet_nil ?_
                            refine wpTree_one _ rfl ?_
                            go_wp2_with fail
                            refine TreeQ.in_ hD0 ?_
                            refine wpTree_pure _ _ _ (by rfl) (by rfl) ?_
                            dsimp only [List.filterMap, List.getElem?_cons_zero, List.getElem?_cons_succ]
                            repeat (go_big_quiet_step (fail))
                            refine wpQuiet_nil ?_
                            refine wpTree_done ?_
                            have HE := Lib.hid (And.intro (H11.out.1.below hD0) (And.intro (H11.out.2.1.below hD0) (And.intro (show ∀ t, k4 + 1 ≤ t → jst lj' t = jst ls t from fun t ht => by rw [HC8.out.1 t (by omega)]; exact HG.out.2.2.1 t (by omega)) (H11.out.2.2.2.2.2.2.1.trans (Near.below hD0)))))
                            go_wp2_with fail
                            exact ⟨⟨k4 + 1, lj', lk', by omega, by go_num, HE.out⟩, by simp [intOf]; omega⟩
                          · subst e10
                            refine wp_region_tree (Below w11.heap.size w11) [] (PlanT.takes [0,1,2,3,4,5,6,7,8,9,11,12,13] (PlanT.takes [10,14] (.opt 15 (PlanT.takes [16,17,18] .done) .no))) (by kernel_rfl) (by kernel_rfl) hD0 ?_
                            refine wpTree_pure _ _ _ (by rfl) (by rfl) ?_
                            dsimp only [List.filterMap, List.getElem?_cons_zero, List.getElem?_cons_succ]
                            repeat (go_big_quiet_step (fail))
                            refine wpQuiet_nil ?_
                            refine wpTree_takeL _ _ _ (by rfl) (by rfl) (hD0) ?_
                            dsimp only [List.filterMap, List.getElem?_cons_zero, List.getElem?_cons_succ]
                            go_big_quiet_step (fail)
                            go_big_quiet_step (fail)
                            refine wpQuiet_nil ?_
                            refine wpTree_one _ rfl ?_
                            go_wp2_with fail
                            refine TreeQ.in_ hD0 ?_
                            refine wpTree_pure _ _ _ (by rfl) (by rfl) ?_
                            dsimp only [List.filterMap, List.getElem?_cons_zero, List.getElem?_cons_succ]
                            repeat (go_big_quiet_step (fail))
                            refine wpQuiet_nil ?_
                            refine wpTree_done ?_
                            have HE := Lib.hid (And.intro (H11.out.1.below hD0) (And.intro (H11.out.2.1.below hD0) (And.intro (show ∀ t, k4 + 1 ≤ t → jst lj' t = jst ls t from fun t ht => by rw [HC8.out.1 t (by omega)]; exact HG.out.2.2.1 t (by omega)) (H11.out.2.2.2.2.2.2.1.trans (Near.below hD0)))))
                            go_wp2_with fail
                            exact ⟨⟨k4 + 1, lj', lk', by omega, by go_num, HE.out⟩, by simp [intOf]; omega⟩
                          · subst e10
                            have HW10 := Lib.hid (HS.out.1 m10 l10 hw10)
                            clear hw10
                            refine wp_region_tree (Below w11.heap.size w11) [] (PlanT.takes [0,1,2,3,4,5,6,7,8,9,11,12,13] (PlanT.takes [10,14] (.opt 15 (PlanT.takes [16,17,18] .done) .no))) (by kernel_rfl) (by kernel_rfl) hD0 ?_
                            refine wpTree_pure _ _ _ (by rfl) (by rfl) ?_
                            dsimp only [List.filterMap, List.getElem?_cons_zero, List.getElem?_cons_succ]
                            repeat (go_big_quiet_step (fail))
                            refine wpQuiet_nil ?_
                            refine wpTree_takeL _ _ _ (by rfl) (by rfl) (hD0) ?_
                            dsimp only [List.filterMap, List.getElem?_cons_zero, List.getElem?_cons_succ]
                            (refine wpQuiet_want' (by rfl) ?_; refine wpQuiet_load_blk (fun w' hw' => H11.out.2.2.2.2.2.1.below hw' H11.out.2.2.2.2.2.1.lt) (by rfl) _ _ (by rfl) (by rfl) _ Tryz.underlying41 (by rfl) (sizeMsg) (msgc_size _ _) ?_; simp only [Act.put, List.setIfInBounds_toArray, List.set_cons_zero, List.set_cons_succ])
                            (refine wpQuiet_want' (by rfl) ?_; refine wpQuiet_load_mid (fun w' hw' => fun j v hv => (hw'.cell (show b1 < w11.heap.size from H11.out.2.2.2.2.2.2.2.2.lt)).trans (HS.out.2.2 j v hv)) (by rfl) _ _ (by rfl) (by rfl) _ Tryz.underlying41 (by rfl) (sizeMsg) (by rw [Array.length_toList, msgc_size]) ?_; simp only [Act.put, List.setIfInBounds_toArray, List.set_cons_zero, List.set_cons_succ])
                            refine wpQuiet_nil ?_
                            refine wpTree_one _ rfl ?_
                            go_wp2_with fail
                            refine (sameMessage_any m10 F A10 A3 _ _ _ _ l10 b rfl rfl _ (H11.out.2.2.2.1.below hD0) (HS.out.2.1.below hD0)).mono ?_
                            rintro e w13 ⟨rfl, hb13⟩
                            have hD1 : Below w11.heap.size w11 w13 := hD0.trans (hb13.mono hD0.size)
                            rw [HW10.out.1, decide_eq_true HW10.out.2, Bool.true_and]
                            go_wp2_with fail
                            refine TreeQ.in_ hD1 ?_
                            refine wpTree_pure _ _ _ (by rfl) (by rfl) ?_
                            dsimp only [List.filterMap, List.getElem?_cons_zero, List.getElem?_cons_succ]
                            repeat (go_big_quiet_step (fail))
                            refine wpQuiet_nil ?_
                            refine wpTree_done ?_
                            have HE := Lib.hid (And.intro (H11.out.1.below hD1) (And.intro (H11.out.2.1.below hD1) (And.intro (show ∀ t, k4 + 1 ≤ t → jst lj' t = jst ls t from fun t ht => by rw [HC8.out.1 t (by omega)]; exact HG.out.2.2.1 t (by omega)) (H11.out.2.2.2.2.2.2.1.trans (Near.below hD1)))))
                            go_wp2_with fail
                            exact ⟨⟨k4 + 1, lj', lk', by omega, by go_num, HE.out⟩, by simp [intOf]; omega⟩
                        · subst e8
                          have HW8 := Lib.hid (HS.out.1 m8 l8 hw8)
                          clear hw8
                          have hC0 : Below w11.heap.size w11 w11.drew := (Below.refl _ _).drew
                          refine wp_region_tree (Below w11.heap.size w11) [] (PlanT.takes [0,1,2,3,4,5,7,8,9] (PlanT.takes [6,10] (.opt 11 (PlanT.takes [12,13,14] .done) .no))) (by kernel_rfl) (by kernel_rfl) hC0 ?_
                          refine wpTree_pure _ _ _ (by rfl) (by rfl) ?_
                          dsimp only [List.filterMap, List.getElem?_cons_zero, List.getElem?_cons_succ]
                          repeat (go_big_quiet_step (fail))
                          refine wpQuiet_nil ?_
                          refine wpTree_takeL _ _ _ (by rfl) (by rfl) (hC0) ?_
                          dsimp only [List.filterMap, List.getElem?_cons_zero, List.getElem?_cons_succ]
                          (refine wpQuiet_want' (by rfl) ?_; refine wpQuiet_load_blk (fun w' hw' => H11.out.2.2.2.2.1.below hw' H11.out.2.2.2.2.1.lt) (by rfl) _ _ (by rfl) (by rfl) _ Tryz.underlying41 (by rfl) (sizeMsg) (msgc_size _ _) ?_; simp only [Act.put, List.setIfInBounds_toArray, List.set_cons_zero, List.set_cons_succ])
                          (refine wpQuiet_want' (by rfl) ?_; refine wpQuiet_load_mid (fun w' hw' => fun j v hv => (hw'.cell (show b1 < w11.heap.size from H11.out.2.2.2.2.2.2.2.2.lt)).trans (HS.out.2.2 j v hv)) (by rfl) _ _ (by rfl) (by rfl) _ Tryz.underlying41 (by rfl) (sizeMsg) (by rw [Array.length_toList, msgc_size]) ?_; simp only [Act.put, List.setIfInBounds_toArray, List.set_cons_zero, List.set_cons_succ])
                          refine wpQuiet_nil ?_
                          refine wpTree_one _ rfl ?_
                          go_wp2_with fail
                          refine (sameMessage_any m8 F A8 A3 _ _ _ _ l8 b rfl rfl _ (H11.out.2.2.1.below hC0) (HS.out.2.1.below hC0)).mono ?_
                          rintro e w12 ⟨rfl, hb12⟩
                          have hC1 : Below w11.heap.size w11 w12 := hC0.trans (hb12.mono hC0.size)
                          rw [HW8.out.1, decide_eq_true HW8.out.2, Bool.true_and]
                          clear hC0 hb12
                          go_wp2_with fail
                          refine TreeQ.in_ hC1 ?_
                          refine wpTree_pure _ _ _ (by rfl) (by rfl) ?_
                          dsimp only [List.filterMap, List.getElem?_cons_zero, List.getElem?_cons_succ]
                          repeat (go_big_quiet_step (fail))
                          refine wpQuiet_nil ?_
                          refine wpTree_done ?_
                          go_wp2_with fail
                          have hD0 : Below w11.heap.size w11 w12.drew := hC1.drew
                          rcases HC10.out with e10 | e10 | ⟨e10, hw10⟩
                          · subst e10
                            refine wp_region_tree (Below w11.heap.size w11) [] (PlanT.takes [0,1,2,3,4,5,6,7,8,9,11,12,13] (PlanT.takes [10,14] (.opt 15 (PlanT.takes [16,17,18] .done) .no))) (by kernel_rfl) (by kernel_rfl) hD0 ?_
                            refine wpTree_pure _ _ _ (by rfl) (by rfl) ?_
                            dsimp only [List.filterMap, List.getElem?_cons_zero, List.getElem?_cons_succ]
                            repeat (go_big_quiet_step (fail))
                            refine wpQuiet_nil ?_
                            refine wpTree_takeL _ _ _ (by rfl) (by rfl) (hD0) ?_
                            dsimp only [List.filterMap, List.getElem?_cons_zero, List.getElem?_cons_succ]
                            go_big_quiet_step (fail)
                            go_big_quiet_step (fail)
                            refine wpQuiet_nil ?_
                            refine wpTree_one _ rfl ?_
                            go_wp2_with fail
                            refine TreeQ.in_ hD0 ?_
                            refine wpTree_pure _ _ _ (by rfl) (by rfl) ?_
                            dsimp only [List.filterMap, List.getElem?_cons_zero, List.getElem?_cons_succ]
                            repeat (go_big_quiet_step (fail))
                            refine wpQuiet_nil ?_
                            refine wpTree_done ?_
                            have HE := Lib.hid (And.intro (H11.out.1.below hD0) (And.intro (H11.out.2.1.below hD0) (And.intro (show ∀ t, k4 + 1 ≤ t → jst lj' t = jst ls t from fun t ht => by rw [HC8.out.1 t (by omega)]; exact HG.out.2.2.1 t (by omega)) (H11.out.2.2.2.2.2.2.1.trans (Near.below hD0)))))
                            go_wp2_with fail
                            exact ⟨⟨k4 + 1, lj', lk', by omega, by go_num, HE.out⟩, by simp [intOf]; omega⟩
                          · subst e10
                            refine wp_region_tree (Below w11.heap.size w11) [] (PlanT.takes [0,1,2,3,4,5,6,7,8,9,11,12,13] (PlanT.takes [10,14] (.opt 15 (PlanT.takes [16,17,18] .done) .no))) (by kernel_rfl) (by kernel_rfl) hD0 ?_
                            refine wpTree_pure _ _ _ (by rfl) (by rfl) ?_
                            dsimp only [List.filterMap, List.getElem?_cons_zero, List.getElem?_cons_succ]
                            repeat (go_big_quiet_step (fail))
                            refine wpQuiet_nil ?_
                            refine wpTree_takeL _ _ _ (by rfl) (by rfl) (hD0) ?_
                            dsimp only [List.filterMap, List.getElem?_cons_zero, List.getElem?_cons_succ]
                            go_big_quiet_step (fail)
                            go_big_quiet_step (fail)
                            refine wpQuiet_nil ?_
                            refine wpTree_one _ rfl ?_
                            go_wp2_with fail
                            refine TreeQ.in_ hD0 ?_
                            refine wpTree_pure _ _ _ (by rfl) (by rfl) ?_
                            dsimp only [List.filterMap, List.getElem?_cons_zero, List.getElem?_cons_succ]
                            repeat (go_big_quiet_step (fail))
                            refine wpQuiet_nil ?_
                            refine wpTree_done ?_
                            have HE := Lib.hid (And.intro (H11.out.1.below hD0) (And.intro (H11.out.2.1.below hD0) (And.intro (show ∀ t, k4 + 1 ≤ t → jst lj' t = jst ls t from fun t ht => by rw [HC8.out.1 t (by omega)]; exact HG.out.2.2.1 t (by omega)) (H11.out.2.2.2.2.2.2.1.trans (Near.below hD0)))))
                            go_wp2_with fail
                            exact ⟨⟨k4 + 1, lj', lk', by omega, by go_num, HE.out⟩, by simp [intOf]; omega⟩
                          · subst e10
                            have HW10 := Lib.hid (HS.out.1 m10 l10 hw10)
                            clear hw10
                            refine wp_region_tree (Below w11.heap.size w11) [] (PlanT.takes [0,1,2,3,4,5,6,7,8,9,11,12,13] (PlanT.takes [10,14] (.opt 15 (PlanT.takes [16,17,18] .done) .no))) (by kernel_rfl) (by kernel_rfl) hD0 ?_
                            refine wpTree_pure _ _ _ (by rfl) (by rfl) ?_
                            dsimp only [List.filterMap, List.getElem?_cons_zero, List.getElem?_cons_succ]
                            repeat (go_big_quiet_step (fail))
                            refine wpQuiet_nil ?_
                            refine wpTree_takeL _ _ _ (by rfl) (by rfl) (hD0) ?_
                            dsimp only [List.filterMap, List.getElem?_cons_zero, List.getElem?_cons_succ]
                            (refine wpQuiet_want' (by rfl) ?_; refine wpQuiet_load_blk (fun w' hw' => H11.out.2.2.2.2.2.1.below hw' H11.out.2.2.2.2.2.1.lt) (by rfl) _ _ (by rfl) (by rfl) _ Tryz.underlying41 (by rfl) (sizeMsg) (msgc_size _ _) ?_; simp only [Act.put, List.setIfInBounds_toArray, List.set_cons_zero, List.set_cons_succ])
                            (refine wpQuiet_want' (by rfl) ?_; refine wpQuiet_load_mid (fun w' hw' => fun j v hv => (hw'.cell (show b1 < w11.heap.size from H11.out.2.2.2.2.2.2.2.2.lt)).trans (HS.out.2.2 j v hv)) (by rfl) _ _ (by rfl) (by rfl) _ Tryz.underlying41 (by rfl) (sizeMsg) (by rw [Array.length_toList, msgc_size]) ?_; simp only [Act.put, List.setIfInBounds_toArray, List.set_cons_zero, List.set_cons_succ])
                            refine wpQuiet_nil ?_
                            refine wpTree_one _ rfl ?_
                            go_wp2_with fail
                            refine (sameMessage_any m10 F A10 A3 _ _ _ _ l10 b rfl rfl _ (H11.out.2.2.2.1.below hD0) (HS.out.2.1.below hD0)).mono ?_
                            rintro e w13 ⟨rfl, hb13⟩
                            have hD1 : Below w11.heap.size w11 w13 := hD0.trans (hb13.mono hD0.size)
                            rw [HW10.out.1, decide_eq_true HW10.out.2, Bool.true_and]
                            go_wp2_with fail
                            refine TreeQ.in_ hD1 ?_
                            refine wpTree_pure _ _ _ (by rfl) (by rfl) ?_
                            dsimp only [List.filterMap, List.getElem?_cons_zero, List.getElem?_cons_succ]
                            repeat (go_big_quiet_step (fail))
                            refine wpQuiet_nil ?_
                            refine wpTree_done ?_
                            have HE := Lib.hid (And.intro (H11.out.1.below hD1) (And.intro (H11.out.2.1.below hD1) (And.intro (show ∀ t, k4 + 1 ≤ t → jst lj' t = jst ls t from fun t ht => by rw [HC8.out.1 t (by omega)]; exact HG.out.2.2.1 t (by omega)) (H11.out.2.2.2.2.2.2.1.trans (Near.below hD1)))))
                            go_wp2_with fail
                            exact ⟨⟨k4 + 1, lj', lk', by omega, by go_num, HE.out⟩, by simp [intOf]; omega⟩
                    · obtain rfl : k4 = 16 := by omega
                      clear hlt hk4
                      go_wp2_with fail
                      go_ret
                      exact ⟨rfl, HG.out.2.2.2.2.1⟩
end Go.Proofs.YtfoegmjpfkmggaaGreatDoor

/- JournalTurned: for every input the law returns true and the arguments read as they did. Condition: the tables of Go's library are as their initialisers lay them (tied to the program's text by the card). -/
namespace Go.Proofs.YtfoegmjpfkmggaaGreatDoor
open Go.ChangeShapes Go.WideShapes Go.ChangeAt Go.RowKit
def stepSh : Sh := .cons (.int .i64) (.cons (.int .i64) (.cons (.int .i64) (.cons (.int .i64) (.cons .str (.cons (.slice .bool) (.cons (.int .i64) .nil))))))
def turnSh : Sh := .cons (.int .i64) (.cons .byte .nil)
theorem stepSh_is {w : World} {x : stepSh.T} {cs : List Value} (h : Sh.Is w stepSh x cs) : ∃ y : StT, cs = strow y := by
  obtain ⟨c1, c2, rfl, _, h1, c3, c4, rfl, _, h2, c5, c6, rfl, _, h3, c7, c8, rfl, _, h4, c9, c10, rfl, _, h5, c11, c12, rfl, _, h6, c13, c14, rfl, _, h7, h8⟩ := h
  obtain ⟨rfl, _⟩ := h1
  obtain ⟨rfl, _⟩ := h2
  obtain ⟨rfl, _⟩ := h3
  obtain ⟨rfl, _⟩ := h4
  obtain ⟨rfl, _⟩ := h5
  obtain ⟨A, c, rows, rfl, _⟩ := h6
  obtain ⟨rfl, _⟩ := h7
  have h8 : c14 = [] := h8
  subst h8
  exact ⟨((_, _, _, _), (x.2.2.2.2.1 : ByteArray).data.toList, (A, _, c), _), rfl⟩
theorem turnSh_is {w : World} {x : turnSh.T} {cs : List Value} (h : Sh.Is w turnSh x cs) : ∃ y : Int × UInt8, cs = turow y := by
  obtain ⟨c1, c2, rfl, _, h1, c3, c4, rfl, _, h2, h8⟩ := h
  obtain ⟨rfl, _⟩ := h1
  have h2 : c3 = [u8v x.2.1] := h2
  have h8 : c4 = [] := h8
  subst h2 h8
  exact ⟨(x.1, x.2.1), rfl⟩
theorem steps_both {w : World} : ∀ {l : List stepSh.T} {rows : List (List Value)}, Both (fun d r => r.length = stepSh.size ∧ Sh.Is w stepSh d r) l rows → ∃ l' : List StT, l'.length = l.length ∧ rows.flatten = l'.flatMap strow
  | [], [], _ => ⟨[], rfl, rfl⟩
  | [], _ :: _, h => h.elim
  | _ :: _, [], h => h.elim
  | a :: l, r :: rows, ⟨h1, h2⟩ => by
    obtain ⟨y, rfl⟩ := stepSh_is h1.2
    obtain ⟨l', e1, e2⟩ := steps_both h2
    exact ⟨y :: l', by simp [e1], by rw [List.flatten_cons, e2, List.flatMap_cons]⟩
theorem turns_both {w : World} : ∀ {l : List turnSh.T} {rows : List (List Value)}, Both (fun d r => r.length = turnSh.size ∧ Sh.Is w turnSh d r) l rows → ∃ l' : List (Int × UInt8), l'.length = l.length ∧ rows.flatten = l'.flatMap turow
  | [], [], _ => ⟨[], rfl, rfl⟩
  | [], _ :: _, h => h.elim
  | _ :: _, [], h => h.elim
  | a :: l, r :: rows, ⟨h1, h2⟩ => by
    obtain ⟨y, rfl⟩ := turnSh_is h1.2
    obtain ⟨l', e1, e2⟩ := turns_both h2
    exact ⟨y :: l', by simp [e1], by rw [List.flatten_cons, e2, List.flatMap_cons]⟩
theorem journalTurned_args (A B : Option Addr) (c d : Nat) (l : List stepSh.T) (k : List turnSh.T) (rows rows2 : List (List Value)) (W : World) (hb : Both (fun d r => r.length = stepSh.size ∧ Sh.Is W stepSh d r) l rows) (hr : Reads W A rows.flatten) (hb2 : Both (fun d r => r.length = turnSh.size ∧ Sh.Is W turnSh d r) k rows2) (hr2 : Reads W B rows2.flatten) :
    Calls Tryz.prog 3 #[.slice A l.length c, .slice B k.length d] W fun e w' => e = .returned (.bool true) ∧ Below W.heap.size W w' := by
  obtain ⟨l', e1, e2⟩ := steps_both hb
  obtain ⟨k', e3, e4⟩ := turns_both hb2
  rw [e2] at hr
  rw [e4] at hr2
  rw [← e1, ← e3]
  exact jturned_law A B c d l' k' W hr hr2
set_option maxRecDepth 100000 in
theorem journalTurned_lifted (os : Os) (started : os.Started) (H : Type) (enc : TypeId × Value → H) :
    ReturnsInHanded {} Tryz.checked os 3 .any (fun w args => (Rows.journalTurnedSpec.pre enc Tryz.prog Tryz.f3 [] false w args ∧ laidMetH Tryz.prog laid1 w) ∧ sizedMet enc Tryz.prog Tryz.f3 (OpenSpec.ofChange Rows.journalTurnedSpec) false w args) (Rows.journalTurnedSpec.post enc Tryz.prog Tryz.f3 false true false false) := by
  refine returnsInHanded_of_change_and (C := Tryz.checked) (X := fun w _ => laidMetH Tryz.prog laid1 w) (fun _ _ _ hh h => h.of_heap hh) Tryz.own started (by kernel_rfl) Tryz.func3
    (ChangeSpec.witness_shaped (enc := enc) (C := Tryz.checked) (os := os) (X := fun w _ => laidMetH Tryz.prog laid1 w) false (laidW os) #[.slice none 0 0, .slice none 0 0] 8 rfl (World.shaped_of_RefB (by kernel_rfl) (by kernel_rfl)) (by kernel_rfl) (by kernel_rfl) (by kernel_rfl) (door_met os _)) ?_
  intro W base args ds gs before hval0 hW _ _ hL _
  have hval : ∀ (j : Nat) t v, Tryz.f3.params[j]? = some t → args[j]? = some v → Value.okWide Tryz.prog W .any base t v := hval0
  have hW' := hW
  obtain ⟨p, q, hA0, hV, rfl, hfz, hnd⟩ := hW
  have hA : DataW.TrodAll enc Tryz.prog W 0 (fun _ => true) true Tryz.f3.params.toList args.toList ds p := hA0
  rw [Tryz.params3] at hA hval
  obtain ⟨v0, v1, d0, d1, p0, p1, rfl, rfl, rfl, h0, h1⟩ := trodAll_two hA
  obtain ⟨rfl, rfl⟩ := trodVars_none hV
  have h0k := h0
  have h1k := h1
  obtain ⟨l, hx0⟩ := Sh.open_ (P := Tryz.prog) (.slice stepSh) (by kernel_rfl) h0
  obtain ⟨A, c, rows0, rfl, hlc, hcm, hb1, hr1⟩ := arg_slice Tryz.underlying22 (hval 0 22 v0 rfl rfl) hx0
  obtain ⟨k, hx1⟩ := Sh.open_ (P := Tryz.prog) (.slice turnSh) (by kernel_rfl) h1
  obtain ⟨B, d, rows1, rfl, hkd, hdm, hb2, hr2⟩ := arg_slice Tryz.underlying23 (hval 1 23 v1 rfl rfl) hx1
  clear hA0 hval0
  simp only [List.append_nil] at hW'
  have hlt : ∀ x ∈ p0 ++ p1, x.block < W.heap.size := fun x hx => by simpa using hW'.lt x hx
  refine (journalTurned_args A B c d l k _ _ W hb1 hr1 hb2 hr2).mono fun e W' ⟨he, hw⟩ => ?_
  subst he
  refine ⟨_, rfl, _, _, _, [], p0 ++ p1, [], hW', ?_, ?_, rfl, hw.frame _, fun h => by cases h⟩
  · exact trodAll_mk1 (shut_bool Tryz.underlying4 true)
  · exact trodAll_mk2 (Below.trod Tryz.laidOut (by kernel_rfl) (of_decide_eq_true (by kernel_rfl)) h0k hw (fun x hx => hlt x (by simp [hx]))) (Below.trod Tryz.laidOut (by kernel_rfl) (of_decide_eq_true (by kernel_rfl)) h1k hw (fun x hx => hlt x (by simp [hx])))
theorem journalTurned_holds : Rows.JournalTurnedSaid :=
  OpenClaim.holds_of_wide 3 Tryz.f3 rfl rfl rfl rfl rfl rfl rfl ⟨rfl, rfl, rfl, rfl, rfl⟩ rfl rfl rfl rfl rfl (by kernel_rfl) Tryz.func3 (by kernel_rfl)
    (of_decide_eq_true (by kernel_rfl)) (by unfold Func.isWrapper; rw [if_neg (by decide +kernel)]; exact ⟨rfl, rfl⟩)
    (fun os started H enc _ => journalTurned_lifted os started H enc)
theorem journalTurned_card : Rows.JournalTurnedCardSaid :=
  Claim7.holds_tied_plain_at .later [] [.data, .pinned] true Rows.journalTurnedCard.stood.harness false
    journalTurned_holds (fun _ h => by cases h) (by kernel_rfl) (fun _ h => by cases h) journalTurned_row_tie rfl ⟨rfl, rfl⟩ (by kernel_rfl) rfl
    (fun f fn hf hfn => by
      obtain rfl : f = 3 := Option.some.inj ((show Tryz.prog.funcNamed Rows.journalTurnedRow.func = some 3 by kernel_rfl).symm.trans hf) |>.symm
      obtain rfl : fn = Tryz.f3 := (Option.some.inj (Tryz.func3.symm.trans hfn)).symm
      exact ⟨by kernel_rfl, fun j t ht => by
        rw [Tryz.params3] at ht
        have hm : t ∈ [22, 23] := by simpa using Array.mem_of_getElem? ht
        have hall : ([22, 23].all fun u => !Tryz.prog.wantsStandIn u) = true := by kernel_rfl
        exact (show Tryz.prog.wantsStandIn t = false by simpa using List.all_eq_true.1 hall t hm)⟩)
    (by kernel_rfl)
end Go.Proofs.YtfoegmjpfkmggaaGreatDoor
