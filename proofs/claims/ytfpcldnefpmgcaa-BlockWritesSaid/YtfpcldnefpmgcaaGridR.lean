/- A block's bytes told, and read, by the program. Conditions: the lists can be read. -/
import Derived.Test.YtfpcldnefpmgcaaGridL
import Derived.Test.YtfpcldnefpmgcaaSums
namespace Go
open Go.RowKit
/-- Arrays of bytes compared, where they are asked to differ. -/
theorem wpQuiet_neq_bytes {P : Program} {ops : Array Oper} {C : World → Prop} {Q : Act → Prop} {rest : List Oper} {a : Act} {o : Oper} (hgd : o.guard = none) (t e r : TypeId) (x y : Operand) (ho : o.op = .binOp .neq t x y r) (n : Nat)
    (ht : P.underlying t = some (.array n e)) (he : P.underlying e = some (.int .u8)) (hsz : (P.info? e).map (·.size) = some 1) (hm : P.eqGuardType P.depth t = false)
    (l l' : List UInt8) (hx : a.eval x = .agg (l.map u8v).toArray) (hy : a.eval y = .agg (l'.map u8v).toArray) (hl : l.length = n) (hl' : l'.length = n) (b : Bool) (hbb : b = !decide (l = l'))
    (h : wpQuiet P ops C Q rest (a.put o.dst (.bool b))) : wpQuiet P ops C Q (o :: rest) a := by
  subst hbb
  refine wpQuiet_step fun K hK => ?_
  rw [if_pos (by simp [Region.wanted, hgd])]
  refine ⟨_, fun w hw => ?_, hK _ h⟩
  obtain ⟨i, hi, hs⟩ := Option.map_eq_some_iff.1 hsz
  have hsz' : ∀ w, (sizeOf e).run P w = .ok 1 w := fun w => by simp [sizeOf, typeInfo, hi, hs]
  have h1 := run_eql_bytes (P := P) w t e n ht he hsz' l l' hl hl'
  rw [u8v_cell] at h1
  have h2 : (l == l') = decide (l = l') := by by_cases h : l = l' <;> simp [h]
  rw [h2] at h1
  have h3 : (binOp .neq t (.agg (l.map u8v).toArray) (.agg (l'.map u8v).toArray)).run P w = .ok (.bool (!decide (l = l'))) w := by
    simp only [binOp, Sem.run_bind] at h1 ⊢
    generalize (Op.equal t (.agg (l.map u8v).toArray) (.agg (l'.map u8v).toArray)).run P w = r at h1 ⊢
    cases r with
    | ok v w' => simp only [Result.andThen_ok, Sem.run_pure, Result.ok.injEq, Value.bool.injEq] at h1 ⊢; exact ⟨by rw [h1.1], h1.2⟩
    | halt v w' => simp [Result.andThen] at h1
  unfold Oper.quietAt execOp
  simp only [ho, hx, hy, Sem.run_bind, run_eqGuard_agg w .neq t x y _ _ hm, h3, Result.andThen_ok, Sem.run_pure]
  exact ⟨rfl, rfl⟩
theorem wpList_append_all {P : Program} {w : World} {Q : Exit → Act → World → Prop} {ops : Array Oper} {rest : List Oper} {o : Oper} {a : Act} (hgd : o.guard = none) (s x : Operand) (t : TypeId)
    (ho : o.op = .call { callee := .builtin .append, args := #[s, x], argTypes := #[t, t] })
    (base : Nat) (e : TypeId) (z : Value) (size bytes : Nat) (ht : P.underlying t = some (.slice e)) (hi : (P.info? e).map (fun i => (i.zero, i.size, i.bytes)) = some (some z, size, bytes)) (hzs : z.cells.size = size) (hsz : 0 < size)
    (v : Value) (n : Nat) (xs sp : List Value) (hs : a.eval s = v) (hown : Own e size w base v n xs sp)
    (A : Option Addr) (m c : Nat) (news : List Value) (hx : a.eval x = .slice A m c) (hl : news.length = m * size) (hr : Reads w A news) (h1 : ∀ u ∈ news, u.oneCell' = true)
    (h63 : n + m ≤ maxLen) (hbytes : (n + m) * bytes ≤ 140737488355328) (hbase : base ≤ w.heap.size)
    (h : ∀ v' w' sp', Own e size w' base v' (n + m) (xs ++ news) sp' → w.grownBy w' v.ownBlock → wpList P ops Q rest (a.put o.dst v') w') : wpList P ops Q (o :: rest) a w :=
  wpList_plain hgd fun _ hK => wp_append_all s x t ho base e z size bytes ht hi hzs hsz v n xs sp hs hown A m c news hx hl hr h1 h63 hbytes hbase fun v' w' sp' h2 h3 _ _ _ => hK _ _ (h v' w' sp' h2 h3)
namespace Proofs.Ytfpcldnefpmgcaa
def refCells (l : List RefT) : List Value := l.flatMap fun r => [.int .i64 r.1, .int .i64 r.2.1]
theorem refCells_length (l : List RefT) : (refCells l).length = l.length * 2 := by
  induction l with
  | nil => rfl
  | cons r l ih => unfold refCells at *; rw [List.flatMap_cons, List.length_append, ih]; simp; omega
theorem refCells_at (l : List RefT) : ∀ i, (h : i < l.length) → (refCells l)[i * 2]? = some (.int .i64 l[i].1) ∧ (refCells l)[i * 2 + 1]? = some (.int .i64 l[i].2.1) := by
  induction l with
  | nil => intro i h; simp at h
  | cons r l ih =>
    intro i h
    have e : refCells (r :: l) = .int .i64 r.1 :: .int .i64 r.2.1 :: refCells l := rfl
    rw [e]
    cases i with
    | zero => exact ⟨rfl, rfl⟩
    | succ i =>
      obtain ⟨h1, h2⟩ := ih i (by simpa using h)
      rw [show (i + 1) * 2 = i * 2 + 1 + 1 by omega]
      exact ⟨by simpa using h1, by simpa using h2⟩
theorem Refs.of {w : World} {A : Option Addr} {l : List RefT} (h : Reads w A (refCells l)) : Refs w A l := fun hp => by
  have h0 := refCells_at l 0 hp
  obtain ⟨b, off, e, hc⟩ := h (by intro e; rw [e] at h0; simp at h0)
  refine ⟨b, off, e, World.block_lt_of_cell? w _ (hc 0 _ h0.1), fun i hi => ?_⟩
  obtain ⟨h1, h2⟩ := refCells_at l i hi
  exact ⟨hc _ _ h1, by rw [Nat.add_assoc]; exact hc _ _ h2⟩
theorem Refs.reads {w : World} {A : Option Addr} {l : List RefT} (h : Refs w A l) : Reads w A (refCells l) := fun hn => by
  have hp : 0 < l.length := by
    rcases Nat.eq_zero_or_pos l.length with h0 | h0
    · rw [List.eq_nil_of_length_eq_zero h0] at hn; exact absurd rfl hn
    · exact h0
  obtain ⟨b, off, e, _, hc⟩ := h hp
  refine ⟨b, off, e, fun j v hv => ?_⟩
  have hj : j < (refCells l).length := by
    rcases Nat.lt_or_ge j (refCells l).length with h1 | h1
    · exact h1
    · rw [List.getElem?_eq_none h1] at hv; cases hv
  rw [refCells_length] at hj
  obtain ⟨h1, h2⟩ := refCells_at l (j / 2) (by omega)
  obtain ⟨c1, c2⟩ := hc (j / 2) (by omega)
  have hj2 : j = j / 2 * 2 ∨ j = j / 2 * 2 + 1 := by omega
  rcases hj2 with hh | hh
  · rw [hh] at hv ⊢; rw [h1] at hv; cases hv; exact c1
  · rw [hh] at hv ⊢; rw [h2] at hv; cases hv; rw [← Nat.add_assoc]; exact c2
theorem refCells_one (l : List RefT) : ∀ u ∈ refCells l, u.oneCell' = true := fun u hu => by
  unfold refCells at hu
  simp only [List.mem_flatMap] at hu
  obtain ⟨r, _, hr⟩ := hu
  simp at hr
  rcases hr with rfl | rfl <;> rfl
theorem sizeGB : (Try.prog.info? 45).map (·.size) = some 5 := by kernel_rfl
theorem bytes_ok (k ra rs : Int) (A B : Option Addr) (c d : Nat) (l : List RefT) (body : List UInt8) (hok : GB.ok (k, (ra, rs, ()), l, body, ()) = true) (w : World) (hr : Refs w A l) (hb : Bytes w B body) :
    Calls Try.prog 30 #[.agg #[.int .i64 k, .int .i64 ra, .int .i64 rs, .slice A l.length c, .slice B body.length d]] w fun e w' => ∃ g, e = .returned (.tuple #[.slice (some ⟨g, 0, none⟩) 1024 1024, .int .i64 0]) ∧
      w.heap.size ≤ g ∧ Blk w' g 72 ((GB.bytes (k, (ra, rs, ()), l, body, ())).map u8v).toArray ∧ Below w.heap.size w w' := by
  obtain ⟨⟨k1, k2⟩, hrf, hn, hbl, hall⟩ := GB.ok_spec hok
  obtain ⟨r1, r2, r3, r4⟩ := refOk_spec hrf
  simp only at k1 k2 r1 r2 r3 r4 hn hbl
  clear hrf hall
  obtain ⟨k, rfl⟩ := Int.eq_ofNat_of_zero_le (show 0 ≤ k by omega)
  obtain ⟨ra, rfl⟩ := Int.eq_ofNat_of_zero_le (show 0 ≤ ra by omega)
  obtain ⟨rs, rfl⟩ := Int.eq_ofNat_of_zero_le r3
  have hlen := GB.bytes_length ((k : Int), ((ra : Int), (rs : Int), ()), l, body, ()) hn hbl
  have HOK := Lib.hid hok
  clear hok
  have hg := Blk.new w 45 #[.int .i64 k, .int .i64 ra, .int .i64 rs, .slice A l.length c, .slice B body.length d]
  have hB : Below w.heap.size w (w.alloc (.cells #[.int .i64 k, .int .i64 ra, .int .i64 rs, .slice A l.length c, .slice B body.length d] 45)) := (Below.refl _ _).alloc (Nat.le_refl _) _
  have a1024 := alloc1024
  generalize hL : GB.bytes ((k : Int), ((ra : Int), (rs : Int), ()), l, body, ()) = L at hlen ⊢
  have HL := Lib.hid hL
  clear hL
  go_enter Try.func30, Try.ntmps30
  go_wp2_with fail
  generalize w.alloc (.cells #[.int .i64 k, .int .i64 ra, .int .i64 rs, .slice A l.length c, .slice B body.length d] 45) = w1 at hg hB ⊢
  replace hr := Refs.below hr hB
  replace hb := Bytes.below hb hB
  refine (check_any k ra rs A B c d l body (by omega) (by omega) w1 hr).mono ?_
  rintro e w2 ⟨rfl, hbx⟩
  (replace hr := keep hbx hr; replace hb := keep hbx hb; replace hg := keep hbx hg; replace hB := hB.trans (hbx.mono hB.size); clear hbx)
  rw [GB.code_ok HOK.out]
  go_wp2_with (first
    | (show wpList _ _ _ ((⟨some 11, _, _, _, _, _⟩ : Oper) :: _) _ _; refine wpList_load_blk (o := ⟨some 11, _, _, _, _, _⟩) hg (by rfl) _ _ (by rfl) (by rfl) _ Try.underlying45 (by rfl) sizeGB (by simp) ?_)
    | fail)
  refine (laid_any k ra rs A B c d l body HOK.out w2 hr hb).mono ?_
  rintro e w3 ⟨rfl, hbx⟩
  (replace hB := hB.trans (hbx.mono hB.size); clear hbx hg)
  rw [HL.out]
  go_wp2_with (first
    | (show wpList _ _ _ ((⟨none, _, _, _, _, _⟩ : Oper) :: _) _ _; refine wpList_store_blk (o := ⟨none, _, _, _, _, _⟩) (Blk.new w3 72 zero1024) (by rfl) _ _ _ (by rfl) (by rfl) (L.map u8v).toArray (by rfl) size1024 (arr_size _ _) (by simpa using hlen) (u8_all _) ?_; intro w4 h4 hu4; have hB4 := (hB.alloc hB.size (.cells zero1024 72)).upd hu4 hB.size)
    | fail)
  go_ret2
  exact ⟨w3.heap.size, rfl, hB.size, h4, hB4⟩
theorem bytes_no (k ra rs : Int) (A B : Option Addr) (c d : Nat) (l : List RefT) (body : List UInt8) (hl : l.length ≤ 1000) (hbl : body.length ≤ 5000) (hok : GB.ok (k, (ra, rs, ()), l, body, ()) = false) (w : World) (hr : Refs w A l) :
    Calls Try.prog 30 #[.agg #[.int .i64 k, .int .i64 ra, .int .i64 rs, .slice A l.length c, .slice B body.length d]] w fun e w' => e = .returned (.tuple #[.slice none 0 0, .int .i64 2]) ∧ Below w.heap.size w w' := by
  have hB : Below w.heap.size w (w.alloc (.cells #[.int .i64 k, .int .i64 ra, .int .i64 rs, .slice A l.length c, .slice B body.length d] 45)) := (Below.refl _ _).alloc (Nat.le_refl _) _
  have HOK := Lib.hid hok
  clear hok
  go_enter Try.func30, Try.ntmps30
  go_wp2_with fail
  generalize w.alloc (.cells #[.int .i64 k, .int .i64 ra, .int .i64 rs, .slice A l.length c, .slice B body.length d] 45) = w1 at hB ⊢
  replace hr := Refs.below hr hB
  refine (check_any k ra rs A B c d l body hl hbl w1 hr).mono ?_
  rintro e w2 ⟨rfl, hbx⟩
  (replace hB := hB.trans (hbx.mono hB.size); clear hbx)
  rw [GB.code_no HOK.out]
  go_wp2
  go_ret2
  exact ⟨rfl, hB⟩
end Proofs.Ytfpcldnefpmgcaa
end Go
