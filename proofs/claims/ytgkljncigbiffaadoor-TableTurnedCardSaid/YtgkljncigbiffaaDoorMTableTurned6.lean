/- A block's bytes told, and read, by the program. Conditions: the lists can be read. -/
import Derived.Test.YtgkljncigbiffaaDoorMTableTurned5
import Derived.Laws.StructEq
import Derived.Deep.MidRow
namespace Go
open Go.RowKit
/-- Arrays of bytes compared, where they are asked to differ. -/
theorem wpQuiet_neq_bytesG {P : Program} {ops : Array Oper} {C : World → Prop} {Q : Act → Prop} {rest : List Oper} {a : Act} {o : Oper} (hgd : o.guard = none) (t e r : TypeId) (x y : Operand) (ho : o.op = .binOp .neq t x y r) (n : Nat)
    (ht : P.underlying t = some (.array n e)) (he : P.underlying e = some (.int .u8)) (hsz : (P.info? e).map (·.size) = some 1) (hm : P.eqGuardType P.depth t = false)
    (l l' : List UInt8) (hx : a.eval x = .agg (l.map u8v).toArray) (hy : a.eval y = .agg (l'.map u8v).toArray) (hl : l.length = n) (hl' : l'.length = n) (b : Bool) (hbb : b = !decide (l = l'))
    (h : wpQuiet P ops C Q rest (a.put o.dst (.bool b))) : wpQuiet P ops C Q (o :: rest) a := by
  subst hbb
  refine wpQuiet_step fun K hK => ?_
  rw [if_pos (by simp [Region.wanted, hgd])]
  refine ⟨_, fun w hw => ?_, hK _ h⟩
  obtain ⟨i, hi, hs⟩ := Option.map_eq_some_iff.1 hsz
  have hsz' : ∀ w, (sizeOf e).run P w = .ok 1 w := fun w => by simp [sizeOf, typeInfo, hi, hs]
  have h1 := run_eql_bytes (P := P) w t e n ht he hsz' l l' hl hl'
  rw [u8v_cell] at h1
  have h2 : (l == l') = decide (l = l') := by by_cases h : l = l' <;> simp [h]
  rw [h2] at h1
  have h3 : (binOp .neq t (.agg (l.map u8v).toArray) (.agg (l'.map u8v).toArray)).run P w = .ok (.bool (!decide (l = l'))) w := by
    simp only [binOp, Sem.run_bind] at h1 ⊢
    generalize (Op.equal t (.agg (l.map u8v).toArray) (.agg (l'.map u8v).toArray)).run P w = r at h1 ⊢
    cases r with
    | ok v w' => simp only [Result.andThen_ok, Sem.run_pure, Result.ok.injEq, Value.bool.injEq] at h1 ⊢; exact ⟨by rw [h1.1], h1.2⟩
    | halt v w' => simp [Result.andThen] at h1
  unfold Oper.quietAt execOp
  simp only [ho, hx, hy, Sem.run_bind, run_eqGuard_agg w .neq t x y _ _ hm, h3, Result.andThen_ok, Sem.run_pure]
  exact ⟨rfl, rfl⟩
theorem wpList_append_allG {P : Program} {w : World} {Q : Exit → Act → World → Prop} {ops : Array Oper} {rest : List Oper} {o : Oper} {a : Act} (hgd : o.guard = none) (s x : Operand) (t : TypeId)
    (ho : o.op = .call { callee := .builtin .append, args := #[s, x], argTypes := #[t, t] })
    (base : Nat) (e : TypeId) (z : Value) (size bytes : Nat) (ht : P.underlying t = some (.slice e)) (hi : (P.info? e).map (fun i => (i.zero, i.size, i.bytes)) = some (some z, size, bytes)) (hzs : z.cells.size = size) (hsz : 0 < size)
    (v : Value) (n : Nat) (xs sp : List Value) (hs : a.eval s = v) (hown : OwnsC e size w base v n xs sp)
    (A : Option Addr) (m c : Nat) (news : List Value) (hx : a.eval x = .slice A m c) (hl : news.length = m * size) (hr : Reads w A news) (h1 : ∀ u ∈ news, u.oneCell' = true)
    (h63 : n + m ≤ maxLen) (hbytes : (n + m) * bytes ≤ 140737488355328) (hbase : base ≤ w.heap.size)
    (h : ∀ v' w' sp', OwnsC e size w' base v' (n + m) (xs ++ news) sp' → w.grownBy w' v.ownBlock → wpList P ops Q rest (a.put o.dst v') w') : wpList P ops Q (o :: rest) a w :=
  wpList_plain hgd fun _ hK => wp_append_all s x t ho base e z size bytes ht hi hzs hsz v n xs sp hs hown A m c news hx hl hr h1 h63 hbytes hbase fun v' w' sp' h2 h3 _ _ _ => hK _ _ (h v' w' sp' h2 h3)
namespace Proofs.YtgkljncigbiffaaDoor
def refCells (l : List RefT) : List Value := l.flatMap fun r => [.int .i64 r.1, .int .i64 r.2.1]
theorem refCells_length (l : List RefT) : (refCells l).length = l.length * 2 := by
  induction l with
  | nil => rfl
  | cons r l ih => unfold refCells at *; rw [List.flatMap_cons, List.length_append, ih]; simp; omega
theorem refCells_at (l : List RefT) : ∀ i, (h : i < l.length) → (refCells l)[i * 2]? = some (.int .i64 l[i].1) ∧ (refCells l)[i * 2 + 1]? = some (.int .i64 l[i].2.1) := by
  induction l with
  | nil => intro i h; simp at h
  | cons r l ih =>
    intro i h
    have e : refCells (r :: l) = .int .i64 r.1 :: .int .i64 r.2.1 :: refCells l := rfl
    rw [e]
    cases i with
    | zero => exact ⟨rfl, rfl⟩
    | succ i =>
      obtain ⟨h1, h2⟩ := ih i (by simpa using h)
      rw [show (i + 1) * 2 = i * 2 + 1 + 1 by omega]
      exact ⟨by simpa using h1, by simpa using h2⟩
theorem Refs.of {w : World} {A : Option Addr} {l : List RefT} (h : Reads w A (refCells l)) : Refs w A l := fun hp => by
  have h0 := refCells_at l 0 hp
  obtain ⟨b, off, e, hc⟩ := h (by intro e; rw [e] at h0; simp at h0)
  refine ⟨b, off, e, World.block_lt_of_cell? w _ (hc 0 _ h0.1), fun i hi => ?_⟩
  obtain ⟨h1, h2⟩ := refCells_at l i hi
  exact ⟨hc _ _ h1, by rw [Nat.add_assoc]; exact hc _ _ h2⟩
theorem Refs.reads {w : World} {A : Option Addr} {l : List RefT} (h : Refs w A l) : Reads w A (refCells l) := fun hn => by
  have hp : 0 < l.length := by
    rcases Nat.eq_zero_or_pos l.length with h0 | h0
    · rw [List.eq_nil_of_length_eq_zero h0] at hn; exact absurd rfl hn
    · exact h0
  obtain ⟨b, off, e, _, hc⟩ := h hp
  refine ⟨b, off, e, fun j v hv => ?_⟩
  have hj : j < (refCells l).length := by
    rcases Nat.lt_or_ge j (refCells l).length with h1 | h1
    · exact h1
    · rw [List.getElem?_eq_none h1] at hv; cases hv
  rw [refCells_length] at hj
  obtain ⟨h1, h2⟩ := refCells_at l (j / 2) (by omega)
  obtain ⟨c1, c2⟩ := hc (j / 2) (by omega)
  have hj2 : j = j / 2 * 2 ∨ j = j / 2 * 2 + 1 := by omega
  rcases hj2 with hh | hh
  · rw [hh] at hv ⊢; rw [h1] at hv; cases hv; exact c1
  · rw [hh] at hv ⊢; rw [h2] at hv; cases hv; rw [← Nat.add_assoc]; exact c2
theorem refCells_one (l : List RefT) : ∀ u ∈ refCells l, u.oneCell' = true := fun u hu => by
  unfold refCells at hu
  simp only [List.mem_flatMap] at hu
  obtain ⟨r, _, hr⟩ := hu
  simp at hr
  rcases hr with rfl | rfl <;> rfl
theorem sizeGB : (Tryd.prog.info? 91).map (·.size) = some 5 := by kernel_rfl
theorem bytes_ok (k ra rs : Int) (A B : Option Addr) (c d : Nat) (l : List RefT) (body : List UInt8) (hok : GB.ok (k, (ra, rs, ()), l, body, ()) = true) (w : World) (hr : Refs w A l) (hb : Bytes w B body) :
    Calls Tryd.prog 102 #[.agg #[.int .i64 k, .int .i64 ra, .int .i64 rs, .slice A l.length c, .slice B body.length d]] w fun e w' => ∃ g, e = .returned (.tuple #[.slice (some ⟨g, 0, none⟩) 1024 1024, .int .i64 0]) ∧
      w.heap.size ≤ g ∧ Blk w' g 161 ((GB.bytes (k, (ra, rs, ()), l, body, ())).map u8v).toArray ∧ Below w.heap.size w w' := by
  obtain ⟨⟨k1, k2⟩, hrf, hn, hbl, hall⟩ := GB.ok_spec hok
  obtain ⟨r1, r2, r3, r4⟩ := refOk_spec hrf
  simp only at k1 k2 r1 r2 r3 r4 hn hbl
  clear hrf hall
  obtain ⟨k, rfl⟩ := Int.eq_ofNat_of_zero_le (show 0 ≤ k by omega)
  obtain ⟨ra, rfl⟩ := Int.eq_ofNat_of_zero_le (show 0 ≤ ra by omega)
  obtain ⟨rs, rfl⟩ := Int.eq_ofNat_of_zero_le r3
  have hlen := GB.bytes_length ((k : Int), ((ra : Int), (rs : Int), ()), l, body, ()) hn hbl
  have HOK := Lib.hid hok
  clear hok
  have hg := Blk.new w 91 #[.int .i64 k, .int .i64 ra, .int .i64 rs, .slice A l.length c, .slice B body.length d]
  have hB : Below w.heap.size w (w.alloc (.cells #[.int .i64 k, .int .i64 ra, .int .i64 rs, .slice A l.length c, .slice B body.length d] 91)) := (Below.refl _ _).alloc (Nat.le_refl _) _
  have a1024 := alloc1024
  generalize hL : GB.bytes ((k : Int), ((ra : Int), (rs : Int), ()), l, body, ()) = L at hlen ⊢
  have HL := Lib.hid hL
  clear hL
  go_enter Tryd.func102, Tryd.ntmps102
  go_wp2_with fail
  generalize w.alloc (.cells #[.int .i64 k, .int .i64 ra, .int .i64 rs, .slice A l.length c, .slice B body.length d] 91) = w1 at hg hB ⊢
  replace hr := Refs.below hr hB
  replace hb := Bytes.below hb hB
  refine (check_any k ra rs A B c d l body (by omega) (by omega) w1 hr).mono ?_
  rintro e w2 ⟨rfl, hbx⟩
  (replace hr := keep hbx hr; replace hb := keep hbx hb; replace hg := keep hbx hg; replace hB := hB.trans (hbx.mono hB.size); clear hbx)
  rw [GB.code_ok HOK.out]
  go_wp2_with (first
    | (show wpList _ _ _ ((⟨some 11, _, _, _, _, _⟩ : Oper) :: _) _ _; refine wpList_load_blk (o := ⟨some 11, _, _, _, _, _⟩) hg (by rfl) _ _ (by rfl) (by rfl) _ Tryd.underlying91 (by rfl) sizeGB (by simp) ?_)
    | fail)
  refine (laid_any k ra rs A B c d l body HOK.out w2 hr hb).mono ?_
  rintro e w3 ⟨rfl, hbx⟩
  (replace hB := hB.trans (hbx.mono hB.size); clear hbx hg)
  rw [HL.out]
  go_wp2_with (first
    | (show wpList _ _ _ ((⟨none, _, _, _, _, _⟩ : Oper) :: _) _ _; refine wpList_store_blk (o := ⟨none, _, _, _, _, _⟩) (Blk.new w3 161 zero1024) (by rfl) _ _ _ (by rfl) (by rfl) (L.map u8v).toArray (by rfl) size1024 (arr_size _ _) (by simpa using hlen) (u8_all _) ?_; intro w4 h4 hu4; have hB4 := (hB.alloc hB.size (.cells zero1024 161)).upd hu4 hB.size)
    | fail)
  go_ret2
  exact ⟨w3.heap.size, rfl, hB.size, h4, hB4⟩
end Proofs.YtgkljncigbiffaaDoor
end Go

/- What a call hands back whose first result lies in a block; reads over an Upd step. Plain facts over any program. No condition. -/
namespace Go
open Go.RowKit
theorem Bytes.range {w : World} {b off : Nat} {l : List UInt8} (h : Bytes w (some ⟨b, off, none⟩) l) : w.rangeAt b off (l.map u8v) := fun j v hv => by
  have hne : l.map u8v ≠ [] := by intro e; rw [e] at hv; simp at hv
  obtain ⟨b', off', e, hc⟩ := h hne
  simp only [Option.some.injEq, Addr.mk.injEq, and_true] at e
  rw [e.1, e.2]; exact hc j v hv
theorem Upd.cell {g : Nat} {w w' : World} (u : Upd g w w') {p : Addr} (hp : p.block ≠ g) : w'.cell? p = w.cell? p := by
  unfold World.cell?
  rw [u.block p.block hp]
theorem Reads.upd {g : Nat} {w w' : World} {A : Option Addr} {xs : List Value} (h : Reads w A xs) (u : Upd g w w') (hA : ∀ ad, A = some ad → ad.block ≠ g) : Reads w' A xs := fun hn => by
  obtain ⟨b, off, rfl, hc⟩ := h hn
  exact ⟨b, off, rfl, fun j v hv => (u.cell (p := ⟨b, off + j, none⟩) (hA ⟨b, off, none⟩ rfl)).trans (hc j v hv)⟩
theorem results_row_tmp {P : Program} {fn : Func} {p q : Tmp} {ty : TypeId} (h : fn.results = #[.cell p ty, .tmp q]) (tmps : Array Value) (w : World) (g : Nat) (t : TypeId) (cs : Array Value) (d : TypeDesc)
    (hp : tmps.getD p undef = .pointer (some ⟨g, 0, none⟩)) (hg : Blk w g t cs)
    (hu : P.underlying ty = some d) (hd : (match d with | .struct _ | .array _ _ => true | _ => false) = true) (hi : (P.info? ty).map (·.size) = some cs.size) :
    (results fn tmps).run P w = .ok (.tuple #[.agg cs, tmps.getD q undef]) w := by
  have hp' : tmps[p]?.getD undef = .pointer (some ⟨g, 0, none⟩) := by simpa using hp
  simp [results, h, hp', asAddr, run_loadVar_row w g t ty cs (0, 0) d hg hu hd hi]
end Go

/- A block's bytes read, by the program. Condition: the bytes can be read. -/
namespace Go
open Go.RowKit
namespace Proofs.YtgkljncigbiffaaDoor
open Go.RowKit
/-- What is told of a block that was read. -/
def ReadPost (b : GBT) (code : Int) (w : World) (e : Ending) (w' : World) : Prop :=
  ∃ A2 c2 B2 d2, e = .returned (.tuple #[.agg #[.int .i64 b.1, .int .i64 b.2.1.1, .int .i64 b.2.1.2.1, .slice A2 b.2.2.1.length c2, .slice B2 b.2.2.2.1.length d2], .int .i64 code]) ∧
    Refs w' A2 b.2.2.1 ∧ Bytes w' B2 b.2.2.2.1 ∧ b.2.2.1.length ≤ c2 ∧ b.2.2.2.1.length ≤ d2 ∧ d2 ≤ 9223372036854775807 ∧ Below w.heap.size w w' ∧ (∀ ad, A2 = some ad → w.heap.size ≤ ad.block) ∧ ∀ ad, B2 = some ad → w.heap.size ≤ ad.block
theorem ReadPost.none {code : Int} {w w' : World} (hB : Below w.heap.size w w') : ReadPost GB.none_ code w (.returned (.tuple #[.agg #[.int .i64 0, .int .i64 0, .int .i64 0, .slice none 0 0, .slice none 0 0], .int .i64 code])) w' :=
  ⟨Option.none, 0, Option.none, 0, rfl, fun h => absurd h (by simp [GB.none_]), Reads.nil _ _, Nat.le_refl _, Nat.le_refl _, by omega, hB, (fun _ e => by cases e), (fun _ e => by cases e)⟩
def zeroGB : Array Value := #[.int .i64 0, .int .i64 0, .int .i64 0, .slice none 0 0, .slice none 0 0]
theorem zeroGB_one : zeroGB.all (·.oneCell') = true := by simp [zeroGB, Value.oneCell']
/-- The refs that bytes say. -/
def refsOf (raw : List UInt8) (M : Nat) : List RefT := (List.range M).map (fun i => ((at4 raw (36 + 8 * i) : Int), (at4 raw (36 + 8 * i + 4) : Int), ()))
theorem refsOf_succ (raw : List UInt8) (i : Nat) : refsOf raw (i + 1) = refsOf raw i ++ [((at4 raw (36 + 8 * i) : Int), (at4 raw (36 + 8 * i + 4) : Int), ())] := by
  unfold refsOf; rw [List.range_succ, List.map_append]; rfl
theorem refsOf_length (raw : List UInt8) (M : Nat) : (refsOf raw M).length = M := by simp [refsOf]
theorem refCells_snoc (l : List RefT) (x y : Int) : refCells (l ++ [(x, y, ())]) = refCells l ++ [.int .i64 x, .int .i64 y] := by unfold refCells; simp
theorem infoRef : (Tryd.prog.info? 33).map (fun i => (i.zero, i.size, i.bytes)) = some (some (.agg #[.int .i64 0, .int .i64 0]), 2, 16) := by kernel_rfl
theorem GB.bytes_iff (P : GBT) (raw : List UInt8) (h : Sha.sum (raw.drop 16) = raw.take 16) : GB.bytes P = raw ↔ GB.rest P = raw.drop 16 := by
  constructor
  · intro e
    rw [← e]
    unfold GB.bytes
    rw [← Sha.sum_len (GB.rest P), List.drop_left]
  · intro e
    unfold GB.bytes
    rw [e, h, List.take_append_drop]
theorem nosel1024 : Tryd.prog.eqGuardType Tryd.prog.depth 161 = false := by kernel_rfl
/-- Ahead of each ref that is read. -/
def ReadRel (w : World) (g0 gb : Nat) (k a s : Int) (raw : List UInt8) (M : Nat) (v : Value) (wr : World) : Prop :=
  ∃ (i : Nat) (v3 : Value) (sp : List Value), i ≤ M ∧ v = .int .i64 (i : Int) ∧ Blk wr g0 91 zeroGB ∧ Blk wr gb 91 #[.int .i64 k, .int .i64 a, .int .i64 s, v3, .slice none 0 0] ∧
    OwnsC 33 2 wr (gb + 1) v3 i (refCells (refsOf raw i)) sp ∧ Below w.heap.size w wr
set_option maxHeartbeats 2000000 in
set_option maxRecDepth 100000 in
theorem gbRead_any (A : Option Addr) (n c : Nat) (raw : List UInt8) (hn : n = raw.length) (hc : n ≤ c) (hc2 : c ≤ 9223372036854775807) (w : World) (hb : Bytes w A raw) :
    Calls Tryd.prog 37 #[.slice A n c] w (ReadPost (GB.read raw).2 (GB.read raw).1 w) := by
  by_cases h1 : n = 1024
  case neg =>
    have hrd : Hid (GB.read raw = (4, GB.none_)) := Lib.hid (by unfold GB.read; rw [if_pos (by omega)])
    rw [hrd.out]
    clear hn
    have H1 : ((n : Int) != 1024) = true := by rw [bne_iff_ne]; omega
    go_enter Tryd.func37, Tryd.ntmps37
    go_wp2
    refine bodyPost_ret (results_row_tmp (by rfl) _ _ w.heap.size _ _ _ (by rfl) (Blk.new _ _ _) Tryd.underlying91 (by rfl) sizeGB) rfl (ReadPost.none ((Below.refl _ _).alloc (Nat.le_refl _) _))
  subst h1
  obtain ⟨b, off, rfl, hbl, hcell⟩ := hb.at_ (by omega)
  have HN : Hid (raw.length = 1024) := Lib.hid hn.symm
  clear hn hcell
  have hg0 := Blk.new w 91 zeroGB
  have hB0 : Below w.heap.size w (w.alloc (.cells zeroGB 91)) := (Below.refl _ _).alloc (Nat.le_refl _) _
  have hc16 : ¬ c = 16 := by omega
  have hb1 := Bytes.below hb hB0
  go_enter Tryd.func37, Tryd.ntmps37
  go_wp2_with fail
  generalize hw1 : w.alloc (.cells #[.int .i64 0, .int .i64 0, .int .i64 0, .slice none 0 0, .slice none 0 0] 91) = w1
  have hw1' : w.alloc (.cells zeroGB 91) = w1 := hw1
  rw [hw1'] at hg0 hB0 hb1
  clear hw1 hw1'
  obtain ⟨g0, hgn⟩ : ∃ g0, g0 = w.heap.size := ⟨_, rfl⟩
  rw [← hgn] at hg0 ⊢
  have HGN := Lib.hid hgn
  clear hgn
  obtain ⟨T, hT⟩ : ∃ T, T = raw.take 16 := ⟨_, rfl⟩
  obtain ⟨D, hD⟩ : ∃ D, D = raw.drop 16 := ⟨_, rfl⟩
  have hTl : T.length = 16 := by rw [hT, List.length_take, HN.out]; rfl
  have hDl : D.length = 1008 := by rw [hD, List.length_drop, HN.out]
  have hbD : Bytes w1 (some ⟨b, off + 16, none⟩) D := by
    have h := hb1.drop (k := 16) (cap := c) (by omega)
    rw [if_neg hc16, ← hD] at h
    simpa [Addr.add_lit] using h
  have hbT : Bytes w1 (some ⟨b, off, none⟩) T := by rw [hT]; exact hb1.take 16
  have HT := Lib.hid hT
  have HD := Lib.hid hD
  have HTl := Lib.hid hTl
  have HDl := Lib.hid hDl
  clear hT hD hTl hDl
  refine wp_region_plan (Below w1.heap.size w1) [] [(true, 0), (true, 1), (true, 2), (true, 3), (true, 4), (true, 5), (false, 6), (false, 7)] (by kernel_rfl) (by kernel_rfl) (fun c a a' w h q => ⟨h ▸ q.1, q.2⟩) (Below.refl _ _).drew ?_
  refine wpPlan_pure [0, 1, 2, 3, 4] [(true, 5), (false, 6), (false, 7)] _ (by rfl) (by rfl) ?_
  dsimp only [List.filterMap, List.getElem?_cons_zero, List.getElem?_cons_succ]
  repeat (go_big_quiet_step (fail))
  refine wpQuiet_array (by rfl) _ _ (by rfl) 16 _ Tryd.underlying158 (some ⟨b, off, none⟩) 16 c (by rfl) (Nat.le_refl _) ?_
  simp only [Act.put, List.setIfInBounds_toArray, List.set_cons_zero, List.set_cons_succ]
  refine wpQuiet_nil ?_
  refine wpPlan_takeL [5] [(false, 6), (false, 7)] _ (by rfl) (by rfl) (Below.refl _ _).drew ?_
  dsimp only [List.filterMap, List.getElem?_cons_zero, List.getElem?_cons_succ]
  refine wpQuiet_load_mid (fun w' hw' => (Bytes.below hbT hw').range) (by rfl) _ _ (by rfl) (by rfl) _ Tryd.underlying158 (by rfl) size16 (by rw [List.length_map]; exact HTl.out) ?_
  simp only [Act.put, List.setIfInBounds_toArray, List.set_cons_zero, List.set_cons_succ]
  refine wpQuiet_nil ?_
  refine wpPlan_forceL _ rfl ?_
  go_wp2_with fail
  refine (right_seal_any (some ⟨b, off + 16, none⟩) 1008 (c - 16) D T HDl.out.symm (by rw [HDl.out]; omega) ⟨by rw [HDl.out]; omega, by omega⟩ HTl.out w1.drew hbD).mono ?_
  rintro e w2 ⟨rfl, hbx⟩
  have hBx : Below w1.heap.size w1 w2 := (Below.refl _ _).drew.trans hbx
  have hb2 := Bytes.below hb1 hBx
  have hg2 := keep hBx hg0
  have hB2 := hB0.trans (hBx.mono hB0.size)
  clear hbx hbD hbT hb1 hg0 hB0
  go_wp2_with fail
  refine PlanQ.in_ hBx ?_
  refine wpPlan_forceL _ rfl ?_
  by_cases hseal : Sha.sum D = T
  case neg =>
    have hrd : Hid (GB.read raw = (12, GB.none_)) := Lib.hid (by
      unfold GB.read
      rw [if_neg (by rw [HN.out]; simp), if_pos (by rw [← HT.out, ← HD.out]; exact hseal)])
    rw [decide_eq_false hseal]
    go_wp2_with fail
    refine PlanQ.in_ hBx ?_
    refine wpPlan_nil ?_
    clear hseal
    go_wp2_with (first
      | ((with_reducible show wpList _ _ _ ((⟨none, _, _, _, _, _⟩ : Oper) :: _) _ _); refine wpList_store_blk (o := ⟨none, _, _, _, _, _⟩) (hg2) (by rfl) _ _ _ (by rfl) (by rfl) (zeroGB) (by rfl) (sizeGB) (by rfl) (by rfl) (by exact zeroGB_one) ?_; intro w3 h3 hu3)
      | fail)
    refine bodyPost_ret (results_row_tmp (by rfl) _ _ g0 _ _ _ (by rfl) h3 Tryd.underlying91 (by rfl) sizeGB) rfl ?_
    rw [hrd.out]
    exact ReadPost.none (hB2.upd hu3 (by rw [HGN.out]; exact Nat.le_refl _))
  rw [decide_eq_true hseal]
  have HSEAL : Hid (Sha.sum (raw.drop 16) = raw.take 16) := Lib.hid (by rw [← HD.out, ← HT.out]; exact hseal)
  go_wp2_with fail
  refine PlanQ.in_ hBx ?_
  refine wpPlan_nil ?_
  clear hseal hBx
  have num : ∀ (p : Nat) (wx : World), p + 4 ≤ 1024 → Bytes wx (some ⟨b, off, none⟩) raw → Calls Tryd.prog 86 #[.slice (some ⟨b, off, none⟩) 1024 c, .int .i64 p] wx fun e w' => e = .returned (.int .i64 (at4 raw p)) ∧ Below wx.heap.size wx w' := fun p wx hp hbx => by
    have := number_any (some ⟨b, off, none⟩) c p raw (by rw [HN.out]; exact hp) (by rw [HN.out]; omega) wx hbx
    rw [HN.out] at this
    exact this
  have NUM := Lib.hid num
  clear num
  go_wp2_with fail
  refine (NUM.out 16 w2 (by omega) hb2).mono ?_
  rintro e w3 ⟨rfl, hbx⟩
  (replace hb2 := keep hbx hb2; replace hg2 := keep hbx hg2; replace hB2 := hB2.trans (hbx.mono hB2.size); clear hbx)
  go_wp2_with fail
  refine (NUM.out 20 w3 (by omega) hb2).mono ?_
  rintro e w4 ⟨rfl, hbx⟩
  (replace hb2 := keep hbx hb2; replace hg2 := keep hbx hg2; replace hB2 := hB2.trans (hbx.mono hB2.size); clear hbx)
  go_wp2_with fail
  refine (NUM.out 24 w4 (by omega) hb2).mono ?_
  rintro e w5 ⟨rfl, hbx⟩
  (replace hb2 := keep hbx hb2; replace hg2 := keep hbx hg2; replace hB2 := hB2.trans (hbx.mono hB2.size); clear hbx)
  go_wp2_with fail
  have hbx := (Below.refl w5.heap.size w5).alloc (Nat.le_refl _) (.cells #[.int .i64 (at4 raw 16), .int .i64 (at4 raw 20), .int .i64 (at4 raw 24), .slice none 0 0, .slice none 0 0] 91)
  have hgb := Blk.new w5 91 #[.int .i64 (at4 raw 16), .int .i64 (at4 raw 20), .int .i64 (at4 raw 24), .slice none 0 0, .slice none 0 0]
  have hgne : g0 < w5.heap.size := hg2.lt
  generalize w5.alloc (.cells #[.int .i64 (at4 raw 16), .int .i64 (at4 raw 20), .int .i64 (at4 raw 24), .slice none 0 0, .slice none 0 0] 91) = w6 at hbx hgb ⊢
  have hgw : w.heap.size ≤ w5.heap.size := hB2.size
  (replace hb2 := keep hbx hb2; replace hg2 := keep hbx hg2; replace hB2 := hB2.trans (hbx.mono hB2.size); clear hbx)
  generalize w5.heap.size = gb at hgne hgw hgb ⊢
  refine (NUM.out 28 w6 (by omega) hb2).mono ?_
  rintro e w7 ⟨rfl, hbx⟩
  (replace hb2 := keep hbx hb2; replace hg2 := keep hbx hg2; replace hgb := keep hbx hgb; replace hB2 := hB2.trans (hbx.mono hB2.size); clear hbx)
  go_wp2_with fail
  refine (NUM.out 32 w7 (by omega) hb2).mono ?_
  rintro e w8 ⟨rfl, hbx⟩
  (replace hb2 := keep hbx hb2; replace hg2 := keep hbx hg2; replace hgb := keep hbx hgb; replace hB2 := hB2.trans (hbx.mono hB2.size); clear hbx)
  have hm := at4_lt raw 28
  have hz := at4_lt raw 32
  obtain ⟨M, hM⟩ : ∃ M, M = at4 raw 28 := ⟨_, rfl⟩
  obtain ⟨Z, hZ⟩ : ∃ Z, Z = at4 raw 32 := ⟨_, rfl⟩
  rw [← hM] at hm ⊢
  rw [← hZ] at hz ⊢
  have HM := Lib.hid hM
  have HZ := Lib.hid hZ
  clear hM hZ
  by_cases hbig : 16 < M ∨ 860 < Z
  case pos =>
    have hrd : Hid (GB.read raw = (4, GB.none_)) := Lib.hid (by
      unfold GB.read
      rw [if_neg (by rw [HN.out]; simp), if_neg (by rw [HSEAL.out]; simp), ← HM.out, ← HZ.out, if_pos hbig])
    by_cases hM16 : 16 < M
    all_goals
      go_wp2_with (first
        | ((with_reducible show wpList _ _ _ ((⟨none, _, _, _, _, _⟩ : Oper) :: _) _ _); refine wpList_store_blk (o := ⟨none, _, _, _, _, _⟩) (hg2) (by rfl) _ _ _ (by rfl) (by rfl) (zeroGB) (by rfl) (sizeGB) (by rfl) (by rfl) (by exact zeroGB_one) ?_; intro w3 h3 hu3)
        | fail)
      refine bodyPost_ret (results_row_tmp (by rfl) _ _ g0 _ _ _ (by rfl) h3 Tryd.underlying91 (by rfl) sizeGB) rfl ?_
      rw [hrd.out]
      exact ReadPost.none (hB2.upd hu3 (by rw [HGN.out]; exact Nat.le_refl _))
  have hM16 : ¬ 16 < M := fun h => hbig (.inl h)
  have hZ16 : ¬ 860 < Z := fun h => hbig (.inr h)
  clear hbig
  go_wp2_with fail
  go_loopw [41] (fun v wr => ReadRel w g0 gb (at4 raw 16) (at4 raw 20) (at4 raw 24) raw M v wr) (fun v _ => M - (intOf v).toNat)
  case atStart => exact ⟨0, _, [], by omega, rfl, hg2, hgb, OwnsC.nil _ _ _ _, hB2⟩
  case round =>
    clear hg2 hgb hb2 hB2
    obtain ⟨i, v3, sp, hi, rfl, hg2, hgb, hown, hBr⟩ := hrel
    have hbr := Bytes.below hb hBr
    have hgl := hgb.lt
    by_cases hlt : i < M
    · go_wp2_with fail
      refine wp_region_plan (fun w' => Blk w' gb 91 #[.int .i64 (at4 raw 16), .int .i64 (at4 raw 20), .int .i64 (at4 raw 24), v3, .slice none 0 0]) [17]
        [(true, 0), (true, 2), (true, 3), (true, 4), (true, 5), (true, 7), (true, 8), (true, 9), (true, 10), (true, 11), (true, 1), (false, 6), (false, 12), (true, 13), (false, 14), (false, 15), (true, 16), (false, 17)] (by kernel_rfl) (by kernel_rfl) (fun c a a' w h q => ⟨h ▸ q.1, q.2⟩) hgb.drew ?_
      refine wpPlan_pure [0, 2, 3, 4, 5, 7, 8, 9, 10, 11] [(true, 1), (false, 6), (false, 12), (true, 13), (false, 14), (false, 15), (true, 16), (false, 17)] _ (by rfl) (by rfl) ?_
      dsimp only [List.filterMap, List.getElem?_cons_zero, List.getElem?_cons_succ]
      repeat (go_big_quiet_step (fail))
      refine wpQuiet_nil ?_
      refine wpPlan_takeL [1] [(false, 6), (false, 12), (true, 13), (false, 14), (false, 15), (true, 16), (false, 17)] _ (by rfl) (by rfl) hgb.drew ?_
      dsimp only [List.filterMap, List.getElem?_cons_zero, List.getElem?_cons_succ]
      (refine wpQuiet_load_cell (fun w' hw' => Blk.at_ (v := v3) hw' 3 (by simp)) (by rfl) _ _ (by rfl) (by rfl) _ Tryd.underlying28 (by rfl) ?_; simp only [Act.put, List.setIfInBounds_toArray, List.set_cons_zero, List.set_cons_succ])
      refine wpQuiet_nil ?_
      refine wpPlan_forceL _ rfl ?_
      go_wp2_with fail
      rw [show (36 : Int) + 8 * (i : Int) = ((36 + 8 * i : Nat) : Int) by omega]
      refine (NUM.out (36 + 8 * i) wr.drew (by omega) hbr).mono ?_
      rintro e w9 ⟨rfl, hbx⟩
      have hgb9 := keep hbx hgb.drew
      have hg29 := keep hbx hg2.drew
      have hown9 : OwnsC 33 2 w9 (gb + 1) v3 i (refCells (refsOf raw i)) sp := OwnsC.ownBelow (w := wr.drew) hown hbx
      have hB9 := hBr.drew.trans (hbx.mono hBr.size)
      have hb9 := Bytes.below hb hB9
      clear hbx hgb hg2 hown hBr hbr hgl
      go_wp2_with fail
      refine PlanQ.in_ hgb9 ?_
      refine wpPlan_forceL _ rfl ?_
      go_wp2_with fail
      rw [show (36 : Int) + 8 * (i : Int) + 4 = ((36 + 8 * i + 4 : Nat) : Int) by omega]
      refine (NUM.out (36 + 8 * i + 4) w9 (by omega) hb9).mono ?_
      rintro e w10 ⟨rfl, hbx⟩
      (replace hgb9 := keep hbx hgb9; replace hg29 := keep hbx hg29; replace hown9 := keep hbx hown9; replace hB9 := hB9.trans (hbx.mono hB9.size); clear hbx hb9)
      go_wp2_with fail
      refine PlanQ.in_ hgb9 ?_
      refine wpPlan_pure [13] [(false, 14), (false, 15), (true, 16), (false, 17)] _ (by rfl) (by rfl) ?_
      dsimp only [List.filterMap, List.getElem?_cons_zero, List.getElem?_cons_succ]
      repeat (go_big_quiet_step (fail))
      refine wpQuiet_nil ?_
      refine wpPlan_forceL _ rfl ?_
      go_wp2_with fail
      have hbx := (Below.refl w10.heap.size w10).alloc (Nat.le_refl _) (.cells #[.int .i64 (at4 raw (36 + 8 * i)), .int .i64 (at4 raw (36 + 8 * i + 4))] 33)
      have hnew := (Blk.new w10 33 #[.int .i64 (at4 raw (36 + 8 * i)), .int .i64 (at4 raw (36 + 8 * i + 4))])
      generalize w10.alloc (.cells #[.int .i64 (at4 raw (36 + 8 * i)), .int .i64 (at4 raw (36 + 8 * i + 4))] 33) = w11 at hbx hnew ⊢
      (replace hgb9 := keep hbx hgb9; replace hg29 := keep hbx hg29; replace hown9 := keep hbx hown9; replace hB9 := hB9.trans (hbx.mono hB9.size); clear hbx)
      refine PlanQ.in_ hgb9 ?_
      refine wpPlan_forceL _ rfl ?_
      have hrd : Reads w11 (some ⟨w10.heap.size, 0, none⟩) [.int .i64 (at4 raw (36 + 8 * i)), .int .i64 (at4 raw (36 + 8 * i + 4))] := fun _ => ⟨_, 0, rfl, fun j v hv => by
        rw [Nat.zero_add, hnew.cell]; simpa using hv⟩
      have hgl := hgb9.lt
      refine wpList_append_allG (by rfl) _ _ _ (by rfl) (gb + 1) 33 (.agg #[.int .i64 0, .int .i64 0]) 2 16 Tryd.underlying28 infoRef (by rfl) (by omega) v3 i (refCells (refsOf raw i)) sp (by rfl) hown9 (some ⟨w10.heap.size, 0, none⟩) 1 1 _ (by rfl) (by rfl) hrd (by simp [Value.oneCell']) (by unfold maxLen; omega) (by omega) (by omega) ?_
      intro v12 w12 sp12 hown12 hgr12
      obtain ⟨A12, c12, rfl, _, _, _, _⟩ := OwnsC.reads hown12
      have hne12 : v3.ownBlock ≠ some gb := fun e => by have := (OwnsC.lt hown9 gb e).1; omega
      have hne0 : v3.ownBlock ≠ some g0 := fun e => by have := (OwnsC.lt hown9 g0 e).1; omega
      have hgb12 : Blk w12 gb 91 #[.int .i64 (at4 raw 16), .int .i64 (at4 raw 20), .int .i64 (at4 raw 24), v3, .slice none 0 0] := (hgr12.block gb hgl (Ne.symm hne12)).trans hgb9
      have hg012 : Blk w12 g0 91 zeroGB := (hgr12.block g0 hg29.lt (Ne.symm hne0)).trans hg29
      have hB12 : Below w.heap.size w w12 := hB9.grown hgr12 hB9.size (fun k hk => by have := (OwnsC.lt hown9 k hk).1; omega)
      clear hgr12 hown9 hB9 hgb9 hg29 hrd hnew
      refine wpList_nil ?_
      refine PlanQ.in_ hgb12 ?_
      simp only [Act.put, List.setIfInBounds_toArray, List.set_cons_zero, List.set_cons_succ]
      refine wpPlan_pure [16] [(false, 17)] _ (by rfl) (by rfl) ?_
      dsimp only [List.filterMap, List.getElem?_cons_zero, List.getElem?_cons_succ]
      repeat (go_big_quiet_step (fail))
      refine wpQuiet_nil ?_
      refine wpPlan_forceL _ rfl ?_
      have d3 := hgb12.at_ (v := v3) 3 (by simp)
      have f3 := hgb12.frozen 3
      have hgb13 := (hgb12.set_ 3 (.slice A12 (i + 1) c12)).sub (cs' := #[.int .i64 (at4 raw 16), .int .i64 (at4 raw 20), .int .i64 (at4 raw 24), .slice A12 (i + 1) c12, .slice none 0 0]) (by simp)
      have hg013 := hg012.off (c := gb) (by omega) (i := 3) (.slice A12 (i + 1) c12)
      have hown13 := OwnsC.off (c := gb) (i := 3) hown12 (fun e => by have := (OwnsC.lt hown12 gb e).1; omega) (.slice A12 (i + 1) c12)
      have hB13 := hB12.set_ (c := gb) (i := 3) (by omega) (.slice A12 (i + 1) c12)
      have HOWN : Hid (OwnsC 33 2 (w12.setCell ⟨gb, 3, none⟩ (.slice A12 (i + 1) c12)) (gb + 1) (.slice A12 (i + 1) c12) (i + 1) (refCells (refsOf raw (i + 1))) sp12) := Lib.hid (by
        rw [refsOf_succ, refCells_snoc]; exact hown13)
      clear hown12 hown13 hgb12 hg012 hB12
      go_wp2_with fail
      refine PlanQ.out (by rfl) ?_
      refine wpPlan_nil ?_
      clear d3 f3
      go_wp2
      first
        | (go_roundw
           case rel => exact ⟨i + 1, _, sp12, by omega, by go_num, hg013, hgb13, HOWN.out, hB13⟩
           case measure => simp [intOf]; omega)
        | (refine ⟨?_, ?_⟩
           · (repeat apply Exists.intro)
             exact ⟨⟨i + 1, _, sp12, by omega, by go_num, hg013, hgb13, HOWN.out, hB13⟩, rfl⟩
           · simp [intOf]; omega)
    · obtain rfl : i = M := by omega
      obtain ⟨A3, c3, rfl, hc3, hc3m, hr3, _⟩ := OwnsC.reads hown
      clear hr3
      obtain ⟨BD, hBD⟩ : ∃ BD, BD = (raw.drop 164).take Z := ⟨_, rfl⟩
      have hBDl : Hid (BD.length = Z) := Lib.hid (by rw [hBD, List.length_take, List.length_drop, HN.out]; omega)
      have hbBD : Bytes wr (some ⟨b, off + 164, none⟩) BD := by
        have h := hbr.drop (k := 164) (cap := c) (by omega)
        rw [if_neg (by omega)] at h
        have h2 := h.take Z
        rw [← hBD] at h2
        simpa [Addr.add_lit] using h2
      have HBD := Lib.hid hBD
      clear hBD
      go_wp2_with (first
        | (show wpList _ _ _ ((⟨some 66, _, _, _, _, _⟩ : Oper) :: _) _ _; refine wpList_append_bytes (o := ⟨some 66, _, _, _, _, _⟩) (by rfl) _ _ _ (by rfl) (gb + 1) _ Tryd.underlying22 u8info (.slice none 0 0) [] [] (by rfl) (OwnsC.nil _ _ _ _) (some ⟨b, off + 164, none⟩) (c - 164) BD (by rw [hBDl.out]; show Value.slice _ _ _ = _; congr 1 <;> omega) hbBD (by simp; rw [hBDl.out]; omega) (by omega) ?_; intro v4 w4 sp4 ho4 hg4 _ _; have hbx := (Below.refl wr.heap.size wr).grown hg4 (Nat.le_refl _) (fun k hk => by cases hk); obtain ⟨A4, c4, rfl, hc4, hm4, hs4⟩ := OwnB.open_ ho4; (rw [List.nil_append] at ho4 hc4 hs4 ⊢); (replace hown := keep hbx hown; replace hgb := keep hbx hgb; replace hg2 := keep hbx hg2; replace hbr := keep hbx hbr; replace hBr := hBr.trans (hbx.mono hBr.size)); have d4 := hgb.at_ (v := .slice none 0 0) 4 (by simp); have f4 := hgb.frozen 4; clear hbx hg4 hbBD)
        | fail)
      have hown5 := OwnsC.off (c := gb) (i := 4) hown (fun e => by have := (OwnsC.lt hown gb e).1; omega) (.slice A4 BD.length c4)
      have ho5 : OwnB 5 (w4.setCell ⟨gb, 4, none⟩ (.slice A4 BD.length c4)) (gb + 1) (.slice A4 BD.length c4) BD sp4 := OwnsC.off (c := gb) (i := 4) ho4 (fun e => by have := (OwnsC.lt ho4 gb e).1; omega) (.slice A4 BD.length c4)
      have hgb5 := (hgb.set_ 4 (.slice A4 BD.length c4)).sub (cs' := #[.int .i64 (at4 raw 16), .int .i64 (at4 raw 20), .int .i64 (at4 raw 24), .slice A3 i c3, .slice A4 BD.length c4]) (by simp)
      have hg05 := hg2.off (c := gb) (by omega) (i := 4) (.slice A4 BD.length c4)
      have hB5 := hBr.set_ (c := gb) (i := 4) (by omega) (.slice A4 BD.length c4)
      generalize w4.setCell ⟨gb, 4, none⟩ (.slice A4 BD.length c4) = w5 at hown5 ho5 hgb5 hg05 hB5 ⊢
      clear hown ho4 hgb hg2 hBr hbr d4 f4 hs4
      have hbr5 := Bytes.below hb hB5
      obtain ⟨_, _, e3, _, _, hr3, _⟩ := OwnsC.reads hown5
      simp only [Value.slice.injEq] at e3
      obtain ⟨rfl, _, rfl⟩ := e3
      have hA3 : ∀ ad, A3 = some ad → g0 < ad.block := fun ad had => by
        have := (OwnsC.lt hown5 ad.block (by rw [had]; rfl)).1
        omega
      have hrefs : Refs w5 A3 (refsOf raw i) := Refs.of hr3
      have hrl : Hid ((refsOf raw i).length = i) := Lib.hid (refsOf_length raw i)
      obtain ⟨_, _, e4, _, _, hbd5⟩ := OwnB.open_ ho5
      simp only [Value.slice.injEq] at e4
      obtain ⟨rfl, _, rfl⟩ := e4
      have hA4 : ∀ ad, A4 = some ad → g0 < ad.block := fun ad had => by
        have := (OwnsC.lt ho5 ad.block (by rw [had]; rfl)).1
        omega
      clear hr3 hown5 ho5
      have hP : Hid (GB.parse raw = ((at4 raw 16 : Int), ((at4 raw 20 : Int), (at4 raw 24 : Int), ()), refsOf raw i, BD, ())) := Lib.hid (by
        unfold GB.parse
        rw [← HM.out, ← HZ.out, ← HBD.out]; rfl)
      have hread : Hid (GB.read raw = if GB.ok (GB.parse raw) = true ∧ GB.rest (GB.parse raw) = raw.drop 16 then (0, GB.parse raw) else (4, GB.none_)) := Lib.hid (by
        unfold GB.read
        rw [if_neg (by rw [HN.out]; simp), if_neg (by rw [HSEAL.out]; simp), ← HM.out, ← HZ.out, if_neg (by omega)])
      have chk : ∀ wx, Refs wx A3 (refsOf raw i) → Calls Tryd.prog 87 #[.agg #[.int .i64 (at4 raw 16), .int .i64 (at4 raw 20), .int .i64 (at4 raw 24), .slice A3 i c3, .slice A4 BD.length c4]] wx fun e w' => e = .returned (.int .i64 (GB.code (GB.parse raw))) ∧ Below wx.heap.size wx w' := fun wx hx => by
        have := check_any (at4 raw 16) (at4 raw 20) (at4 raw 24) A3 A4 c3 c4 (refsOf raw i) BD (by rw [hrl.out]; omega) (by rw [hBDl.out]; omega) wx hx
        rw [hrl.out, ← hP.out] at this
        exact this
      have CHK := Lib.hid chk
      have lay : GB.ok (GB.parse raw) = true → ∀ wx, Refs wx A3 (refsOf raw i) → Bytes wx A4 BD → Calls Tryd.prog 88 #[.agg #[.int .i64 (at4 raw 16), .int .i64 (at4 raw 20), .int .i64 (at4 raw 24), .slice A3 i c3, .slice A4 BD.length c4]] wx fun e w' => e = .returned (.agg ((GB.bytes (GB.parse raw)).map u8v).toArray) ∧ Below wx.heap.size wx w' := fun hok wx hx hy => by
        have := laid_any (at4 raw 16) (at4 raw 20) (at4 raw 24) A3 A4 c3 c4 (refsOf raw i) BD (by rw [← hP.out]; exact hok) wx hx hy
        rw [hrl.out, ← hP.out] at this
        exact this
      have LAY := Lib.hid lay
      clear chk lay
      refine wp_region_plan (Below w5.heap.size w5) [] [(true, 0), (false, 1), (true, 2), (true, 3), (true, 6), (true, 7), (true, 4), (true, 8), (false, 5), (true, 9), (true, 10)] (by kernel_rfl) (by kernel_rfl) (fun c a a' w h q => ⟨h ▸ q.1, q.2⟩) (Below.refl _ _).drew ?_
      refine wpPlan_takeL [0] [(false, 1), (true, 2), (true, 3), (true, 6), (true, 7), (true, 4), (true, 8), (false, 5), (true, 9), (true, 10)] _ (by rfl) (by rfl) (Below.refl _ _).drew ?_
      dsimp only [List.filterMap, List.getElem?_cons_zero, List.getElem?_cons_succ]
      refine wpQuiet_load_blk (fun w' hw' => hgb5.below hw' hgb5.lt) (by rfl) _ _ (by rfl) (by rfl) _ Tryd.underlying91 (by rfl) sizeGB (by rfl) ?_
      simp only [Act.put, List.setIfInBounds_toArray, List.set_cons_zero, List.set_cons_succ]
      refine wpQuiet_nil ?_
      refine wpPlan_forceL _ rfl ?_
      go_wp2_with fail
      refine (CHK.out w5.drew hrefs).mono ?_
      rintro e w6 ⟨rfl, hbx⟩
      have hC6 : Below w5.heap.size w5 w6 := (Below.refl _ _).drew.trans hbx
      clear hbx
      cases hok : GB.ok (GB.parse raw)
      · have hrd : Hid (GB.read raw = (4, GB.none_)) := Lib.hid (by rw [hread.out, if_neg (by rw [hok]; simp)])
        rw [GB.code_no hok]
        clear hok
        go_wp2_with fail
        refine PlanQ.in_ hC6 ?_
        refine wpPlan_pure [2, 3, 6, 7] [(true, 4), (true, 8), (false, 5), (true, 9), (true, 10)] _ (by rfl) (by rfl) ?_
        dsimp only [List.filterMap, List.getElem?_cons_zero, List.getElem?_cons_succ]
        repeat (go_big_quiet_step (fail))
        refine wpQuiet_nil ?_
        refine wpPlan_takeL [4, 8] [(false, 5), (true, 9), (true, 10)] _ (by rfl) (by rfl) hC6 ?_
        dsimp only [List.filterMap, List.getElem?_cons_zero, List.getElem?_cons_succ]
        repeat (go_big_quiet_step (fail))
        refine wpQuiet_nil ?_
        refine wpPlan_forceL _ rfl ?_
        go_wp2_with fail
        refine PlanQ.in_ hC6 ?_
        refine wpPlan_pure [9, 10] [] _ (by rfl) (by rfl) ?_
        dsimp only [List.filterMap, List.getElem?_cons_zero, List.getElem?_cons_succ]
        repeat (go_big_quiet_step (fail))
        refine wpQuiet_nil ?_
        refine wpPlan_nil ?_
        have hg06 := keep hC6 hg05
        have hB6 := hB5.trans (hC6.mono hB5.size)
        go_wp2_with (first
          | ((with_reducible show wpList _ _ _ ((⟨none, _, _, _, _, _⟩ : Oper) :: _) _ _); refine wpList_store_blk (o := ⟨none, _, _, _, _, _⟩) (hg06) (by rfl) _ _ _ (by rfl) (by rfl) (zeroGB) (by rfl) (sizeGB) (by rfl) (by rfl) (by exact zeroGB_one) ?_; intro w3 h3 hu3)
          | fail)
        refine bodyPost_ret (results_row_tmp (by rfl) _ _ g0 _ _ _ (by rfl) h3 Tryd.underlying91 (by rfl) sizeGB) rfl ?_
        rw [hrd.out]
        exact ReadPost.none (hB6.upd hu3 (by rw [HGN.out]; exact Nat.le_refl _))
      · rw [GB.code_ok hok]
        have HOK := Lib.hid hok
        clear hok
        go_wp2_with fail
        refine PlanQ.in_ hC6 ?_
        refine wpPlan_pure [2, 3, 6, 7] [(true, 4), (true, 8), (false, 5), (true, 9), (true, 10)] _ (by rfl) (by rfl) ?_
        dsimp only [List.filterMap, List.getElem?_cons_zero, List.getElem?_cons_succ]
        repeat (go_big_quiet_step (fail))
        refine wpQuiet_want' (by rfl) ?_
        refine wpQuiet_array (by rfl) _ _ (by rfl) 1024 _ Tryd.underlying161 (some ⟨b, off, none⟩) 1024 c (by rfl) (Nat.le_refl _) ?_
        simp only [Act.put, List.setIfInBounds_toArray, List.set_cons_zero, List.set_cons_succ]
        refine wpQuiet_nil ?_
        refine wpPlan_takeL [4, 8] [(false, 5), (true, 9), (true, 10)] _ (by rfl) (by rfl) hC6 ?_
        dsimp only [List.filterMap, List.getElem?_cons_zero, List.getElem?_cons_succ]
        refine wpQuiet_want' (by rfl) ?_
        refine wpQuiet_load_blk (fun w' hw' => hgb5.below hw' hgb5.lt) (by rfl) _ _ (by rfl) (by rfl) _ Tryd.underlying91 (by rfl) sizeGB (by rfl) ?_
        simp only [Act.put, List.setIfInBounds_toArray, List.set_cons_zero, List.set_cons_succ]
        refine wpQuiet_want' (by rfl) ?_
        refine wpQuiet_load_mid (fun w' hw' => (Bytes.below hbr5 hw').range) (by rfl) _ _ (by rfl) (by rfl) _ Tryd.underlying161 (by rfl) size1024 (by rw [List.length_map]; exact HN.out) ?_
        simp only [Act.put, List.setIfInBounds_toArray, List.set_cons_zero, List.set_cons_succ]
        refine wpQuiet_nil ?_
        refine wpPlan_forceL _ rfl ?_
        have hr6 := keep hC6 hrefs
        have hd6 := keep hC6 hbd5
        go_wp2_with fail
        refine (LAY.out HOK.out w6 hr6 hd6).mono ?_
        rintro e w7 ⟨rfl, hbx⟩
        have hC7 : Below w5.heap.size w5 w7 := hC6.trans (hbx.mono hC6.size)
        clear hbx hC6 hr6 hd6
        go_wp2_with fail
        refine PlanQ.in_ hC7 ?_
        have hPl : (GB.bytes (GB.parse raw)).length = 1024 := by
          obtain ⟨_, _, h3, h4, _⟩ := GB.ok_spec HOK.out
          exact GB.bytes_length _ h3 h4
        refine wpPlan_pure [9, 10] [] _ (by rfl) (by rfl) ?_
        dsimp only [List.filterMap, List.getElem?_cons_zero, List.getElem?_cons_succ]
        refine wpQuiet_want' (by rfl) ?_
        refine wpQuiet_neq_bytesG (by rfl) _ _ _ _ _ (by rfl) 1024 Tryd.underlying161 Tryd.underlying5 size1 nosel1024 (GB.bytes (GB.parse raw)) raw (by rfl) (by rfl) hPl HN.out _ rfl ?_
        simp only [Act.put, List.setIfInBounds_toArray, List.set_cons_zero, List.set_cons_succ]
        repeat (go_big_quiet_step (fail))
        refine wpQuiet_nil ?_
        refine wpPlan_nil ?_
        have hg07 := keep hC7 hg05
        have hgb7 := keep hC7 hgb5
        have hB7 := hB5.trans (hC7.mono hB5.size)
        have hr7 := keep hC7 hrefs
        have hd7 := keep hC7 hbd5
        clear hPl hC7 hg05 hgb5 hB5 hrefs hbd5 hbr5
        by_cases heq : GB.bytes (GB.parse raw) = raw
        · have hrd : Hid (GB.read raw = (0, GB.parse raw)) := Lib.hid (by rw [hread.out, if_pos ⟨HOK.out, (GB.bytes_iff _ _ HSEAL.out).1 heq⟩])
          rw [decide_eq_true heq]
          clear heq
          go_wp2_with (first
            | ((with_reducible show wpList _ _ _ ((⟨some 80, _, _, _, _, _⟩ : Oper) :: _) _ _); refine wpList_load_blk (o := ⟨some 80, _, _, _, _, _⟩) (hgb7) (by rfl) _ _ (by rfl) (by rfl) _ Tryd.underlying91 (by rfl) (sizeGB) (by rfl) ?_)
            | ((with_reducible show wpList _ _ _ ((⟨none, _, _, _, _, _⟩ : Oper) :: _) _ _); refine wpList_store_blk (o := ⟨none, _, _, _, _, _⟩) (hg07) (by rfl) _ _ _ (by rfl) (by rfl) (#[.int .i64 (at4 raw 16), .int .i64 (at4 raw 20), .int .i64 (at4 raw 24), .slice A3 i c3, .slice A4 BD.length c4]) (by rfl) (sizeGB) (by rfl) (by rfl) (by simp [Value.oneCell']) ?_; intro w8 h8 hu8)
            | fail)
          refine bodyPost_ret (results_row_tmp (by rfl) _ _ g0 _ _ _ (by rfl) h8 Tryd.underlying91 (by rfl) sizeGB) rfl ?_
          rw [hrd.out, hP.out]
          refine ⟨A3, c3, A4, c4, ?_, Refs.of (Reads.upd (Refs.reads hr7) hu8 (fun ad e => Nat.ne_of_gt (hA3 ad e))), Reads.upd hd7 hu8 (fun ad e => Nat.ne_of_gt (hA4 ad e)), by rw [hrl.out]; exact hc3, hc4, hm4, hB7.upd hu8 (by rw [HGN.out]; exact Nat.le_refl _), fun ad e => by have := hA3 ad e; rw [HGN.out] at this; exact Nat.le_of_lt this, fun ad e => by have := hA4 ad e; rw [HGN.out] at this; exact Nat.le_of_lt this⟩
          simp only [hrl.out]
          rfl
        · have hrd : Hid (GB.read raw = (4, GB.none_)) := Lib.hid (by rw [hread.out, if_neg (fun h => heq ((GB.bytes_iff _ _ HSEAL.out).2 h.2))])
          rw [decide_eq_false heq]
          clear heq
          go_wp2_with (first
            | ((with_reducible show wpList _ _ _ ((⟨none, _, _, _, _, _⟩ : Oper) :: _) _ _); refine wpList_store_blk (o := ⟨none, _, _, _, _, _⟩) (hg07) (by rfl) _ _ _ (by rfl) (by rfl) (zeroGB) (by rfl) (sizeGB) (by rfl) (by rfl) (by exact zeroGB_one) ?_; intro w8 h8 hu8)
            | fail)
          refine bodyPost_ret (results_row_tmp (by rfl) _ _ g0 _ _ _ (by rfl) h8 Tryd.underlying91 (by rfl) sizeGB) rfl ?_
          rw [hrd.out]
          exact ReadPost.none (hB7.upd hu8 (by rw [HGN.out]; exact Nat.le_refl _))
end Proofs.YtgkljncigbiffaaDoor
end Go

/- Two blocks compared: two lists of refs, two blocks. Condition: the lists can be read. -/
namespace Go
open Go.RowKit
theorem wpQuiet_run {P : Program} {ops : Array Oper} {C : World → Prop} {Q : Act → Prop} {rest : List Oper} {o : Oper} {a : Act} (hgd : o.guard = none) (v : Value) (hr : ∀ w, C w → (execOp a.eval o).run P w = .ok (.value v) w) (h : wpQuiet P ops C Q rest (a.put o.dst v)) : wpQuiet P ops C Q (o :: rest) a := by
  refine wpQuiet_step fun K hK => ?_
  rw [if_pos (by simp [Region.wanted, hgd])]
  refine ⟨v, fun w hw => ?_, hK _ h⟩
  unfold Oper.quietAt
  rw [hr w hw]
  exact ⟨rfl, rfl⟩
namespace Proofs.YtgkljncigbiffaaDoor
open Go.RowKit
theorem noselRef : Tryd.prog.eqGuardType Tryd.prog.depth 33 = false := by kernel_rfl
theorem heldRef : Tryd.prog.stoodInHeld 33 = false := by kernel_rfl
set_option maxRecDepth 100000 in
theorem eqRef (w : World) (a b c d : Int) : (Op.equalIn 10000 33 (.agg #[.int .i64 a, .int .i64 b]) (.agg #[.int .i64 c, .int .i64 d])).run Tryd.prog w = .ok ((a == c) && (b == d)) w := by
  have hu : Tryd.prog.underlying 33 = some (.struct (Tryd.prog.fieldsOf 33)) := by kernel_rfl
  rw [show (10000 : Nat) = 9999 + 1 from rfl, run_equalIn_struct w 9999 33 _ _ hu heldRef]
  have e : Tryd.prog.fieldsOf 33 = (match Tryd.prog.underlying 33 with | some (.struct fs) => fs | _ => #[]) := rfl
  rw [e, Tryd.underlying33]
  have ei := Tryd.underlying3
  simp [Op.eqFields, part, go_sem, ei]
  by_cases h1 : a = c <;> by_cases h2 : b = d <;> simp [h1, h2]
theorem exec_neq_ref {o : Oper} {ac : Act} (w : World) (x y : Operand) (r : TypeId) (ho : o.op = .binOp .neq 33 x y r) (a b c d : Int) (hx : ac.eval x = .agg #[.int .i64 a, .int .i64 b]) (hy : ac.eval y = .agg #[.int .i64 c, .int .i64 d]) :
    (execOp ac.eval o).run Tryd.prog w = .ok (.value (.bool (!((a == c) && (b == d))))) w := by
  unfold execOp
  simp only [ho, hx, hy, Sem.run_bind, run_eqGuard_agg w .neq 33 x y _ _ noselRef, Result.andThen_ok, run_neq_struct, eqRef, Sem.run_pure]
/-- Ahead of each ref that is compared. -/
def SameRel (w : World) (l l' : List RefT) (v : Value) (wr : World) : Prop :=
  ∃ i : Nat, i ≤ l.length ∧ v = .int .i64 (i : Int) ∧ l.take i = l'.take i ∧ Below w.heap.size w wr
set_option maxHeartbeats 1000000 in
theorem sameRefs_any (A B : Option Addr) (n m c d : Nat) (l l' : List RefT) (hn : n = l.length) (hm : m = l'.length) (hl : l.length ≤ 5000) (w : World) (h : Refs w A l) (h' : Refs w B l') :
    Calls Tryd.prog 31 #[.slice A n c, .slice B m d] w fun e w' => e = .returned (.bool (decide (l = l'))) ∧ Below w.heap.size w w' := by
  by_cases hnm : n = m
  case neg =>
    have hne : Hid (decide (l = l') = false) := Lib.hid (decide_eq_false (fun e => hnm (by rw [hn, hm, e])))
    rw [hne.out]
    clear hn hm
    have H1 : ((n : Int) != (m : Int)) = true := by rw [bne_iff_ne]; omega
    go_enter Tryd.func31, Tryd.ntmps31
    go_wp2
    go_ret
    exact ⟨rfl, Below.refl _ _⟩
  subst hnm
  have H1 : ((n : Int) != (n : Int)) = false := by simp
  have HN := Lib.hid hn
  have HM := Lib.hid hm
  have hn5 : n ≤ 5000 := by omega
  clear hn hm hl
  go_enter Tryd.func31, Tryd.ntmps31
  go_wp2
  go_loopw [5] (fun v wr => SameRel w l l' v wr) (fun v _ => n - (intOf v).toNat)
  case atStart => exact ⟨0, by omega, rfl, rfl, Below.refl _ _⟩
  case round =>
    obtain ⟨i, hi, rfl, htk, hBr⟩ := hrel
    rw [← HN.out] at hi
    have HTK := Lib.hid htk
    clear htk H1
    by_cases hlt : i < n
    · have hr1 := Refs.below h hBr
      have hr2 := Refs.below h' hBr
      obtain ⟨b1, o1, rfl, _, hc1⟩ := hr1 (by rw [← HN.out]; omega)
      obtain ⟨b2, o2, rfl, _, hc2⟩ := hr2 (by rw [← HM.out]; omega)
      have hil : i < l.length := by rw [← HN.out]; exact hlt
      have him : i < l'.length := by rw [← HM.out]; exact hlt
      obtain ⟨d1, d2⟩ := hc1 i hil
      obtain ⟨d3, d4⟩ := hc2 i him
      have hx1 := Lib.hid (show l[i] = (l[i].1, l[i].2.1, ()) from rfl)
      have hx2 := Lib.hid (show l'[i] = (l'[i].1, l'[i].2.1, ()) from rfl)
      generalize hy1 : l[i].1 = x1 at d1 hx1
      generalize hy2 : l[i].2.1 = x2 at d2 hx1
      generalize hy3 : l'[i].1 = x3 at d3 hx2
      generalize hy4 : l'[i].2.1 = x4 at d4 hx2
      clear hy1 hy2 hy3 hy4 hc1 hc2 hr1 hr2
      go_wp2_with fail
      refine wp_region_quiet_lit (by kernel_rfl) (by kernel_rfl) ?_
      repeat (go_big_quiet_step (fail))
      refine wpQuiet_run (by rfl) _ (fun w' _ => exec_neq_ref w' _ _ _ (by rfl) x1 x2 x3 x4 (by rfl) (by rfl)) ?_
      simp only [Act.put, List.setIfInBounds_toArray, List.set_cons_zero, List.set_cons_succ]
      refine wpQuiet_nil ?_
      rintro _ ⟨nq, rfl⟩
      have hBd : Below w.heap.size w (wr.drewN nq) := below_drewN hBr nq
      cases hq : ((x1 == x3) && (x2 == x4))
      · have hne : Hid (decide (l = l') = false) := Lib.hid (decide_eq_false (fun e => by
          subst e
          have := hx1.out.symm.trans hx2.out
          simp only [Prod.mk.injEq, and_true] at this
          rw [this.1, this.2] at hq
          simp at hq))
        clear hq
        go_wp2
        go_ret
        exact ⟨by rw [hne.out]; rfl, hBd⟩
      · have hst : Hid (l.take (i + 1) = l'.take (i + 1)) := Lib.hid (by
          simp only [Bool.and_eq_true, beq_iff_eq] at hq
          rw [List.take_succ_eq_append_getElem hil, List.take_succ_eq_append_getElem him, HTK.out, hx1.out, hx2.out, hq.1, hq.2])
        clear hq
        go_wp2
        go_roundw
        case rel => exact ⟨i + 1, by omega, by go_num, hst.out, hBd⟩
        case measure => simp [intOf]; omega
    · obtain rfl : i = n := by omega
      have heq : Hid (decide (l = l') = true) := Lib.hid (decide_eq_true (by
        have := HTK.out
        rwa [HN.out, List.take_length, ← HN.out, HM.out, List.take_length] at this))
      go_wp2
      go_ret
      exact ⟨by rw [heq.out]; rfl, hBr⟩
/-- A block as a value: its lists can be read. -/
structure GBIs (w : World) (b : GBT) (A : Option Addr) (c : Nat) (B : Option Addr) (d : Nat) : Prop where
  refs : Refs w A b.2.2.1
  body : Bytes w B b.2.2.2.1
  rl : b.2.2.1.length ≤ 5000
  bl : b.2.2.2.1.length ≤ 140737488351300
theorem GBIs.below {w w' : World} {b : GBT} {A B : Option Addr} {c d : Nat} (h : GBIs w b A c B d) (hb : Below w.heap.size w w') : GBIs w' b A c B d := ⟨h.refs.below hb, Bytes.below h.body hb, h.rl, h.bl⟩
instance {w w' : World} {b : GBT} {A B : Option Addr} {c d : Nat} : KeepsTo w w' (GBIs w b A c B d) (GBIs w' b A c B d) := ⟨fun hb h => h.below hb⟩
end Proofs.YtgkljncigbiffaaDoor
end Go

/- Refs as keys of a map; those that are wanted. Plain facts of this program. No condition. -/
namespace Go.Proofs.YtgkljncigbiffaaDoor
open Go.RowKit
def encRef (r : RefT) : Value := .agg #[.int .i64 r.1, .int .i64 r.2.1]
theorem refWide : (match Tryd.prog.underlying 33 with | some (.array _ _) | some (.struct _) => true | _ => false) = true := by kernel_rfl
theorem intKey (em : Bool) (n : Nat) (x : Int) (w : World) : (Instr.checkKey em (n + 1) 3 (.int .i64 x)).run Tryd.prog w = .ok () w := by
  rw [Instr.checkKey]
  simp only [Sem.run_bind, run_underlying Tryd.underlying3, Result.andThen_ok, Sem.run_pure]
set_option maxRecDepth 100000 in
theorem refCheck (em : Bool) (a b : Int) (w : World) : (Instr.checkKey em 10000 33 (.agg #[.int .i64 a, .int .i64 b])).run Tryd.prog w = .ok () w := by
  have hu := Tryd.underlying33
  have k := fun x => intKey em 9998 x w
  rw [show (10000 : Nat) = 9999 + 1 from rfl, Instr.checkKey]
  simp only [Sem.run_bind, run_underlying hu, Result.andThen_ok]
  simp [part, go_sem, k]
set_option maxRecDepth 100000 in
theorem refKey : KeyLaw Tryd.prog 33 (fun _ : RefT => True) encRef := by
  refine ⟨refWide, fun em x w _ => refCheck em x.1 x.2.1 w, fun x y w _ _ => ⟨_, eqRef w x.1 x.2.1 y.1 y.2.1, ?_⟩, fun x _ => ?_⟩
  · rw [Bool.and_eq_true, beq_iff_eq, beq_iff_eq]
    exact ⟨fun h => Prod.ext h.1 (Prod.ext h.2 rfl), fun h => by rw [h]; exact ⟨rfl, rfl⟩⟩
  · simp [encRef, Instr.sameBits]
/-- The map of those that are wanted. -/
def wantM (W : List RefT) : List (RefT × Value) := W.map fun r => (r, .bool true)
theorem wantM_get (W : List RefT) (r : RefT) : (kget (wantM W) r).getD (.bool false) = .bool (decide (r ∈ W)) := by
  induction W with
  | nil => rfl
  | cons x W ih =>
    unfold wantM at ih ⊢
    rw [List.map_cons, kget_cons]
    by_cases h : r = x
    · rw [if_pos h]; simp [h]
    · rw [if_neg h, ih]; simp [h]
theorem wantM_put (W : List RefT) (r : RefT) (h : r ∉ W) : kput (wantM W) r (.bool true) = wantM (W ++ [r]) := by
  induction W with
  | nil => rfl
  | cons x W ih =>
    unfold wantM at ih ⊢
    rw [List.map_cons, kput_cons, if_neg (fun e => h (by rw [e]; exact List.mem_cons_self)), ih (fun hx => h (List.mem_cons_of_mem _ hx))]
    rfl
end Go.Proofs.YtgkljncigbiffaaDoor

/- A store of a whole struct or array into the middle of an own block. Plain facts over any program. Condition: the block is long enough. -/
namespace Go
open Go.RowKit
def setAll (cs : Array Value) : Nat → List Value → Array Value
  | _, [] => cs
  | o, v :: r => setAll (cs.setIfInBounds o v) (o + 1) r
theorem Blk.setCells {g : Nat} {t : TypeId} : ∀ (vs : List Value) (o : Nat) (w : World) (cs : Array Value), Blk w g t cs → Blk (w.setCells g o vs) g t (setAll cs o vs)
  | [], _, _, _, h => h
  | v :: r, o, _, _, h => Blk.setCells r (o + 1) _ _ (h.set_ o v)
theorem Upd.setCells {g : Nat} {w0 : World} : ∀ (vs : List Value) (o : Nat) (w : World), Upd g w0 w → Upd g w0 (w.setCells g o vs)
  | [], _, _, h => h
  | v :: r, o, _, h => Upd.setCells r (o + 1) _ (h.set o v)
theorem wpList_store_in {P : Program} {w : World} {Q : Exit → Act → World → Prop} {ops : Array Oper} {rest : List Oper} {o : Oper} {a : Act} {g : Nat} {t : TypeId} {cs : Array Value} (hb : Blk w g t cs) (hgd : o.guard = none) (ty : TypeId) (x y : Operand) (ho : o.op = .store ty x y)
    (k : Nat) (hx : a.eval x = .pointer (some ⟨g, k, none⟩)) (vs : Array Value) (hy : a.eval y = .agg vs) {n : Nat} (hi : (P.info? ty).map (·.size) = some n) (hs : vs.size = n) (hk : k + n ≤ cs.size) (h1 : vs.all (·.oneCell') = true)
    (h : ∀ w', Blk w' g t (setAll cs k vs.toList) → Upd g w w' → wpList P ops Q rest (a.put o.dst undef) w') : wpList P ops Q (o :: rest) a w :=
  wpList_store_mid hgd ty x y ho g k vs hx hy (fun j hj => ⟨by rw [hb.cell, Array.getElem?_eq_getElem (by omega)]; rfl, hb.frozen _⟩) (by rw [hs]; exact hi) h1
    (h _ (Blk.setCells vs.toList k w cs hb) (Upd.setCells vs.toList k w (Upd.refl g w)))
end Go

/- A disk's bytes as one list, sector behind sector; bytes written over a part of them. Plain facts. No condition. -/
namespace Go
/-- The bytes b, written from the place p on. -/
def wr (L : List UInt8) (p : Nat) (b : List UInt8) : List UInt8 := L.take p ++ (b ++ L.drop (p + b.length))
theorem wr_length {L b : List UInt8} {p : Nat} (h : p + b.length ≤ L.length) : (wr L p b).length = L.length := by
  unfold wr; rw [List.length_append, List.length_append, List.length_take, List.length_drop]; omega
theorem wr_nil (L : List UInt8) (p : Nat) : wr L p [] = L := by unfold wr; rw [List.nil_append, List.length_nil, Nat.add_zero, List.take_append_drop]
theorem wr_drop {L b : List UInt8} {p : Nat} (h : p ≤ L.length) (k : Nat) : (wr L p b).drop (p + b.length + k) = L.drop (p + b.length + k) := by
  have hl : (L.take p ++ b).length = p + b.length := by rw [List.length_append, List.length_take]; omega
  unfold wr
  rw [← List.append_assoc, ← List.drop_drop, List.drop_left' hl, List.drop_drop]
theorem wr_mid {L b : List UInt8} {p : Nat} (h : p ≤ L.length) : ((wr L p b).drop p).take b.length = b := by
  have hl : (L.take p).length = p := by rw [List.length_take]; omega
  unfold wr
  rw [show (L.take p ++ (b ++ L.drop (p + b.length))).drop p = b ++ L.drop (p + b.length) by
    have e := List.drop_left (l₁ := L.take p) (l₂ := b ++ L.drop (p + b.length)); rw [hl] at e; exact e, List.take_left]
theorem wr_wr {L a b : List UInt8} {p : Nat} (h : p + a.length + b.length ≤ L.length) : wr (wr L p a) (p + a.length) b = wr L p (a ++ b) := by
  have hp : p ≤ L.length := by omega
  have hl : (L.take p).length = p := by rw [List.length_take]; omega
  have h1 : (wr L p a).take (p + a.length) = L.take p ++ a := by
    unfold wr
    rw [← List.append_assoc, List.take_append_of_le_length (by rw [List.length_append]; omega), List.take_of_length_le (by rw [List.length_append]; omega)]
  have h2 : (wr L p a).drop (p + a.length + b.length) = L.drop (p + a.length + b.length) := wr_drop hp b.length
  show (wr L p a).take (p + a.length) ++ (b ++ (wr L p a).drop (p + a.length + b.length)) = L.take p ++ ((a ++ b) ++ L.drop (p + (a ++ b).length))
  rw [h1, h2, List.length_append, List.append_assoc, List.append_assoc, Nat.add_assoc]
theorem wr_set {L : List UInt8} {p : Nat} {x : UInt8} {r : List UInt8} (h : p < L.length) : wr (L.set p x) (p + 1) r = wr L p (x :: r) := by
  have hl : (L.take p ++ [x]).length = p + 1 := by rw [List.length_append, List.length_take]; simp; omega
  have e : L.set p x = (L.take p ++ [x]) ++ L.drop (p + 1) := by rw [List.set_eq_take_append_cons_drop, if_pos h]; simp
  unfold wr
  rw [e, List.take_left' hl, ← List.drop_drop, List.drop_left' hl, List.drop_drop, List.length_cons, List.append_assoc, show p + 1 + r.length = p + (r.length + 1) by omega]
  rfl
theorem setAll_wr : ∀ (b L : List UInt8) (p : Nat), p + b.length ≤ L.length → setAll (L.map u8v).toArray p (b.map u8v) = ((wr L p b).map u8v).toArray
  | [], L, p, _ => by rw [wr_nil]; rfl
  | x :: r, L, p, h => by
    rw [List.length_cons] at h
    rw [List.map_cons]
    show setAll ((L.map u8v).toArray.setIfInBounds p (u8v x)) (p + 1) (r.map u8v) = _
    have e : (L.map u8v).toArray.setIfInBounds p (u8v x) = ((L.set p x).map u8v).toArray := by simp [List.map_set]
    rw [e, setAll_wr r (L.set p x) (p + 1) (by rw [List.length_set]; omega), wr_set (by omega)]
end Go

/- make of a list of sectors of noughts, and of a map. Plain facts over any program. Conditions: as many as the memory holds. -/
namespace Go
open Go.RowKit
theorem madeCells_noughts (Z : Array Value) (hz : ∀ i, i < Z.size → Z[i]? = some (.int .u8 0)) (h0 : 0 < Z.size) (m : Nat) : madeCells Z m = ((List.replicate m (0 : UInt8)).map u8v).toArray := by
  unfold madeCells
  apply Array.ext_getElem?
  intro j
  by_cases hj : j < m
  · have h1 := hz (j % Z.size) (Nat.mod_lt _ h0)
    have h2 : Z[j % Z.size]! = .int .u8 0 := by rw [getElem!_def, h1]
    simp only [Array.getElem?_map, Array.getElem?_range, hj, if_true, Option.map_some, h2, List.getElem?_toArray, List.getElem?_map, List.getElem?_replicate]
    rfl
  · simp [hj]
theorem wpList_make_rows {P : Program} (w : World) {ops : Array Oper} {rest : List Oper} {o : Oper} {a : Act} {Q : Exit → Act → World → Prop}
    (hg : o.guard = none) (l c : Operand) (t : TypeId) (hop : o.op = Op.makeSlice t l c) (e : TypeId) (h1 : P.underlying t = some (.slice e)) (Z : Array Value) (s : Nat) (h2 : (P.info? e).map (fun i => (i.zero, i.size, i.bytes)) = some (some (.agg Z), s, s))
    (hZs : Z.size = s) (h0 : 0 < s) (hz : ∀ i, i < Z.size → Z[i]? = some (.int .u8 0)) (kl kc : IntKind) (n : Nat) (hl : a.eval l = .int kl (n : Int)) (hc : a.eval c = .int kc (n : Int)) (hm : s * n ≤ 140737488400000)
    (hK : ∀ w', Blk w' w.heap.size e ((List.replicate (n * s) (0 : UInt8)).map u8v).toArray → Below w.heap.size w w' → w'.heap.size = w.heap.size + 1 → wpList P ops Q rest (a.put o.dst (.slice (some ⟨w.heap.size, 0, none⟩) n n)) w') :
    wpList P ops Q (o :: rest) a w := by
  obtain ⟨i, hi, hzz⟩ := Option.map_eq_some_iff.1 h2
  simp only [Prod.mk.injEq] at hzz
  obtain ⟨hz1, hs, hb⟩ := hzz
  have hns : n ≤ s * n := Nat.le_mul_of_pos_left n h0
  have hr := run_make (P := P) w t e i _ h1 hi hz1 kl kc n n (by omega) (by omega) (by rw [hb, ← Int.natCast_mul]; omega) (by omega)
  rw [Int.toNat_natCast, hs, show (Value.agg Z).cells = Z from rfl, madeCells_noughts Z hz (by omega)] at hr
  refine wpList_plain hg fun K hK' => ?_
  unfold Oper.wp
  simp only [execOp, hop, hl, hc, hr, Sem.run_bind, Result.andThen_ok, Sem.run_pure]
  exact hK' _ _ (hK _ (Blk.new w e _) ((Below.refl _ _).alloc (Nat.le_refl _) _) (by simp))
theorem wpList_make_map {P : Program} (w : World) {ops : Array Oper} {rest : List Oper} {o : Oper} {a : Act} {Q : Exit → Act → World → Prop} (hg : o.guard = none) (t : TypeId) (hop : o.op = Op.makeMap t none)
    (h : ∀ w', MapB w' w.heap.size #[] 0 → Below w.heap.size w w' → w'.heap.size = w.heap.size + 1 → wpList P ops Q rest (a.put o.dst (.map (some w.heap.size))) w') : wpList P ops Q (o :: rest) a w := by
  have hr : (Instr.makeMap t none).run P w = .ok (.map (some w.heap.size)) (w.alloc (.map #[] 0)) := by
    simp [Instr.makeMap, newObj, Sem.run, Result.andThen]
  refine wpList_plain hg fun K hK => ?_
  unfold Oper.wp
  simp only [execOp, hop, Option.map_none, hr, Sem.run_bind, Result.andThen_ok, Sem.run_pure]
  exact hK _ _ (h _ (MapB.new w _ _) ((Below.refl _ _).alloc (Nat.le_refl _) _) (by simp))
end Go

/- A disk as the program keeps it; is it none, is it out, is it ready, how many sectors has it, is it up. Conditions: the disk is one that was made, or none. -/
namespace Go.Proofs.YtgkljncigbiffaaDoor
open Go.RowKit
/-- A disk's own block: its sectors' bytes in gl, its loose sectors in gm, is it out, its fuse, its changes. -/
def dkc (gl gm N : Nat) (out : Bool) (fz : Option Nat) (ops : Int) : Array Value := #[.slice (some ⟨gl, 0, none⟩) N N, .map (some gm), .bool out, .pointer (fz.map fun g => ⟨g, 0, none⟩), .int .i64 ops]
def DiskB (w : World) (gd gl gm N : Nat) (L : List UInt8) (es : Array MapEntry) (c : Nat) (out : Bool) (fz : Option Nat) (ops : Int) : Prop :=
  Blk w gd 105 (dkc gl gm N out fz ops) ∧ Blk w gl 145 (L.map u8v).toArray ∧ MapB w gm es c
def FuseB (w : World) (gf : Nat) (left : Int) (gone : Bool) : Prop := Blk w gf 211 #[.int .i64 left, .bool gone]
def noDisk : Array Value := #[.slice none 0 0, .map none, .bool false, .pointer none, .int .i64 0]
theorem DiskB.below {w w' : World} {gd gl gm N : Nat} {L : List UInt8} {es : Array MapEntry} {c : Nat} {out : Bool} {fz : Option Nat} {ops : Int} (h : DiskB w gd gl gm N L es c out fz ops) (hb : Below w.heap.size w w') : DiskB w' gd gl gm N L es c out fz ops :=
  ⟨h.1.below hb h.1.lt, h.2.1.below hb h.2.1.lt, h.2.2.below hb h.2.2.lt⟩
instance {w w' : World} {gd gl gm N : Nat} {L : List UInt8} {es : Array MapEntry} {c : Nat} {out : Bool} {fz : Option Nat} {ops : Int} : KeepsTo w w' (DiskB w gd gl gm N L es c out fz ops) (DiskB w' gd gl gm N L es c out fz ops) := ⟨fun hb h => h.below hb⟩
theorem FuseB.below {w w' : World} {gf : Nat} {left : Int} {gone : Bool} (h : FuseB w gf left gone) (hb : Below w.heap.size w w') : FuseB w' gf left gone := Blk.below (h : Blk w gf 211 _) hb h.lt
instance {w w' : World} {gf : Nat} {left : Int} {gone : Bool} : KeepsTo w w' (FuseB w gf left gone) (FuseB w' gf left gone) := ⟨fun hb h => h.below hb⟩
theorem eqlSome (g N : Nat) (w : World) : (binOp .eql 101 (.slice (some ⟨g, 0, none⟩) N N) (.slice none 0 0)).run Tryd.prog w = .ok (.bool false) w := by kernel_rfl
section
variable {gd gl gm N c : Nat} {L : List UInt8} {es : Array MapEntry} {out : Bool} {fz : Option Nat} {ops : Int}
set_option maxRecDepth 100000 in
theorem none_made (w : World) (h : DiskB w gd gl gm N L es c out fz ops) : Calls Tryd.prog 75 #[.pointer (some ⟨gd, 0, none⟩)] w fun e w' => e = .returned (.bool false) ∧ w' = w := by
  have d0 := h.1.at_ 0 (v := .slice (some ⟨gl, 0, none⟩) N N) rfl
  have he := eqlSome gl N
  clear h
  go_enter Tryd.func75, Tryd.ntmps75
  go_wp2
  go_ret
  exact ⟨rfl, rfl⟩
set_option maxRecDepth 100000 in
theorem isOut_none (w : World) (h : DiskB w gd gl gm N L es c out none ops) : Calls Tryd.prog 123 #[.pointer (some ⟨gd, 0, none⟩)] w fun e w' => e = .returned (.bool out) ∧ w' = w := by
  have d2 := h.1.at_ 2 (v := .bool out) rfl
  have d3 := h.1.at_ 3 (v := .pointer none) rfl
  clear h
  cases out
  all_goals
    go_enter Tryd.func123, Tryd.ntmps123
    go_wp2
    go_ret
    exact ⟨rfl, rfl⟩
set_option maxRecDepth 100000 in
theorem isOut_some (gf : Nat) (left : Int) (gone : Bool) (w : World) (h : DiskB w gd gl gm N L es c out (some gf) ops) (hf : FuseB w gf left gone) : Calls Tryd.prog 123 #[.pointer (some ⟨gd, 0, none⟩)] w fun e w' => e = .returned (.bool (out || gone)) ∧ w' = w := by
  have d2 := h.1.at_ 2 (v := .bool out) rfl
  have d3 := h.1.at_ 3 (v := .pointer (some ⟨gf, 0, none⟩)) rfl
  have d1 := Blk.at_ (hf : Blk w gf _ _) 1 (v := .bool gone) rfl
  clear h hf
  cases out
  all_goals
    go_enter Tryd.func123, Tryd.ntmps123
    go_wp2
    go_ret
    exact ⟨rfl, rfl⟩
end
end Go.Proofs.YtgkljncigbiffaaDoor

/- A disk is made; is it ready, how many sectors has it, is it up. Conditions: the disk is one that was made, or none. -/
namespace Go.Proofs.YtgkljncigbiffaaDoor
open Go.RowKit
def zeroSec : Array Value := arr 256 fun _ => .int .u8 0
theorem infoSec : (Tryd.prog.info? 145).map (fun i => (i.zero, i.size, i.bytes)) = some (some (.agg zeroSec), 256, 256) := by kernel_rfl
theorem zeroSec_size : zeroSec.size = 256 := arr_size _ _
theorem zeroSec_at (i : Nat) (h : i < zeroSec.size) : zeroSec[i]? = some (.int .u8 0) := arr_at _ (by rw [zeroSec_size] at h; exact h)
set_option maxHeartbeats 1000000 in
theorem new_any (N : Nat) (h : 1 ≤ N ∧ N ≤ 65536) (w : World) : Calls Tryd.prog 17 #[.int .i64 (N : Int)] w fun e w' => ∃ gd gl gm, e = .returned (.tuple #[.pointer (some ⟨gd, 0, none⟩), .int .i64 0]) ∧
      DiskB w' gd gl gm N (List.replicate (N * 256) 0) #[] 0 false none 0 ∧ (w.heap.size ≤ gd ∧ w.heap.size ≤ gl ∧ w.heap.size ≤ gm ∧ gd ≠ gl ∧ gd ≠ gm ∧ gl ≠ gm) ∧ Below w.heap.size w w' := by
  have h1 : decide ((N : Int) < 1) = false := by rw [decide_eq_false_iff_not]; omega
  have h2 : decide ((N : Int) > 65536) = false := by rw [decide_eq_false_iff_not]; omega
  have HN := Lib.hid h
  clear h
  go_enter Tryd.func17, Tryd.ntmps17
  go_wp2_with (first
    | ((with_reducible show wpList _ _ _ ((⟨some 11, _, _, _, _, _⟩ : Oper) :: _) _ _); refine wpList_make_rows (o := ⟨some 11, _, _, _, _, _⟩) _ (by rfl) _ _ _ (by rfl) _ Tryd.underlying101 zeroSec 256 infoSec zeroSec_size (by omega) zeroSec_at .i64 .i64 N (by rfl) (by rfl) (by have := HN.out; omega) ?_; intro w1 hl1 hb1 hs1; clear hs1)
    | ((with_reducible show wpList _ _ _ ((⟨some 12, _, _, _, _, _⟩ : Oper) :: _) _ _); refine wpList_make_map (o := ⟨some 12, _, _, _, _, _⟩) _ (by rfl) _ (by rfl) ?_; intro w2 hm2 hb2 hs2; clear hs2)
    | fail)
  have hl2 := hl1.below hb2 hl1.lt
  have hgd := Blk.new w2 105 (dkc w.heap.size w1.heap.size N false none 0)
  have hbx := (Below.refl w2.heap.size w2).alloc (Nat.le_refl _) (.cells (dkc w.heap.size w1.heap.size N false none 0) 105)
  have hl3 := hl2.below hbx hl2.lt
  have hm3 := hm2.below hbx hm2.lt
  have hB := (hb1.trans (hb2.mono hb1.size)).trans (hbx.mono (by have := hb1.size; have := hb2.size; omega))
  go_ret2
  exact ⟨w2.heap.size, w.heap.size, w1.heap.size, rfl, ⟨hgd, hl3, hm3⟩, by have := hl1.lt; have := hm2.lt; omega, hB⟩
section
variable {gd gl gm N c : Nat} {L : List UInt8} {es : Array MapEntry} {out : Bool} {fz : Option Nat} {ops : Int}
theorem ready_made (w : World) (q : Bool) (hq : ∀ w', w' = w → Calls Tryd.prog 123 #[.pointer (some ⟨gd, 0, none⟩)] w' fun e w'' => e = .returned (.bool q) ∧ w'' = w') (h : DiskB w gd gl gm N L es c out fz ops) :
    Calls Tryd.prog 84 #[.pointer (some ⟨gd, 0, none⟩)] w fun e w' => e = .returned (.int .i64 (if q = true then 11 else 0)) ∧ w' = w := by
  go_enter Tryd.func84, Tryd.ntmps84
  go_wp2_with fail
  refine (none_made w h).mono ?_
  rintro e w1 ⟨rfl, rfl⟩
  clear h
  go_wp2_with fail
  refine (hq _ rfl).mono ?_
  rintro e w2 ⟨rfl, rfl⟩
  clear hq
  cases q
  all_goals
    go_wp2
    go_ret
    exact ⟨rfl, rfl⟩
set_option maxRecDepth 100000 in
theorem sectors_made (w : World) (h : DiskB w gd gl gm N L es c out fz ops) : Calls Tryd.prog 114 #[.pointer (some ⟨gd, 0, none⟩)] w fun e w' => e = .returned (.int .i64 (N : Int)) ∧ w' = w := by
  have d0 := h.1.at_ 0 (v := .slice (some ⟨gl, 0, none⟩) N N) rfl
  go_enter Tryd.func114, Tryd.ntmps114
  go_wp2_with fail
  refine (none_made w h).mono ?_
  rintro e w1 ⟨rfl, rfl⟩
  clear h
  go_wp2
  go_ret
  exact ⟨rfl, rfl⟩
theorem up_made (w : World) (q : Bool) (hq : ∀ w', w' = w → Calls Tryd.prog 123 #[.pointer (some ⟨gd, 0, none⟩)] w' fun e w'' => e = .returned (.bool q) ∧ w'' = w') (h : DiskB w gd gl gm N L es c out fz ops) :
    Calls Tryd.prog 115 #[.pointer (some ⟨gd, 0, none⟩)] w fun e w' => e = .returned (.bool (!q)) ∧ w' = w := by
  go_enter Tryd.func115, Tryd.ntmps115
  go_wp2_with fail
  refine (none_made w h).mono ?_
  rintro e w1 ⟨rfl, rfl⟩
  clear h
  go_wp2_with fail
  refine (hq _ rfl).mono ?_
  rintro e w2 ⟨rfl, rfl⟩
  clear hq
  go_wp2
  go_ret
  exact ⟨rfl, rfl⟩
end
end Go.Proofs.YtgkljncigbiffaaDoor

/- A change of a disk that is up, without a fuse: what is to be done is done, and counted. Conditions: the changes are fewer than 10^9; what is to be done keeps to its contract. -/
namespace Go.Proofs.YtgkljncigbiffaaDoor
open Go.RowKit
section
variable {gd gl gm N c : Nat} {L : List UInt8} {es : Array MapEntry} {out : Bool} {fz : Option Nat} {ops : Int}
theorem DiskB.ops_ {w : World} (h : DiskB w gd gl gm N L es c out fz ops) (hne : gd ≠ gl ∧ gd ≠ gm) (x : Int) : DiskB (w.setCell ⟨gd, 4, none⟩ (.int .i64 x)) gd gl gm N L es c out fz x :=
  ⟨(h.1.set_ 4 (.int .i64 x)).sub rfl, h.2.1.off (fun e => hne.1 e.symm) _, h.2.2.upd ((Upd.refl gd w).set 4 _) (fun e => hne.2 e.symm)⟩
end
end Go.Proofs.YtgkljncigbiffaaDoor
