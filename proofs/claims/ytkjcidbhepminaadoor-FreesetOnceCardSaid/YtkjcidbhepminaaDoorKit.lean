/- What the functions do that the statements share: bytes compared, copied, lent, kept. Plain facts. No condition. -/
import Derived.Test.YtkjcidbhepminaaDoorU8
import Derived.Test.YtkjcidbhepminaaDoorTail
import Derived.Laws.BytesArg
import Derived.Laws.CopyOwn
import Derived.BigQuiet
import Derived.Lib.SlBytesConst
namespace Go
open Go.RowKit
/-- The string that bytes are. -/
def str (l : List UInt8) : ByteArray := ⟨l.toArray⟩
theorem str_inj {l l' : List UInt8} (h : str l = str l') : l = l' := by
  unfold str at h
  injection h with h
  simpa using h
theorem str_eq (l l' : List UInt8) : (str l = str l') = (l = l') := propext ⟨str_inj, fun h => by rw [h]⟩
theorem str_beq (l l' : List UInt8) : ((str l).toList == (str l').toList) = decide (l = l') := by
  rw [ByteArray.toList_eq, ByteArray.toList_eq]
  by_cases h : l = l'
  · subst h; simp
  · rw [decide_eq_false h]; simpa [str] using h
theorem strOfNums_iu8 (l : List UInt8) : strOfNums (l.map iu8) = str l := by
  unfold strOfNums str
  rw [List.map_map]
  congr 2
  refine (List.map_congr_left fun b _ => ?_).trans (List.map_id l)
  simp [iu8]
theorem run_convert_str {P : Program} {w : World} {A : Option Addr} {l : List UInt8} (src dst e : TypeId) (hs : P.underlying src = some (.slice e)) (he : P.underlying e = some (.int .u8)) (hd : P.underlying dst = some .string)
    (n c : Nat) (hn : n = l.length) (h : Bytes w A l) : (convert src dst (.slice A n c)).run P w = .ok (.string (str l)) w := by
  subst hn
  cases hl : l with
  | nil =>
    cases A with
    | none => exact run_convert_bytes_nil w src e hs he _ _ dst hd
    | some a =>
      rw [run_convert_bytes_string w src dst e _ _ c hs he hd]
      have := run_bytesToString (P := P) w a 0 c [] (by rfl)
      exact this
  | cons x t =>
    have hp : 0 < l.length := by rw [hl]; simp
    obtain ⟨b, off, rfl, _, hc⟩ := h.at_ hp
    rw [← hl]
    have := run_convert_bytes_arg (P := P) w src e hs he b off l.length c (l.map iu8) (by simp) (fun i hi => by rw [hc i hi]; simp [hi]) dst hd
    rw [this, strOfNums_iu8]
theorem wpList_convert_str {P : Program} {w : World} {Q : Exit → Act → World → Prop} {ops : Array Oper} {rest : List Oper} {o : Oper} {a : Act} (hgd : o.guard = none) (src dst e : TypeId) (x : Operand) (ho : o.op = .convert src dst x)
    (hs : P.underlying src = some (.slice e)) (he : P.underlying e = some (.int .u8)) (hd : P.underlying dst = some .string)
    (A : Option Addr) (n c : Nat) (l : List UInt8) (hx : a.eval x = .slice A n c) (hn : n = l.length) (h : Bytes w A l) (hk : wpList P ops Q rest (a.put o.dst (.string (str l))) w) : wpList P ops Q (o :: rest) a w := by
  refine wpList_run (.string (str l)) hgd ?_ hk
  unfold execOp
  simp only [ho, hx, Sem.run_bind, run_convert_str src dst e hs he hd n c hn h, Result.andThen_ok, Sem.run_pure]
theorem wpList_make_bytes {P : Program} (w : World) {ops : Array Oper} {rest : List Oper} {o : Oper} {a : Act} {Q : Exit → Act → World → Prop}
    (hg : o.guard = none) (l c : Operand) (t : TypeId) (hop : o.op = Op.makeSlice t l c) (e : TypeId) (h1 : P.underlying t = some (.slice e)) (h2 : (P.info? e).map (fun i => (i.zero, i.size, i.bytes)) = some (some (.int .u8 0), 1, 1))
    (kl kc : IntKind) (L C : Int) (n m : Nat) (hl : a.eval l = .int kl L) (hc : a.eval c = .int kc C) (hL : L = (n : Int)) (hC : C = (m : Int)) (hnm : n ≤ m) (hm : m ≤ 140737488400000)
    (hK : ∀ w', Blk w' w.heap.size e ((List.replicate m 0).map u8v).toArray → Below w.heap.size w w' → w'.heap.size = w.heap.size + 1 → wpList P ops Q rest (a.put o.dst (.slice (some ⟨w.heap.size, 0, none⟩) n m)) w') :
    wpList P ops Q (o :: rest) a w := by
  obtain ⟨i, hi, hzz⟩ := Option.map_eq_some_iff.1 h2
  simp only [Prod.mk.injEq] at hzz
  obtain ⟨hz, hs, hb⟩ := hzz
  subst hL
  subst hC
  have hr := run_make (P := P) w t e i _ h1 hi hz kl kc n m (by omega) (by omega) (by rw [hb]; omega) (by omega)
  have e2 : madeCells (Value.int .u8 0).cells (m * i.size) = ((List.replicate m 0).map u8v).toArray := by
    rw [hs, Nat.mul_one]
    unfold madeCells
    apply Array.ext'
    simp [Value.cells, u8v, List.eq_replicate_iff]
    intro b x
    simp [Nat.mod_one, iu8]
  rw [Int.toNat_natCast, Int.toNat_natCast, e2] at hr
  refine wpList_plain hg fun K hK' => ?_
  unfold Oper.wp
  simp only [execOp, hop, hl, hc, hr, Sem.run_bind, Result.andThen_ok, Sem.run_pure]
  exact hK' _ _ (hK _ (Blk.new w e _) ((Below.refl _ _).alloc (Nat.le_refl _) _) (by simp))
theorem setRow_upd (w : World) (g : Nat) (cs : Array Value) : Upd g w (w.setRow g cs) := Upd.setRow w g cs
/-- copy(d, s), d in an own block of bytes from its head on. -/
theorem wpList_copy_bytes {P : Program} {w : World} {ops : Array Oper} {rest : List Oper} {o : Oper} {a : Act} {Q : Exit → Act → World → Prop} (hgd : o.guard = none) (d s : Operand) (dT sT : TypeId)
    (ho : o.op = .call { callee := .builtin .copy, args := #[d, s], argTypes := #[dT, sT] }) (elem : TypeId) (hu : P.underlying dT = some (.slice elem)) (hsz : (P.info? elem).map (·.size) = some 1)
    (g dLen dCap : Nat) (A : Option Addr) (sLen sCap : Nat) (hd : a.eval d = .slice (some ⟨g, 0, none⟩) dLen dCap) (hs : a.eval s = .slice A sLen sCap)
    (cur l : List UInt8) (t : TypeId) (hg : Blk w g t (cur.map u8v).toArray) (hn : l.length = sLen) (hb : Bytes w A l) (hfit : l.length ≤ cur.length) (hfit2 : l.length ≤ dLen)
    (h : ∀ w', Blk w' g t ((l ++ cur.drop l.length).map u8v).toArray → Upd g w w' → wpList P ops Q rest (a.put o.dst (goInt l.length)) w') : wpList P ops Q (o :: rest) a w := by
  by_cases h0 : l.length = 0
  · obtain rfl : l = [] := List.eq_nil_of_length_eq_zero h0
    simp at hn
    subst hn
    refine wpList_copy_nothing hgd d s dT sT ho elem hu hsz _ A dLen dCap 0 sCap hd hs (by simp) ?_
    exact h w (by simpa using hg) ⟨rfl, rfl, rfl, rfl, fun _ _ => rfl⟩
  · obtain ⟨b, off, rfl, _, hc⟩ := hb.at_ (by omega)
    have := wpList_copy_own (Q := Q) (rest := rest) (ops := ops) (w := w) hgd d s dT sT ho elem hu hsz g 0 dLen dCap ⟨b, off, none⟩ sLen sCap hd hs (cur.map u8v).toArray t hg (l.map u8v) (by rw [List.length_map, hn]; exact (Nat.min_eq_left (by omega)).symm)
      (fun j v hv => by
        have hj : j < l.length := by
          rcases Nat.lt_or_ge j l.length with h1 | h1
          · exact h1
          · simp [List.getElem?_eq_none h1] at hv
        have h2 := hc j hj
        simp [hj] at hv
        rw [Addr.add_lit, h2, ← hv]; simp [u8v, hj]) (by simpa using hfit) (u8v_one l)
    refine this ?_
    have e1 : ((((cur.map u8v).toArray.toList.take 0) ++ (l.map u8v ++ (cur.map u8v).toArray.toList.drop (0 + (l.map u8v).length))).toArray) = ((l ++ cur.drop l.length).map u8v).toArray := by simp
    rw [e1]
    have e2 : ((l.map u8v).length : Int) = (l.length : Int) := by simp
    rw [e2]
    exact h _ (hg.setRow _) (Upd.setRow _ _ _)
/-- A guarded operation that is wanted. -/
theorem wpList_want {P : Program} {w : World} {Q : Exit → Act → World → Prop} {ops : Array Oper} {rest : List Oper} {dst : Option Tmp} {op : Op} {ty : TypeId} {pos : String} {af : Array Edge} {g : Option (Nat × Bool)} {a : Act}
    (hw : Region.wanted ⟨dst, op, ty, pos, af, g⟩ (yielded ops a.tmps) = true) (h : wpList P ops Q (⟨dst, op, ty, pos, af, none⟩ :: rest) a w) : wpList P ops Q (⟨dst, op, ty, pos, af, g⟩ :: rest) a w := by
  unfold wpList at h ⊢
  rw [if_pos hw]
  rw [if_pos (by simp [Region.wanted])] at h
  exact h
/-- []byte("..") of a constant string. -/
theorem wpList_bytes_const {P : Program} {w : World} {Q : Exit → Act → World → Prop} {ops : Array Oper} {rest : List Oper} {o : Oper} {a : Act} (hgd : o.guard = none) (t e : TypeId) (x : Operand) (ho : o.op = .convert t t x)
    (ht : P.underlying t = some (.slice e)) (he : P.underlying e = some (.int .u8)) (l : List UInt8) (C : Array Value) (hC : C = (l.map u8v).toArray) (n : Nat) (hx : a.eval x = .slice (some ⟨w.heap.size, 0, none⟩) n n)
    (h : ∀ w', Bytes w' (some ⟨w.heap.size, 0, none⟩) l → Below w.heap.size w w' → w'.heap.size = w.heap.size + 1 → wpList P ops Q rest (a.put o.dst (.slice (some ⟨w.heap.size, 0, none⟩) n n)) w') : wpList P ops Q (o :: rest) a (w.alloc (.cells C e)) := by
  subst hC
  refine wpList_plain hgd fun K hK => ?_
  unfold Oper.wp execOp
  have hr := Lib.run_convert_bytes_const (P := P) w t e (l.map u8v).toArray n n ht he
  simp only [ho, hx, Sem.run_bind, hr, Result.andThen_ok, Sem.run_pure]
  refine hK _ _ (h _ (fun _ => ⟨w.heap.size, 0, rfl, fun j v hv => ?_⟩) ((Below.refl _ _).alloc (Nat.le_refl _) _) (by simp))
  have hh : (w.alloc (.cells (l.map u8v).toArray e ((l.map u8v).toArray.size, (l.map u8v).toArray.size + 1))).heap[w.heap.size]? = some (.cells (l.map u8v).toArray e ((l.map u8v).toArray.size, (l.map u8v).toArray.size + 1)) := heap_alloc_last w _
  rw [Nat.zero_add, cell_of_row _ _ _ _ _ _ hh]
  simpa using hv
/-- A block of bytes reads. -/
theorem Blk.bytes {w : World} {g : Nat} {t : TypeId} {l : List UInt8} (h : Blk w g t (l.map u8v).toArray) : Bytes w (some ⟨g, 0, none⟩) l := fun _ => ⟨g, 0, rfl, fun j u hu => by rw [h.cell]; simpa using hu⟩
theorem wpQuiet_convert_str {P : Program} {ops : Array Oper} {C : World → Prop} {Q : Act → Prop} {rest : List Oper} {o : Oper} {a : Act} (hgd : o.guard = none) (src dst e : TypeId) (x : Operand) (ho : o.op = .convert src dst x)
    (hs : P.underlying src = some (.slice e)) (he : P.underlying e = some (.int .u8)) (hd : P.underlying dst = some .string)
    (A : Option Addr) (n c : Nat) (l : List UInt8) (hx : a.eval x = .slice A n c) (hn : n = l.length) (hb : ∀ w, C w → Bytes w A l) (h : wpQuiet P ops C Q rest (a.put o.dst (.string (str l)))) : wpQuiet P ops C Q (o :: rest) a := by
  refine wpQuiet_step fun K hK => ?_
  rw [if_pos (by simp [Region.wanted, hgd])]
  refine ⟨_, fun w hw => ?_, hK _ h⟩
  unfold Oper.quietAt execOp
  simp only [ho, hx, Sem.run_bind, run_convert_str src dst e hs he hd n c hn (hb w hw), Result.andThen_ok, Sem.run_pure]
  exact ⟨rfl, rfl⟩
namespace Proofs.YtkjcidbhepminaaDoor
theorem sameBytes_any (A B : Option Addr) (n m c d : Nat) (l l' : List UInt8) (hn : n = l.length) (hm : m = l'.length) (w : World) (h : Bytes w A l) (h' : Bytes w B l') :
    Calls Tryd.prog 23 #[.slice A n c, .slice B m d] w fun e w' => e = .returned (.bool (decide (l = l'))) ∧ w' = w := by
  subst hn hm
  go_enter Tryd.func23, Tryd.ntmps23
  go_wp2_with (first
    | (show wpList _ _ _ ((⟨some 6, _, _, _, _, _⟩ : Oper) :: _) _ _; refine wpList_convert_str (o := ⟨some 6, _, _, _, _, _⟩) (by rfl) 36 9 5 _ (by rfl) Tryd.underlying36 Tryd.underlying5 Tryd.underlying9 A l.length c l (by rfl) rfl h ?_)
    | (show wpList _ _ _ ((⟨some 8, _, _, _, _, _⟩ : Oper) :: _) _ _; refine wpList_convert_str (o := ⟨some 8, _, _, _, _, _⟩) (by rfl) 36 9 5 _ (by rfl) Tryd.underlying36 Tryd.underlying5 Tryd.underlying9 B l'.length d l' (by rfl) rfl h' ?_))
  refine bodyPost_ret (results_tmp rfl _ _ _) rfl ⟨?_, rfl⟩
  simp [str_beq]
/-- What stands behind a list that is lent: three marks. -/
def mark1 (p : Nat) : UInt8 := UInt8.ofNat ((160 + p % 90) % 256)
def marks (n : Nat) : List UInt8 := [mark1 n, mark1 (n + 1), mark1 (n + 2)]
theorem lent_set (l : List UInt8) (n i : Nat) (h : i < 3) :
    ((l ++ ((marks n).take i ++ List.replicate (3 - i) 0)).map u8v).toArray.setIfInBounds (l.length + i) (.int .u8 (iu8 (mark1 (n + i)))) = ((l ++ ((marks n).take (i + 1) ++ List.replicate (3 - (i + 1)) 0)).map u8v).toArray := by
  apply Array.ext'
  simp only [List.setIfInBounds_toArray, List.map_append]
  have e : l.length + i = (l.map u8v).length + i := by simp
  rw [e, List.set_append_right _ _ (by omega), Nat.add_sub_cancel_left]
  congr 1
  have : i = 0 ∨ i = 1 ∨ i = 2 := by omega
  rcases this with rfl | rfl | rfl <;> simp [marks, List.replicate, u8v]
theorem size1 : (Tryd.prog.info? 5).map (·.size) = some 1 := by kernel_rfl
/-- Ahead of each mark. -/
def LentRel (w : World) (l : List UInt8) (v : Value) (wr : World) : Prop :=
  ∃ i : Nat, i ≤ 3 ∧ v = .int .i64 ((l.length + i : Nat) : Int) ∧ Blk wr w.heap.size 5 ((l ++ ((marks l.length).take i ++ List.replicate (3 - i) 0)).map u8v).toArray ∧ Below w.heap.size w wr
set_option maxHeartbeats 400000 in
theorem lentBytes_any (A : Option Addr) (n c : Nat) (l : List UInt8) (hn : n = l.length) (hl : l.length ≤ 140737488351300) (w : World) (h : Bytes w A l) :
    Calls Tryd.prog 18 #[.slice A n c] w fun e w' => e = .returned (.slice (some ⟨w.heap.size, 0, none⟩) l.length (l.length + 3)) ∧ Blk w' w.heap.size 5 ((l ++ marks l.length).map u8v).toArray ∧ Below w.heap.size w w' := by
  subst hn
  go_enter Tryd.func18, Tryd.ntmps18
  go_wp2_with (first
    | (show wpList _ _ _ ((⟨some 8, _, _, _, _, _⟩ : Oper) :: _) _ _; refine wpList_make_bytes (o := ⟨some 8, _, _, _, _, _⟩) _ (by rfl) _ _ _ (by rfl) _ Tryd.underlying36 u8info .i64 .i64 _ _ (l.length + 3) (l.length + 3) (by rfl) (by rfl) (by omega) (by omega) (Nat.le_refl _) (by omega) ?_; intro w1 h1 hb1 _; have hb := h.below hb1)
    | (show wpList _ _ _ ((⟨some 11, _, _, _, _, _⟩ : Oper) :: _) _ _; refine wpList_copy_bytes (o := ⟨some 11, _, _, _, _, _⟩) (by rfl) _ _ _ _ (by rfl) 5 Tryd.underlying36 size1 w.heap.size (l.length + 3) (l.length + 3) A l.length c (by rfl) (by rfl) (List.replicate (l.length + 3) 0) l _ h1 rfl hb (by simp) (by omega) ?_; intro w2 h2 hu2; have hb2 := hb1.upd hu2 (Nat.le_refl _); clear h1 hb1 hu2 hb)
    | fail)
  have h3 : Blk w2 w.heap.size 5 ((l ++ ((marks l.length).take 0 ++ List.replicate (3 - 0) 0)).map u8v).toArray := by
    refine h2.sub ?_
    simp
  clear h2
  go_loopw [4] (fun v wr => LentRel w l v wr) (fun v _ => l.length + 3 - (intOf v).toNat)
  case atStart => exact ⟨0, by omega, rfl, h3, hb2⟩
  case round =>
    clear h3 hb2
    obtain ⟨i, hi, rfl, hw, hbw⟩ := hrel
    obtain ⟨p, hp⟩ : ∃ p, p = l.length + i := ⟨_, rfl⟩
    rw [← hp]
    have HP := Lib.hid hp
    by_cases h3 : i < 3
    · have d0 : ∃ u, wr.cell? ⟨w.heap.size, p, none⟩ = some u := by
        rw [hw.cell]
        exact ⟨_, Array.getElem?_eq_getElem (by simp [marks]; omega)⟩
      obtain ⟨u, d0⟩ := d0
      have f0 := hw.frozen p
      have eb : 160 + (p : Int) % 90 = iu8 (mark1 p) := by unfold mark1; rw [iu8_ofNat _ (by omega)]; omega
      have hplt : p < l.length + 3 := by omega
      clear hp
      have ho := hw.set_ p (.int .u8 (iu8 (mark1 p)))
      replace ho := ho.sub (show _ = ((l ++ ((marks l.length).take (i + 1) ++ List.replicate (3 - (i + 1)) 0)).map u8v).toArray by rw [HP.out]; exact lent_set l l.length i h3)
      have HO := Lib.hid ho
      clear ho
      go_wp2
      go_roundw
      case rel => exact ⟨i + 1, by omega, by have := HP.out; go_num, HO.out, hbw.set_ (Nat.le_refl _) _⟩
      case measure => simp [intOf]; omega
    · obtain rfl : i = 3 := by omega
      have hp3 : p = l.length + 3 := hp
      subst hp3
      have HW := Lib.hid hw
      clear hw HP hp
      go_wp2
      go_ret
      exact ⟨rfl, HW.out.sub (by simp [marks]), hbw⟩
set_option maxHeartbeats 400000 in
theorem keptBytes_any (g d n c m : Nat) (B : Option Addr) (l : List UInt8) (hn : n = l.length) (hc : c = l.length + 3) (hm : m = l.length) (hl : l.length ≤ 140737488351300) (w : World) (h : Blk w g 5 ((l ++ marks l.length).map u8v).toArray) (hb : Bytes w B l) :
    Calls Tryd.prog 21 #[.slice (some ⟨g, 0, none⟩) n c, .slice B m d] w fun e w' => e = .returned (.bool true) ∧ Below w.heap.size w w' := by
  subst hn hc hm
  go_enter Tryd.func21, Tryd.ntmps21
  go_wp2
  refine wp_region_mix (fun w' => w' = w.drew) [0, 1, 2, 3, 4, 5, 6, 7, 8, 9, 10, 12, 13, 14] [] 11 [15, 16, 17, 18] (by kernel_rfl) (by kernel_rfl) (fun c a a' w h q => ⟨h ▸ q.1, q.2⟩) rfl ?_
  dsimp only [List.filterMap, List.getElem?_cons_zero, List.getElem?_cons_succ]
  repeat (go_big_quiet_step (fail))
  refine wpQuiet_nil ?_
  refine wpQuiet_nil ?_
  rintro w1 rfl
  go_wp2_with fail
  refine (lentBytes_any B l.length d l rfl hl w.drew (Bytes.below hb (Below.refl _ _).drew)).mono ?_
  rintro e w2 ⟨rfl, h2, hb2⟩
  have hb3 : Below w.heap.size w w2 := (Below.refl _ _).drew.trans hb2
  have h3 : Blk w2 g 5 ((l ++ marks l.length).map u8v).toArray := h.below hb3 h.lt
  go_wp2_with fail
  refine (sameBytes_any (some ⟨g, 0, none⟩) (some ⟨w.drew.heap.size, 0, none⟩) (l.length + 3) (l.length + 3) (l.length + 3) (l.length + 3) (l ++ marks l.length) (l ++ marks l.length) (by simp [marks]) (by simp [marks]) w2 h3.bytes h2.bytes).mono ?_
  rintro e w3 ⟨rfl, rfl⟩
  clear h2 h3 h
  go_wp2
  go_ret
  exact ⟨by simp, hb3⟩
end Proofs.YtkjcidbhepminaaDoor
end Go
