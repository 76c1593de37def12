/- What the functions do that the statements share: bytes compared, copied, lent, kept. Plain facts. No condition. -/
import Derived.Test.YtmhfehhpfkjloaaMSuperblockKnown3
import Derived.Laws.BytesArg
import Derived.Laws.CopyOwn
import Derived.BigQuiet
import Derived.Lib.SlBytesConst
import Derived.Deep.MidRow
namespace Go
open Go.RowKit
/-- The string that bytes are. -/
def str (l : List UInt8) : ByteArray := ⟨l.toArray⟩
theorem str_inj {l l' : List UInt8} (h : str l = str l') : l = l' := by
  unfold str at h
  injection h with h
  simpa using h
theorem str_eq (l l' : List UInt8) : (str l = str l') = (l = l') := propext ⟨str_inj, fun h => by rw [h]⟩
theorem str_beq (l l' : List UInt8) : ((str l).toList == (str l').toList) = decide (l = l') := by
  rw [ByteArray.toList_eq, ByteArray.toList_eq]
  by_cases h : l = l'
  · subst h; simp
  · rw [decide_eq_false h]; simpa [str] using h
theorem strOfNums_iu8 (l : List UInt8) : strOfNums (l.map iu8) = str l := by
  unfold strOfNums str
  rw [List.map_map]
  congr 2
  refine (List.map_congr_left fun b _ => ?_).trans (List.map_id l)
  simp [iu8]
theorem run_convert_str {P : Program} {w : World} {A : Option Addr} {l : List UInt8} (src dst e : TypeId) (hs : P.underlying src = some (.slice e)) (he : P.underlying e = some (.int .u8)) (hd : P.underlying dst = some .string)
    (n c : Nat) (hn : n = l.length) (h : Bytes w A l) : (convert src dst (.slice A n c)).run P w = .ok (.string (str l)) w := by
  subst hn
  cases hl : l with
  | nil =>
    cases A with
    | none => exact run_convert_bytes_nil w src e hs he _ _ dst hd
    | some a =>
      rw [run_convert_bytes_string w src dst e _ _ c hs he hd]
      have := run_bytesToString (P := P) w a 0 c [] (by rfl)
      exact this
  | cons x t =>
    have hp : 0 < l.length := by rw [hl]; simp
    obtain ⟨b, off, rfl, _, hc⟩ := h.at_ hp
    rw [← hl]
    have := run_convert_bytes_arg (P := P) w src e hs he b off l.length c (l.map iu8) (by simp) (fun i hi => by rw [hc i hi]; simp [hi]) dst hd
    rw [this, strOfNums_iu8]
theorem wpList_convert_str {P : Program} {w : World} {Q : Exit → Act → World → Prop} {ops : Array Oper} {rest : List Oper} {o : Oper} {a : Act} (hgd : o.guard = none) (src dst e : TypeId) (x : Operand) (ho : o.op = .convert src dst x)
    (hs : P.underlying src = some (.slice e)) (he : P.underlying e = some (.int .u8)) (hd : P.underlying dst = some .string)
    (A : Option Addr) (n c : Nat) (l : List UInt8) (hx : a.eval x = .slice A n c) (hn : n = l.length) (h : Bytes w A l) (hk : wpList P ops Q rest (a.put o.dst (.string (str l))) w) : wpList P ops Q (o :: rest) a w := by
  refine wpList_run (.string (str l)) hgd ?_ hk
  unfold execOp
  simp only [ho, hx, Sem.run_bind, run_convert_str src dst e hs he hd n c hn h, Result.andThen_ok, Sem.run_pure]
theorem wpList_make_bytes {P : Program} (w : World) {ops : Array Oper} {rest : List Oper} {o : Oper} {a : Act} {Q : Exit → Act → World → Prop}
    (hg : o.guard = none) (l c : Operand) (t : TypeId) (hop : o.op = Op.makeSlice t l c) (e : TypeId) (h1 : P.underlying t = some (.slice e)) (h2 : (P.info? e).map (fun i => (i.zero, i.size, i.bytes)) = some (some (.int .u8 0), 1, 1))
    (kl kc : IntKind) (L C : Int) (n m : Nat) (hl : a.eval l = .int kl L) (hc : a.eval c = .int kc C) (hL : L = (n : Int)) (hC : C = (m : Int)) (hnm : n ≤ m) (hm : m ≤ 140737488400000)
    (hK : ∀ w', Blk w' w.heap.size e ((List.replicate m 0).map u8v).toArray → Below w.heap.size w w' → w'.heap.size = w.heap.size + 1 → wpList P ops Q rest (a.put o.dst (.slice (some ⟨w.heap.size, 0, none⟩) n m)) w') :
    wpList P ops Q (o :: rest) a w := by
  obtain ⟨i, hi, hzz⟩ := Option.map_eq_some_iff.1 h2
  simp only [Prod.mk.injEq] at hzz
  obtain ⟨hz, hs, hb⟩ := hzz
  subst hL
  subst hC
  have hr := run_make (P := P) w t e i _ h1 hi hz kl kc n m (by omega) (by omega) (by rw [hb]; omega) (by omega)
  have e2 : madeCells (Value.int .u8 0).cells (m * i.size) = ((List.replicate m 0).map u8v).toArray := by
    rw [hs, Nat.mul_one]
    unfold madeCells
    apply Array.ext'
    simp [Value.cells, u8v, List.eq_replicate_iff]
    intro b x
    simp [Nat.mod_one, iu8]
  rw [Int.toNat_natCast, Int.toNat_natCast, e2] at hr
  refine wpList_plain hg fun K hK' => ?_
  unfold Oper.wp
  simp only [execOp, hop, hl, hc, hr, Sem.run_bind, Result.andThen_ok, Sem.run_pure]
  exact hK' _ _ (hK _ (Blk.new w e _) ((Below.refl _ _).alloc (Nat.le_refl _) _) (by simp))
theorem setRow_upd (w : World) (g : Nat) (cs : Array Value) : Upd g w (w.setRow g cs) := Upd.setRow w g cs
/-- copy(d, s), d in an own block of bytes from its head on. -/
theorem wpList_copy_bytes {P : Program} {w : World} {ops : Array Oper} {rest : List Oper} {o : Oper} {a : Act} {Q : Exit → Act → World → Prop} (hgd : o.guard = none) (d s : Operand) (dT sT : TypeId)
    (ho : o.op = .call { callee := .builtin .copy, args := #[d, s], argTypes := #[dT, sT] }) (elem : TypeId) (hu : P.underlying dT = some (.slice elem)) (hsz : (P.info? elem).map (·.size) = some 1)
    (g dLen dCap : Nat) (A : Option Addr) (sLen sCap : Nat) (hd : a.eval d = .slice (some ⟨g, 0, none⟩) dLen dCap) (hs : a.eval s = .slice A sLen sCap)
    (cur l : List UInt8) (t : TypeId) (hg : Blk w g t (cur.map u8v).toArray) (hn : l.length = sLen) (hb : Bytes w A l) (hfit : l.length ≤ cur.length) (hfit2 : l.length ≤ dLen)
    (h : ∀ w', Blk w' g t ((l ++ cur.drop l.length).map u8v).toArray → Upd g w w' → wpList P ops Q rest (a.put o.dst (goInt l.length)) w') : wpList P ops Q (o :: rest) a w := by
  by_cases h0 : l.length = 0
  · obtain rfl : l = [] := List.eq_nil_of_length_eq_zero h0
    simp at hn
    subst hn
    refine wpList_copy_nothing hgd d s dT sT ho elem hu hsz _ A dLen dCap 0 sCap hd hs (by simp) ?_
    exact h w (by simpa using hg) ⟨rfl, rfl, rfl, rfl, fun _ _ => rfl⟩
  · obtain ⟨b, off, rfl, _, hc⟩ := hb.at_ (by omega)
    have := wpList_copy_own (Q := Q) (rest := rest) (ops := ops) (w := w) hgd d s dT sT ho elem hu hsz g 0 dLen dCap ⟨b, off, none⟩ sLen sCap hd hs (cur.map u8v).toArray t hg (l.map u8v) (by rw [List.length_map, hn]; exact (Nat.min_eq_left (by omega)).symm)
      (fun j v hv => by
        have hj : j < l.length := by
          rcases Nat.lt_or_ge j l.length with h1 | h1
          · exact h1
          · simp [List.getElem?_eq_none h1] at hv
        have h2 := hc j hj
        simp [hj] at hv
        rw [Addr.add_lit, h2, ← hv]; simp [u8v, hj]) (by simpa using hfit) (u8v_one l)
    refine this ?_
    have e1 : ((((cur.map u8v).toArray.toList.take 0) ++ (l.map u8v ++ (cur.map u8v).toArray.toList.drop (0 + (l.map u8v).length))).toArray) = ((l ++ cur.drop l.length).map u8v).toArray := by simp
    rw [e1]
    have e2 : ((l.map u8v).length : Int) = (l.length : Int) := by simp
    rw [e2]
    exact h _ (hg.setRow _) (Upd.setRow _ _ _)
/-- A guarded operation that is wanted. -/
theorem wpList_want {P : Program} {w : World} {Q : Exit → Act → World → Prop} {ops : Array Oper} {rest : List Oper} {dst : Option Tmp} {op : Op} {ty : TypeId} {pos : String} {af : Array Edge} {g : Option (Nat × Bool)} {a : Act}
    (hw : Region.wanted ⟨dst, op, ty, pos, af, g⟩ (yielded ops a.tmps) = true) (h : wpList P ops Q (⟨dst, op, ty, pos, af, none⟩ :: rest) a w) : wpList P ops Q (⟨dst, op, ty, pos, af, g⟩ :: rest) a w := by
  unfold wpList at h ⊢
  rw [if_pos hw]
  rw [if_pos (by simp [Region.wanted])] at h
  exact h
/-- []byte("..") of a constant string. -/
theorem wpList_bytes_const {P : Program} {w : World} {Q : Exit → Act → World → Prop} {ops : Array Oper} {rest : List Oper} {o : Oper} {a : Act} (hgd : o.guard = none) (t e : TypeId) (x : Operand) (ho : o.op = .convert t t x)
    (ht : P.underlying t = some (.slice e)) (he : P.underlying e = some (.int .u8)) (l : List UInt8) (C : Array Value) (hC : C = (l.map u8v).toArray) (n : Nat) (hx : a.eval x = .slice (some ⟨w.heap.size, 0, none⟩) n n)
    (h : ∀ w', Bytes w' (some ⟨w.heap.size, 0, none⟩) l → Below w.heap.size w w' → w'.heap.size = w.heap.size + 1 → wpList P ops Q rest (a.put o.dst (.slice (some ⟨w.heap.size, 0, none⟩) n n)) w') : wpList P ops Q (o :: rest) a (w.alloc (.cells C e)) := by
  subst hC
  refine wpList_plain hgd fun K hK => ?_
  unfold Oper.wp execOp
  have hr := Lib.run_convert_bytes_const (P := P) w t e (l.map u8v).toArray n n ht he
  simp only [ho, hx, Sem.run_bind, hr, Result.andThen_ok, Sem.run_pure]
  refine hK _ _ (h _ (fun _ => ⟨w.heap.size, 0, rfl, fun j v hv => ?_⟩) ((Below.refl _ _).alloc (Nat.le_refl _) _) (by simp))
  have hh : (w.alloc (.cells (l.map u8v).toArray e ((l.map u8v).toArray.size, (l.map u8v).toArray.size + 1))).heap[w.heap.size]? = some (.cells (l.map u8v).toArray e ((l.map u8v).toArray.size, (l.map u8v).toArray.size + 1)) := heap_alloc_last w _
  rw [Nat.zero_add, cell_of_row _ _ _ _ _ _ hh]
  simpa using hv
/-- A block of bytes reads. -/
theorem Blk.bytes {w : World} {g : Nat} {t : TypeId} {l : List UInt8} (h : Blk w g t (l.map u8v).toArray) : Bytes w (some ⟨g, 0, none⟩) l := fun _ => ⟨g, 0, rfl, fun j u hu => by rw [h.cell]; simpa using hu⟩
theorem wpQuiet_convert_str {P : Program} {ops : Array Oper} {C : World → Prop} {Q : Act → Prop} {rest : List Oper} {o : Oper} {a : Act} (hgd : o.guard = none) (src dst e : TypeId) (x : Operand) (ho : o.op = .convert src dst x)
    (hs : P.underlying src = some (.slice e)) (he : P.underlying e = some (.int .u8)) (hd : P.underlying dst = some .string)
    (A : Option Addr) (n c : Nat) (l : List UInt8) (hx : a.eval x = .slice A n c) (hn : n = l.length) (hb : ∀ w, C w → Bytes w A l) (h : wpQuiet P ops C Q rest (a.put o.dst (.string (str l)))) : wpQuiet P ops C Q (o :: rest) a := by
  refine wpQuiet_step fun K hK => ?_
  rw [if_pos (by simp [Region.wanted, hgd])]
  refine ⟨_, fun w hw => ?_, hK _ h⟩
  unfold Oper.quietAt execOp
  simp only [ho, hx, Sem.run_bind, run_convert_str src dst e hs he hd n c hn (hb w hw), Result.andThen_ok, Sem.run_pure]
  exact ⟨rfl, rfl⟩
namespace Proofs.Ytmhfehhpfkjloaa
theorem sameBytes_any (A B : Option Addr) (n m c d : Nat) (l l' : List UInt8) (hn : n = l.length) (hm : m = l'.length) (w : World) (h : Bytes w A l) (h' : Bytes w B l') :
    Calls Try.prog 24 #[.slice A n c, .slice B m d] w fun e w' => e = .returned (.bool (decide (l = l'))) ∧ w' = w := by
  subst hn hm
  go_enter Try.func24, Try.ntmps24
  go_wp2_with (first
    | (show wpList _ _ _ ((⟨some 6, _, _, _, _, _⟩ : Oper) :: _) _ _; refine wpList_convert_str (o := ⟨some 6, _, _, _, _, _⟩) (by rfl) 43 9 5 _ (by rfl) Try.underlying43 Try.underlying5 Try.underlying9 A l.length c l (by rfl) rfl h ?_)
    | (show wpList _ _ _ ((⟨some 8, _, _, _, _, _⟩ : Oper) :: _) _ _; refine wpList_convert_str (o := ⟨some 8, _, _, _, _, _⟩) (by rfl) 43 9 5 _ (by rfl) Try.underlying43 Try.underlying5 Try.underlying9 B l'.length d l' (by rfl) rfl h' ?_))
  refine bodyPost_ret (results_tmp rfl _ _ _) rfl ⟨?_, rfl⟩
  simp [str_beq]
/-- What stands behind a list that is lent: three marks. -/
def mark1 (p : Nat) : UInt8 := UInt8.ofNat ((160 + p % 90) % 256)
def marks (n : Nat) : List UInt8 := [mark1 n, mark1 (n + 1), mark1 (n + 2)]
theorem lent_set (l : List UInt8) (n i : Nat) (h : i < 3) :
    ((l ++ ((marks n).take i ++ List.replicate (3 - i) 0)).map u8v).toArray.setIfInBounds (l.length + i) (.int .u8 (iu8 (mark1 (n + i)))) = ((l ++ ((marks n).take (i + 1) ++ List.replicate (3 - (i + 1)) 0)).map u8v).toArray := by
  apply Array.ext'
  simp only [List.setIfInBounds_toArray, List.map_append]
  have e : l.length + i = (l.map u8v).length + i := by simp
  rw [e, List.set_append_right _ _ (by omega), Nat.add_sub_cancel_left]
  congr 1
  have : i = 0 ∨ i = 1 ∨ i = 2 := by omega
  rcases this with rfl | rfl | rfl <;> simp [marks, List.replicate, u8v]
theorem size1 : (Try.prog.info? 5).map (·.size) = some 1 := by kernel_rfl
/-- Ahead of each mark. -/
def LentRel (w : World) (l : List UInt8) (v : Value) (wr : World) : Prop :=
  ∃ i : Nat, i ≤ 3 ∧ v = .int .i64 ((l.length + i : Nat) : Int) ∧ Blk wr w.heap.size 5 ((l ++ ((marks l.length).take i ++ List.replicate (3 - i) 0)).map u8v).toArray ∧ Below w.heap.size w wr
set_option maxHeartbeats 400000 in
theorem lentBytes_any (A : Option Addr) (n c : Nat) (l : List UInt8) (hn : n = l.length) (hl : l.length ≤ 140737488351300) (w : World) (h : Bytes w A l) :
    Calls Try.prog 19 #[.slice A n c] w fun e w' => e = .returned (.slice (some ⟨w.heap.size, 0, none⟩) l.length (l.length + 3)) ∧ Blk w' w.heap.size 5 ((l ++ marks l.length).map u8v).toArray ∧ Below w.heap.size w w' := by
  subst hn
  go_enter Try.func19, Try.ntmps19
  go_wp2_with (first
    | (show wpList _ _ _ ((⟨some 8, _, _, _, _, _⟩ : Oper) :: _) _ _; refine wpList_make_bytes (o := ⟨some 8, _, _, _, _, _⟩) _ (by rfl) _ _ _ (by rfl) _ Try.underlying43 u8info .i64 .i64 _ _ (l.length + 3) (l.length + 3) (by rfl) (by rfl) (by omega) (by omega) (Nat.le_refl _) (by omega) ?_; intro w1 h1 hb1 _; have hb := h.below hb1)
    | (show wpList _ _ _ ((⟨some 11, _, _, _, _, _⟩ : Oper) :: _) _ _; refine wpList_copy_bytes (o := ⟨some 11, _, _, _, _, _⟩) (by rfl) _ _ _ _ (by rfl) 5 Try.underlying43 size1 w.heap.size (l.length + 3) (l.length + 3) A l.length c (by rfl) (by rfl) (List.replicate (l.length + 3) 0) l _ h1 rfl hb (by simp) (by omega) ?_; intro w2 h2 hu2; have hb2 := hb1.upd hu2 (Nat.le_refl _); clear h1 hb1 hu2 hb)
    | fail)
  have h3 : Blk w2 w.heap.size 5 ((l ++ ((marks l.length).take 0 ++ List.replicate (3 - 0) 0)).map u8v).toArray := by
    refine h2.sub ?_
    simp
  clear h2
  go_loopw [4] (fun v wr => LentRel w l v wr) (fun v _ => l.length + 3 - (intOf v).toNat)
  case atStart => exact ⟨0, by omega, rfl, h3, hb2⟩
  case round =>
    clear h3 hb2
    obtain ⟨i, hi, rfl, hw, hbw⟩ := hrel
    obtain ⟨p, hp⟩ : ∃ p, p = l.length + i := ⟨_, rfl⟩
    rw [← hp]
    have HP := Lib.hid hp
    by_cases h3 : i < 3
    · have d0 : ∃ u, wr.cell? ⟨w.heap.size, p, none⟩ = some u := by
        rw [hw.cell]
        exact ⟨_, Array.getElem?_eq_getElem (by simp [marks]; omega)⟩
      obtain ⟨u, d0⟩ := d0
      have f0 := hw.frozen p
      have eb : 160 + (p : Int) % 90 = iu8 (mark1 p) := by unfold mark1; rw [iu8_ofNat _ (by omega)]; omega
      have hplt : p < l.length + 3 := by omega
      clear hp
      have ho := hw.set_ p (.int .u8 (iu8 (mark1 p)))
      replace ho := ho.sub (show _ = ((l ++ ((marks l.length).take (i + 1) ++ List.replicate (3 - (i + 1)) 0)).map u8v).toArray by rw [HP.out]; exact lent_set l l.length i h3)
      have HO := Lib.hid ho
      clear ho
      go_wp2
      go_roundw
      case rel => exact ⟨i + 1, by omega, by have := HP.out; go_num, HO.out, hbw.set_ (Nat.le_refl _) _⟩
      case measure => simp [intOf]; omega
    · obtain rfl : i = 3 := by omega
      have hp3 : p = l.length + 3 := hp
      subst hp3
      have HW := Lib.hid hw
      clear hw HP hp
      go_wp2
      go_ret
      exact ⟨rfl, HW.out.sub (by simp [marks]), hbw⟩
set_option maxHeartbeats 400000 in
theorem keptBytes_any (g d n c m : Nat) (B : Option Addr) (l : List UInt8) (hn : n = l.length) (hc : c = l.length + 3) (hm : m = l.length) (hl : l.length ≤ 140737488351300) (w : World) (h : Blk w g 5 ((l ++ marks l.length).map u8v).toArray) (hb : Bytes w B l) :
    Calls Try.prog 27 #[.slice (some ⟨g, 0, none⟩) n c, .slice B m d] w fun e w' => e = .returned (.bool true) ∧ Below w.heap.size w w' := by
  subst hn hc hm
  go_enter Try.func27, Try.ntmps27
  go_wp2
  refine wp_region_mix (fun w' => w' = w.drew) [0, 1, 2, 3, 4, 5, 6, 7, 8, 9, 10, 12, 13, 14] [] 11 [15, 16, 17, 18] (by kernel_rfl) (by kernel_rfl) (fun c a a' w h q => ⟨h ▸ q.1, q.2⟩) rfl ?_
  dsimp only [List.filterMap, List.getElem?_cons_zero, List.getElem?_cons_succ]
  repeat (go_big_quiet_step (fail))
  refine wpQuiet_nil ?_
  refine wpQuiet_nil ?_
  rintro w1 rfl
  go_wp2_with fail
  refine (lentBytes_any B l.length d l rfl hl w.drew (Bytes.below hb (Below.refl _ _).drew)).mono ?_
  rintro e w2 ⟨rfl, h2, hb2⟩
  have hb3 : Below w.heap.size w w2 := (Below.refl _ _).drew.trans hb2
  have h3 : Blk w2 g 5 ((l ++ marks l.length).map u8v).toArray := h.below hb3 h.lt
  go_wp2_with fail
  refine (sameBytes_any (some ⟨g, 0, none⟩) (some ⟨w.drew.heap.size, 0, none⟩) (l.length + 3) (l.length + 3) (l.length + 3) (l.length + 3) (l ++ marks l.length) (l ++ marks l.length) (by simp [marks]) (by simp [marks]) w2 h3.bytes h2.bytes).mono ?_
  rintro e w3 ⟨rfl, rfl⟩
  clear h2 h3 h
  go_wp2
  go_ret
  exact ⟨by simp, hb3⟩
end Proofs.Ytmhfehhpfkjloaa
end Go

/- Are numbers from 0 to a bound: the superblock's within. No condition but that the numbers can be read. -/
namespace Go.Proofs.Ytmhfehhpfkjloaa
open Go.RowKit
def InRel (w : World) (most : Int) (l : List Int) (v : Value) (wr : World) : Prop := ∃ i, i ≤ l.length ∧ v = .int .i64 (i : Int) ∧ wr = w ∧ (l.take i).all (numIn most) = true
set_option maxHeartbeats 1000000 in
theorem inside_any (most : Int) (l : List Int) (g : Nat) (w : World) (hl : ∀ i, (h : i < l.length) → w.cell? ⟨g, i, none⟩ = some (.int .i64 l[i])) (hlen : l.length ≤ 1000) :
    Calls Try.prog 65 #[.int .i64 most, .slice (some ⟨g, 0, none⟩) l.length l.length] w fun e w' => e = .returned (.bool (l.all (numIn most))) ∧ w' = w := by
  have HL := Lib.hid hl
  have HN := Lib.hid hlen
  have hS : InRel w most l (.int .i64 0) w := ⟨0, Nat.zero_le _, rfl, rfl, by simp⟩
  clear hl hlen
  go_enter Try.func65, Try.ntmps65
  go_wp2_with fail
  go_loopw [9] (fun v wr => InRel w most l v wr) (fun v _ => l.length - (intOf v).toNat)
  case atStart => exact hS
  case round =>
    clear hS
    obtain ⟨i, hi, rfl, rfl, hall⟩ := hrel
    have HA := Lib.hid hall
    by_cases hlt : i < l.length
    · have d0 := HL.out i hlt
      have hib : i < 65536 := by have := HN.out; omega
      obtain ⟨x, hx⟩ : ∃ x, x = l[i] := ⟨_, rfl⟩
      rw [← hx] at d0
      have hstep : (l.take (i + 1)).all (numIn most) = numIn most x := by
        rw [List.take_succ_eq_append_getElem hlt, List.all_append, HA.out, Bool.true_and, ← hx]; simp
      have hno : numIn most x = false → l.all (numIn most) = false := fun h => by
        rw [List.all_eq_false]
        exact ⟨l[i], List.getElem_mem _, by rw [← hx, h]; simp⟩
      have HS := Lib.hid (And.intro hstep hno)
      clear hall hx hstep hno
      by_cases h1 : x < 0
      · have HF := Lib.hid (HS.out.2 (by unfold numIn; rw [decide_eq_false (by omega), Bool.false_and]))
        go_wp2
        go_ret
        exact ⟨by rw [HF.out]; rfl, rfl⟩
      · by_cases h2 : most < x
        · have HF := Lib.hid (HS.out.2 (by unfold numIn; rw [decide_eq_false (p := x ≤ most) (by omega), Bool.and_false]))
          go_wp2
          go_ret
          exact ⟨by rw [HF.out]; rfl, rfl⟩
        · have HF := Lib.hid (HS.out.1.trans (by unfold numIn; rw [decide_eq_true (by omega), decide_eq_true (by omega)]))
          go_wp2
          go_roundw
          case rel => exact ⟨i + 1, by omega, by go_num, rfl, HF.out⟩
          case measure => simp [intOf]; omega
    · obtain rfl : i = l.length := by omega
      rw [List.take_length] at hall
      clear HA
      have HA := Lib.hid hall
      clear hall hi hlt
      go_wp2
      go_ret
      exact ⟨by rw [HA.out]; rfl, rfl⟩
end Go.Proofs.Ytmhfehhpfkjloaa

/- Loads of whole arrays and structs out of the middle of a block. Plain facts. Condition: the cells are known. -/
namespace Go.Proofs.Ytmhfehhpfkjloaa
open Go.RowKit
/-- A load of a whole array or struct out of the middle of a block. -/
theorem wpList_load_mid {P : Program} {w : World} {Q : Exit → Act → World → Prop} {ops : Array Oper} {rest : List Oper} {o : Oper} {a : Act} {b off : Nat} {cs : List Value} (hb : w.rangeAt b off cs) (hgd : o.guard = none) (ty : TypeId) (x : Operand) (ho : o.op = .load ty x)
    (hx : a.eval x = .pointer (some ⟨b, off, none⟩)) (d : TypeDesc) (hu : P.underlying ty = some d) (hd : d.isRow = true) {n : Nat} (hi : (P.info? ty).map (·.size) = some n) (hn : cs.length = n)
    (h : wpList P ops Q rest (a.put o.dst (.agg cs.toArray)) w) : wpList P ops Q (o :: rest) a w :=
  wpList_run (.agg cs.toArray) hgd (by
    unfold execOp
    simp only [ho, hx, Instr.loadAt, Instr.sureAddr, Sem.run_bind, Sem.run_pure, Result.andThen_ok, run_loadVar_mid w b off ty cs d hb hu hd (hn ▸ hi)]) h
theorem range2 {w : World} {b off : Nat} {u v : Value} (h1 : w.cell? ⟨b, off, none⟩ = some u) (h2 : w.cell? ⟨b, off + 1, none⟩ = some v) : w.rangeAt b off [u, v] := fun j x hx => by
  match j with
  | 0 => simp at hx; subst hx; exact h1
  | 1 => simp at hx; subst hx; exact h2
theorem Blk.range {w : World} {b : Nat} {t : TypeId} {cs : Array Value} (h : Blk w b t cs) (o : Nat) (l : List Value) (hl : ∀ j v, l[j]? = some v → cs[o + j]? = some v) : w.rangeAt b o l := fun j v hv => h.at_ (o + j) (hl j v hv)
end Go.Proofs.Ytmhfehhpfkjloaa

/- May a superblock be: the program's Check. Condition: its heads can be read. -/
namespace Go.Proofs.Ytmhfehhpfkjloaa
open Go.RowKit
/-- A superblock's cells. -/
def spc (f : HdF) (fe : Bool) (hv : Value) : Array Value := #[.int .i64 (f 0), .int .i64 (f 1), .int .i64 (f 2), .int .i64 (f 3), .int .i64 (f 4), .int .i64 (f 5), .int .i64 (f 6), .int .i64 (f 7), .int .i64 (f 8), .bool fe, hv]
/-- Heads can be read. -/
def Heads (w : World) (A : Option Addr) (hs : List (Int × Int)) : Prop := 0 < hs.length → ∃ b off, A = some ⟨b, off, none⟩ ∧ ∀ i, (h : i < hs.length) → w.cell? ⟨b, off + 2 * i, none⟩ = some (.int .i64 hs[i].1) ∧ w.cell? ⟨b, off + (2 * i + 1), none⟩ = some (.int .i64 hs[i].2)
theorem Heads.below {w w' : World} {A : Option Addr} {hs : List (Int × Int)} (h : Heads w A hs) (hb : Below w.heap.size w w') : Heads w' A hs := fun hp => by
  obtain ⟨b, off, e, hc⟩ := h hp
  have hlt := World.block_lt_of_cell? w _ (hc 0 hp).1
  exact ⟨b, off, e, fun i hi => ⟨(hb.cell (p := ⟨b, off + 2 * i, none⟩) hlt).trans (hc i hi).1, (hb.cell (p := ⟨b, off + (2 * i + 1), none⟩) hlt).trans (hc i hi).2⟩⟩
instance {w w' : World} {A : Option Addr} {hs : List (Int × Int)} : KeepsTo w w' (Heads w A hs) (Heads w' A hs) := ⟨fun hb h => h.below hb⟩
def six (f : HdF) : List Int := [f 0, f 3, f 4, f 5, f 6, f 8]
theorem inside_blk (most : Int) (l : List Int) (g : Nat) (w : World) (hb : Blk w g 3 (l.map fun x => Value.int .i64 x).toArray) (n : Nat) (hn : n = l.length) (hlen : l.length ≤ 1000) :
    Calls Try.prog 65 #[.int .i64 most, .slice (some ⟨g, 0, none⟩) n n] w fun e w' => e = .returned (.bool (l.all (numIn most))) ∧ w' = w := by
  subst hn
  refine inside_any most l g w (fun i h => hb.at_ i ?_) hlen
  rw [List.getElem?_toArray, List.getElem?_map, List.getElem?_eq_getElem h]; rfl
theorem sp_no1 {s : SpT} (h : ¬ 1 ≤ s.1 0 ∨ (six s.1).all (numIn 1073741824) = false ∨ [s.1 7].all (numIn 512) = false) : Sp.ok s = false := by
  unfold Sp.ok Sp.ok1
  rcases h with h | h | h
  · rw [decide_eq_false h]; rfl
  · unfold six at h
    simp only [List.all_cons, List.all_nil, Bool.and_true] at h
    rw [h, Bool.false_and, Bool.and_false, Bool.false_and]
  · simp only [List.all_cons, List.all_nil, Bool.and_true] at h
    rw [h, Bool.and_false, Bool.and_false, Bool.false_and]
theorem sp_no2 {s : SpT} (h : Sp.ok2 s.1 s.2.2.length = false ∨ s.2.2.all headOk = false) : Sp.ok s = false := by
  unfold Sp.ok
  rcases h with h | h
  · rw [h, Bool.false_and, Bool.and_false]
  · rw [h, Bool.and_false, Bool.and_false]
theorem ok2_case (f : HdF) (n : Nat) : Sp.ok2 f n = true ∨ (Sp.ok2 f n = false ∧ (¬ (f 2 = 3 ∨ f 2 = 5 ∨ f 2 = 7) ∨ ¬ 0 ≤ f 1 ∨ ¬ f 1 < f 2 ∨ ¬ n ≤ 32)) := by
  cases h : Sp.ok2 f n
  · right
    refine ⟨rfl, ?_⟩
    unfold Sp.ok2 at h
    by_cases h1 : f 2 = 3 ∨ f 2 = 5 ∨ f 2 = 7
    · by_cases h2 : 0 ≤ f 1
      · by_cases h3 : f 1 < f 2
        · by_cases h4 : n ≤ 32
          · exfalso
            rw [decide_eq_true h2, decide_eq_true h3, decide_eq_true h4] at h
            rcases h1 with h1 | h1 | h1 <;> rw [h1] at h <;> exact absurd h (by decide)
          · exact .inr (.inr (.inr h4))
        · exact .inr (.inr (.inl h3))
      · exact .inr (.inl h2)
    · exact .inl h1
  · exact .inl rfl
theorem ok2_true {f : HdF} {n : Nat} (h : Sp.ok2 f n = true) : (f 2 = 3 ∨ f 2 = 5 ∨ f 2 = 7) ∧ 0 ≤ f 1 ∧ f 1 < f 2 ∧ n ≤ 32 := by
  unfold Sp.ok2 at h
  simp only [Bool.and_eq_true, Bool.or_eq_true, beq_iff_eq, decide_eq_true_eq] at h
  exact h
theorem sp_yes {s : SpT} (h0 : 1 ≤ s.1 0) (h1 : (six s.1).all (numIn 1073741824) = true) (h2 : [s.1 7].all (numIn 512) = true) (h3 : Sp.ok2 s.1 s.2.2.length = true) (h4 : s.2.2.all headOk = true) : Sp.ok s = true := by
  unfold Sp.ok Sp.ok1
  unfold six at h1
  simp only [List.all_cons, List.all_nil, Bool.and_true] at h1 h2
  rw [decide_eq_true h0, h1, h2, h3, h4]; rfl
theorem sp_cells {w : World} {g : Nat} {f : HdF} {fe : Bool} {hv : Value} (hg : Blk w g 26 (spc f fe hv)) : w.cell? ⟨g, 0, none⟩ = some (.int .i64 (f 0)) ∧ w.cell? ⟨g, 1, none⟩ = some (.int .i64 (f 1)) ∧ w.cell? ⟨g, 2, none⟩ = some (.int .i64 (f 2)) ∧ w.cell? ⟨g, 3, none⟩ = some (.int .i64 (f 3)) ∧
    w.cell? ⟨g, 4, none⟩ = some (.int .i64 (f 4)) ∧ w.cell? ⟨g, 5, none⟩ = some (.int .i64 (f 5)) ∧ w.cell? ⟨g, 6, none⟩ = some (.int .i64 (f 6)) ∧ w.cell? ⟨g, 7, none⟩ = some (.int .i64 (f 7)) ∧ w.cell? ⟨g, 8, none⟩ = some (.int .i64 (f 8)) ∧ w.cell? ⟨g, 9, none⟩ = some (.bool fe) ∧ w.cell? ⟨g, 10, none⟩ = some hv :=
  ⟨hg.at_ 0 rfl, hg.at_ 1 rfl, hg.at_ 2 rfl, hg.at_ 3 rfl, hg.at_ 4 rfl, hg.at_ 5 rfl, hg.at_ 6 rfl, hg.at_ 7 rfl, hg.at_ 8 rfl, hg.at_ 9 rfl, hg.at_ 10 rfl⟩
def SpRel (w : World) (hs : List (Int × Int)) (v : Value) (wr : World) : Prop := ∃ i, i ≤ hs.length ∧ v = .int .i64 (i : Int) ∧ Below w.heap.size w wr ∧ (hs.take i).all headOk = true
theorem sizeHead : (Try.prog.info? 102).map (·.size) = some 2 := by kernel_rfl
def spCode (s : SpT) : Int := if Sp.ok s = true then 0 else 2
set_option maxRecDepth 100000 in
set_option maxHeartbeats 4000000 in
theorem spCheck_any (f : HdF) (fe : Bool) (A : Option Addr) (n c : Nat) (hs : List (Int × Int)) (w : World) (hn : n = hs.length) (hlen : hs.length ≤ 1000) (hh : Heads w A hs) :
    Calls Try.prog 25 #[.agg (spc f fe (.slice A n c))] w fun e w' => e = .returned (.int .i64 (spCode (f, fe, hs))) ∧ Below w.heap.size w w' := by
  have hg := Blk.new w 26 (spc f fe (.slice A n c))
  have hB := (Below.refl w.heap.size w).alloc (Nat.le_refl _) (.cells (spc f fe (.slice A n c)) 26)
  have hh1 := hh.below hB
  have HH := Lib.hid (And.intro hg (And.intro hB hh1))
  have HN := Lib.hid (And.intro hn hlen)
  obtain ⟨c0, -, c2, c3, c4, c5, c6, c7, c8, -, -⟩ := sp_cells hg
  clear hg hB hh1 hh hn hlen
  have hsz : (w.alloc (.cells (spc f fe (.slice A n c)) 26)).heap.size = w.heap.size + 1 := World.size_alloc ..
  change Hid (Blk (w.alloc (.cells #[.int .i64 (f 0), .int .i64 (f 1), .int .i64 (f 2), .int .i64 (f 3), .int .i64 (f 4), .int .i64 (f 5), .int .i64 (f 6), .int .i64 (f 7), .int .i64 (f 8), .bool fe, .slice A n c] 26)) _ _ (spc f fe (.slice A n c)) ∧ Below _ _ (w.alloc (.cells #[.int .i64 (f 0), .int .i64 (f 1), .int .i64 (f 2), .int .i64 (f 3), .int .i64 (f 4), .int .i64 (f 5), .int .i64 (f 6), .int .i64 (f 7), .int .i64 (f 8), .bool fe, .slice A n c] 26)) ∧ Heads (w.alloc (.cells #[.int .i64 (f 0), .int .i64 (f 1), .int .i64 (f 2), .int .i64 (f 3), .int .i64 (f 4), .int .i64 (f 5), .int .i64 (f 6), .int .i64 (f 7), .int .i64 (f 8), .bool fe, .slice A n c] 26)) _ _) at HH
  unfold spc at c0 c2 c3 c4 c5 c6 c7 c8 hsz ⊢
  by_cases h0 : 1 ≤ f 0
  case neg =>
    have HF := Lib.hid (sp_no1 (s := (f, fe, hs)) (.inl h0))
    go_enter Try.func25, Try.ntmps25
    go_wp2
    go_ret
    refine ⟨by unfold spCode; rw [HF.out]; rfl, HH.out.2.1⟩
  go_enter Try.func25, Try.ntmps25
  go_wp2_with fail
  generalize w.alloc (.cells #[.int .i64 (f 0), .int .i64 (f 1), .int .i64 (f 2), .int .i64 (f 3), .int .i64 (f 4), .int .i64 (f 5), .int .i64 (f 6), .int .i64 (f 7), .int .i64 (f 8), .bool fe, .slice A n c] 26) = w1 at HH c0 c2 c3 c4 c5 c6 c7 c8 hsz ⊢
  have h6 : Blk (w1.alloc (.cells ((six f).map fun x => Value.int .i64 x).toArray 3)) (w.heap.size + 1) 3 ((six f).map fun x => Value.int .i64 x).toArray := Blk.new' w1 _ _ hsz.symm
  have hb6 := (Below.refl w1.heap.size w1).alloc (Nat.le_refl _) (.cells ((six f).map fun x => Value.int .i64 x).toArray 3)
  have hs6 : (w1.alloc (.cells ((six f).map fun x => Value.int .i64 x).toArray 3)).heap.size = w1.heap.size + 1 := World.size_alloc ..
  rw [show w1.alloc (.cells #[.int .i64 (f 0), .int .i64 (f 3), .int .i64 (f 4), .int .i64 (f 5), .int .i64 (f 6), .int .i64 (f 8)] 3) = w1.alloc (.cells ((six f).map fun x => Value.int .i64 x).toArray 3) from rfl]
  generalize w1.alloc (.cells ((six f).map fun x => Value.int .i64 x).toArray 3) = w2 at h6 hb6 hs6 ⊢
  refine (inside_blk 1073741824 (six f) (w.heap.size + 1) w2 h6 6 rfl (by show 6 ≤ 1000; omega)).mono ?_
  rintro e w3 ⟨rfl, hw⟩
  obtain rfl := hw.symm
  have hg2 := HH.out.1.below hb6 HH.out.1.lt
  have HH2 := Lib.hid (And.intro hg2 (And.intro (HH.out.2.1.trans (hb6.mono HH.out.2.1.size)) (HH.out.2.2.below hb6)))
  clear c0 c2 c3 c4 c5 c6 c7 c8 h6 hb6 hw
  obtain ⟨c0, c1, c2, -, -, -, -, c7, -, -, -⟩ := sp_cells hg2
  clear hg2
  obtain ⟨b1, hb1⟩ : ∃ b, b = (six f).all (numIn 1073741824) := ⟨_, rfl⟩
  rw [← hb1]
  have HB1 := Lib.hid hb1
  clear hb1
  cases b1
  · have HF := Lib.hid (sp_no1 (s := (f, fe, hs)) (.inr (.inl HB1.out.symm)))
    go_wp2
    go_ret
    exact ⟨by unfold spCode; rw [HF.out]; rfl, HH2.out.2.1⟩
  go_wp2_with fail
  have h7 : Blk (w2.alloc (.cells ([f 7].map fun x => Value.int .i64 x).toArray 3)) (w.heap.size + 1 + 1) 3 ([f 7].map fun x => Value.int .i64 x).toArray := Blk.new' w2 _ _ (by rw [hs6, hsz])
  have hb7 := (Below.refl w2.heap.size w2).alloc (Nat.le_refl _) (.cells ([f 7].map fun x => Value.int .i64 x).toArray 3)
  rw [show w2.alloc (.cells #[.int .i64 (f 7)] 3) = w2.alloc (.cells ([f 7].map fun x => Value.int .i64 x).toArray 3) from rfl]
  generalize w2.alloc (.cells ([f 7].map fun x => Value.int .i64 x).toArray 3) = w4 at h7 hb7 ⊢
  refine (inside_blk 512 [f 7] (w.heap.size + 1 + 1) w4 h7 1 rfl (by show 1 ≤ 1000; omega)).mono ?_
  rintro e w5 ⟨rfl, hw⟩
  obtain rfl := hw.symm
  have hg2 := HH2.out.1.below hb7 HH2.out.1.lt
  have HH3 := Lib.hid (And.intro hg2 (And.intro (HH2.out.2.1.trans (hb7.mono HH2.out.2.1.size)) (HH2.out.2.2.below hb7)))
  clear c0 c1 c2 c7 h7 hb7 hw hs6 hsz HH HH2
  obtain ⟨-, c1, c2, -, -, -, -, -, -, -, c10⟩ := sp_cells hg2
  clear hg2
  obtain ⟨b2, hb2⟩ : ∃ b, b = [f 7].all (numIn 512) := ⟨_, rfl⟩
  rw [← hb2]
  have HB2 := Lib.hid hb2
  clear hb2
  have hgs : w.heap.size < w4.heap.size := HH3.out.1.lt
  cases b2
  · have HF := Lib.hid (sp_no1 (s := (f, fe, hs)) (.inr (.inr HB2.out.symm)))
    go_wp2
    go_ret
    exact ⟨by unfold spCode; rw [HF.out]; rfl, HH3.out.2.1⟩
  obtain rfl : n = hs.length := HN.out.1
  obtain ⟨N2, hN2⟩ : ∃ x, x = f 2 := ⟨_, rfl⟩
  rw [← hN2] at c2
  have H22 := Lib.hid hN2
  rcases ok2_case f hs.length with h2 | ⟨h2, hno⟩
  case inr =>
    have HF := Lib.hid (sp_no2 (s := (f, fe, hs)) (.inl h2))
    rw [← hN2] at hno
    have H2 := Lib.hid hno
    clear h2 hno hN2
    by_cases kN : N2 = 3 ∨ N2 = 5 ∨ N2 = 7
    · by_cases k1 : 0 ≤ f 1
      · by_cases k2 : f 1 < N2
        · have k4 : decide (hs.length ≤ 32) = false := by have := H2.out; simp; omega
          have k4b : decide ((hs.length : Int) ≤ 32) = false := by have := H2.out; simp; omega
          clear H2
          rcases kN with kN | kN | kN
          all_goals
            clear H22
            subst kN
            go_wp2
            go_ret
            exact ⟨by unfold spCode; rw [HF.out]; rfl, HH3.out.2.1⟩
        · clear H2
          rcases kN with kN | kN | kN
          all_goals
            clear H22
            subst kN
            go_wp2
            go_ret
            exact ⟨by unfold spCode; rw [HF.out]; rfl, HH3.out.2.1⟩
      · clear H2
        rcases kN with kN | kN | kN
        all_goals
          clear H22
          subst kN
          go_wp2
          go_ret
          exact ⟨by unfold spCode; rw [HF.out]; rfl, HH3.out.2.1⟩
    · have k3 : (N2 == 3) = false := by simp; omega
      have k5 : (N2 == 5) = false := by simp; omega
      have k7 : (N2 == 7) = false := by simp; omega
      clear H2 kN H22
      go_wp2
      go_ret
      exact ⟨by unfold spCode; rw [HF.out]; rfl, HH3.out.2.1⟩
  have h2' := ok2_true h2
  rw [← hN2] at h2'
  obtain ⟨kN, k1, k2, k4⟩ := h2'
  have H2 := Lib.hid h2
  have k4b : decide ((hs.length : Int) ≤ 32) = true := by simp; omega
  have k4c : decide (hs.length ≤ 32) = true := by simp; omega
  have HNO := Lib.hid (show ∀ i, (h : i < hs.length) → headOk hs[i] = false → Sp.ok (f, fe, hs) = false from fun i h hno => sp_no2 (.inr (List.all_eq_false.2 ⟨hs[i], List.getElem_mem _, by rw [hno]; simp⟩)))
  have HYES := Lib.hid (show hs.all headOk = true → Sp.ok (f, fe, hs) = true from fun h => sp_yes h0 HB1.out.symm HB2.out.symm h2 h)
  have hS : SpRel w4 hs (.int .i64 0) w4 := ⟨0, Nat.zero_le _, rfl, Below.refl _ _, by simp⟩
  clear h2 hN2
  rcases kN with kN | kN | kN
  all_goals
    clear H22
    subst kN
    go_wp2_with fail
    clear k1 k2 k4b k4c c1 c2 c10
    go_loopw [72] (fun v wr => SpRel w4 hs v wr) (fun v _ => hs.length - (intOf v).toNat)
    case atStart => exact hS
    case round =>
      clear hS
      obtain ⟨i, hi, rfl, hBr, hall⟩ := hrel
      have HA := Lib.hid (And.intro hBr hall)
      clear hBr hall
      by_cases hlt : i < hs.length
      · obtain ⟨b, off, rfl, hc⟩ := (HH3.out.2.2.below HA.out.1) (by omega)
        obtain ⟨d1, d2⟩ := hc i hlt
        obtain ⟨x, y, hxy⟩ : ∃ x y, hs[i] = (x, y) := ⟨_, _, rfl⟩
        rw [hxy] at d1 d2
        rw [Nat.mul_comm] at d1
        rw [show off + (2 * i + 1) = off + i * 2 + 1 by omega] at d2
        have HXY := Lib.hid hxy
        clear hc hxy
        have hib : i < 65536 := by omega
        have hbz := (Below.refl wr.heap.size wr).alloc (Nat.le_refl _) (.cells #[.int .i64 x, .int .i64 y] 102)
        have hsz : (wr.alloc (.cells #[.int .i64 x, .int .i64 y] 102)).heap.size = wr.heap.size + 1 := World.size_alloc ..
        have hbl := Blk.new' (wr.alloc (.cells #[.int .i64 x, .int .i64 y] 102)) 3 #[.int .i64 x, .int .i64 y] hsz.symm
        have hb2 := hbz.alloc (by rw [hsz]; omega) (.cells #[.int .i64 x, .int .i64 y] 3)
        clear hsz hbz
        go_wp2_with (first
          | ((with_reducible show wpList _ _ _ ((⟨some 75, _, _, _, _, _⟩ : Oper) :: _) _ _); refine wpList_load_mid (o := ⟨some 75, _, _, _, _, _⟩) (range2 (b := b) (off := off + i * 2) (u := .int .i64 x) (v := .int .i64 y) (exact d1) (exact d2)) (by rfl) _ _ (by rfl) (by rfl) _ Try.underlying102 (by rfl) sizeHead (by rfl) ?_)
          | fail)
        generalize (wr.alloc (.cells #[.int .i64 x, .int .i64 y] 102)).alloc (.cells #[.int .i64 x, .int .i64 y] 3) = w7 at hbl hb2 ⊢
        refine (inside_blk 1073741824 [x, y] (wr.heap.size + 1) w7 hbl 2 rfl (by show 2 ≤ 1000; omega)).mono ?_
        rintro e w8 ⟨rfl, hw⟩
        obtain rfl := hw.symm
        clear hw hbl d1 d2
        have HB7 := Lib.hid (HA.out.1.trans (hb2.mono HA.out.1.size))
        clear hb2
        obtain ⟨q, hq⟩ : ∃ q, q = headOk (x, y) := ⟨_, rfl⟩
        rw [show [x, y].all (numIn 1073741824) = headOk (x, y) by unfold headOk; simp, ← hq]
        have HQ := Lib.hid hq
        clear hq
        cases q
        · have HF := Lib.hid (HNO.out i hlt (by rw [HXY.out]; exact HQ.out.symm))
          go_wp2
          go_ret
          exact ⟨by unfold spCode; rw [HF.out]; rfl, HH3.out.2.1.trans (HB7.out.mono HH3.out.2.1.size)⟩
        · go_wp2
          go_roundw
          case rel => exact ⟨i + 1, by omega, by go_num, HB7.out, by rw [List.take_succ_eq_append_getElem hlt, List.all_append, HA.out.2, Bool.true_and, HXY.out]; simp [← HQ.out]⟩
          case measure => simp [intOf]; omega
      · obtain rfl : i = hs.length := by omega
        have HF := Lib.hid (HYES.out (by have h := HA.out.2; rw [List.take_length] at h; exact h))
        clear hi hlt
        go_wp2
        go_ret
        exact ⟨by unfold spCode; rw [HF.out]; rfl, HH3.out.2.1.trans (HA.out.1.mono HH3.out.2.1.size)⟩
end Go.Proofs.Ytmhfehhpfkjloaa

/- A slice of ints that the call has built, and append to it. Plain facts over any program. Condition: at most 2^40 ints. -/
namespace Go
open Go.RowKit
def iv (x : Int) : Value := .int .i64 x
def OwnI (e : TypeId) (w : World) (base : Nat) (v : Value) (l sp : List Int) : Prop := OwnsC e 1 w base v l.length (l.map iv) (sp.map iv)
theorem iv_list {xs : List Value} (h : ∀ u ∈ xs, ∃ b, u = iv b) : ∃ l : List Int, xs = l.map iv := by
  induction xs with
  | nil => exact ⟨[], rfl⟩
  | cons x xs ih =>
    obtain ⟨b, rfl⟩ := h x (by simp)
    obtain ⟨l, rfl⟩ := ih fun u hu => h u (by simp [hu])
    exact ⟨b :: l, rfl⟩
theorem iv_one (l : List Int) : ∀ u ∈ l.map iv, u.oneCell' = true := by
  intro u hu; simp only [List.mem_map] at hu; obtain ⟨b, _, rfl⟩ := hu; rfl
section
variable {P : Program} {w : World}
theorem wp_append_ints {o : Oper} {a : Act} {K : Act → World → Prop} {Q : Exit → Act → World → Prop} (s x : Operand) (t : TypeId)
    (ho : o.op = .call { callee := .builtin .append, args := #[s, x], argTypes := #[t, t] })
    (base : Nat) (e : TypeId) (ht : P.underlying t = some (.slice e)) (hi : (P.info? e).map (fun i => (i.zero, i.size, i.bytes)) = some (some (.int .i64 0), 1, 8))
    (v : Value) (l sp : List Int) (hs : a.eval s = v) (hown : OwnI e w base v l sp)
    (A : Option Addr) (c : Nat) (m : List Int) (hx : a.eval x = .slice A m.length c) (hr : Reads w A (m.map iv)) (hlen : l.length + m.length ≤ 1099511627776) (hbase : base ≤ w.heap.size)
    (h : ∀ v' w' sp', OwnI e w' base v' (l ++ m) sp' → w.grownBy w' v.ownBlock → (v'.ownBlock = v.ownBlock ∨ v'.ownBlock = some w.heap.size) → (v' = .slice none 0 0 ↔ v = .slice none 0 0 ∧ m.length = 0) → K (a.put o.dst v') w') : o.wp P a w K Q := by
  refine wp_append_all s x t ho base e (.int .i64 0) 1 8 ht hi rfl (by omega) v l.length (l.map iv) (sp.map iv) hs hown A m.length c (m.map iv) hx (by simp) hr (iv_one m) (by simp only [maxLen]; omega) (by omega) hbase ?_
  intro v' w' sp' h1 h2 h3 h4 h5
  obtain ⟨q, rfl⟩ := iv_list (xs := sp') (fun u hu => by
    rcases h4 u hu with h | h
    · simp only [List.mem_map] at h; obtain ⟨b, _, rfl⟩ := h; exact ⟨b, rfl⟩
    · simp [Value.cells] at h; exact ⟨0, by rw [h]; rfl⟩)
  refine h v' w' q ?_ h2 h3 h5
  unfold OwnI
  rw [List.map_append, List.length_append]
  exact h1
theorem wpList_append_ints {ops : Array Oper} {rest : List Oper} {o : Oper} {a : Act} {Q : Exit → Act → World → Prop} (hgd : o.guard = none) (s x : Operand) (t : TypeId)
    (ho : o.op = .call { callee := .builtin .append, args := #[s, x], argTypes := #[t, t] })
    (base : Nat) (e : TypeId) (ht : P.underlying t = some (.slice e)) (hi : (P.info? e).map (fun i => (i.zero, i.size, i.bytes)) = some (some (.int .i64 0), 1, 8))
    (v : Value) (l sp : List Int) (hs : a.eval s = v) (hown : OwnI e w base v l sp)
    (A : Option Addr) (c : Nat) (m : List Int) (hx : a.eval x = .slice A m.length c) (hr : Reads w A (m.map iv)) (hlen : l.length + m.length ≤ 1099511627776) (hbase : base ≤ w.heap.size)
    (h : ∀ v' w' sp', OwnI e w' base v' (l ++ m) sp' → w.grownBy w' v.ownBlock → (v'.ownBlock = v.ownBlock ∨ v'.ownBlock = some w.heap.size) → (v' = .slice none 0 0 ↔ v = .slice none 0 0 ∧ m.length = 0) → wpList P ops Q rest (a.put o.dst v') w') : wpList P ops Q (o :: rest) a w :=
  wpList_plain hgd fun _ hK => wp_append_ints s x t ho base e ht hi v l sp hs hown A c m hx hr hlen hbase fun v' w' sp' h1 h2 h3 h4 => hK _ _ (h v' w' sp' h1 h2 h3 h4)
end
end Go

/- The bytes of a superblock while they are laid. Plain facts. No condition. -/
namespace Go.Proofs.Ytmhfehhpfkjloaa
/-- Sixteen noughts, the first j numbers, k bytes of the next, noughts. -/
def rawAt (l : List Int) (j k : Nat) : List UInt8 := List.replicate 16 0 ++ (fours' (l.take j) ++ ((le4 (l.getD j 0).toNat).take k ++ List.replicate (496 - 4 * j - k) 0))
theorem le4_len (n : Nat) : (le4 n).length = 4 := rfl
theorem rawAt_length (l : List Int) (j k : Nat) (hj : j ≤ l.length) (hk : k ≤ 4) (hl : 4 * j + k ≤ 496) : (rawAt l j k).length = 512 := by
  unfold rawAt
  rw [List.length_append, List.length_append, List.length_append, List.length_replicate, List.length_replicate, fours'_length, List.length_take, List.length_take, le4_len]
  omega
theorem rawAt_zero (l : List Int) : rawAt l 0 0 = List.replicate 512 0 := by
  unfold rawAt fours'
  simp only [List.take_zero, List.flatMap_nil, List.nil_append]
  rw [List.replicate_append_replicate]
theorem rawAt_next (l : List Int) (j : Nat) (hj : j < l.length) (hl : 4 * (j + 1) ≤ 496) : rawAt l j 4 = rawAt l (j + 1) 0 := by
  unfold rawAt
  have h1 : fours' (l.take (j + 1)) = fours' (l.take j) ++ le4 (l.getD j 0).toNat := by
    unfold fours'
    rw [List.take_succ_eq_append_getElem hj, List.flatMap_append, List.getD_eq_getElem?_getD, List.getElem?_eq_getElem hj]; simp
  rw [h1, show (le4 (l.getD j 0).toNat).take 4 = le4 (l.getD j 0).toNat from rfl, List.take_zero, List.nil_append, List.append_assoc, show 496 - 4 * (j + 1) - 0 = 496 - 4 * j - 4 by omega]
theorem rawAt_set (l : List Int) (j k : Nat) (hj : j ≤ l.length) (hk : k < 4) (hl : 4 * j + k < 496) : (rawAt l j k).set (16 + 4 * j + k) ((le4 (l.getD j 0).toNat)[k]'(by rw [le4_len]; exact hk)) = rawAt l j (k + 1) := by
  unfold rawAt
  have hF : (fours' (l.take j)).length = 4 * j := by rw [fours'_length, List.length_take]; omega
  have hT : ((le4 (l.getD j 0).toNat).take k).length = k := by rw [List.length_take, le4_len]; omega
  rw [List.set_append_right _ _ (by rw [List.length_replicate]; omega), List.length_replicate, List.set_append_right _ _ (by rw [hF]; omega), hF, List.set_append_right _ _ (by rw [hT]; omega), hT]
  rw [show 16 + 4 * j + k - 16 - 4 * j - k = 0 by omega]
  obtain ⟨m, hm⟩ : ∃ m, 496 - 4 * j - k = m + 1 := ⟨496 - 4 * j - k - 1, by omega⟩
  rw [hm, List.replicate_succ (n := m), List.set_cons_zero, List.take_succ_eq_append_getElem (by rw [le4_len]; exact hk), List.append_assoc, show 496 - 4 * j - (k + 1) = m by omega]
  rfl
theorem rawAt_end (s : SpT) : rawAt (Sp.nums s) (Sp.nums s).length 0 = List.replicate 16 0 ++ Sp.rest s := by
  unfold rawAt Sp.rest
  rw [List.take_length, List.take_zero, List.nil_append, Nat.sub_zero]
end Go.Proofs.Ytmhfehhpfkjloaa

/- Four bytes of a number laid at a place of a list. Plain facts. -/
namespace Go.Proofs.Ytmhfehhpfkjloaa
open Go.RowKit
def put4 (L : List UInt8) (off n : Nat) : List UInt8 := L.take off ++ (le4 n ++ L.drop (off + 4))
def put4r (L : List UInt8) (off n j : Nat) : List UInt8 := L.take off ++ ((le4 n).take j ++ L.drop (off + j))
theorem put4r_zero (L : List UInt8) (off n : Nat) : put4r L off n 0 = L := by unfold put4r; simp
theorem put4r_four (L : List UInt8) (off n : Nat) : put4r L off n 4 = put4 L off n := rfl
theorem put4r_length (L : List UInt8) (off n j : Nat) (h : off + 4 ≤ L.length) (hj : j ≤ 4) : (put4r L off n j).length = L.length := by
  unfold put4r; rw [List.length_append, List.length_append, List.length_take, List.length_take, List.length_drop, le4_length]; omega
theorem put4_length (L : List UInt8) (off n : Nat) (h : off + 4 ≤ L.length) : (put4 L off n).length = L.length := put4r_length L off n 4 h (Nat.le_refl _)
theorem put4r_set (L : List UInt8) (off n j : Nat) (h : off + 4 ≤ L.length) (hj : j < 4) (b : UInt8) (hb : b = (le4 n).getD j 0) :
    ((put4r L off n j).map u8v).toArray.setIfInBounds (off + j) (.int .u8 (iu8 b)) = ((put4r L off n (j + 1)).map u8v).toArray := by
  apply Array.ext'
  simp only [List.setIfInBounds_toArray]
  have e : Value.int .u8 (iu8 b) = u8v b := rfl
  rw [e, ← List.map_set]
  congr 1
  subst hb
  unfold put4r
  have h1 : (L.take off).length = off := by rw [List.length_take]; omega
  rw [List.set_append_right _ _ (by omega), h1, Nat.add_sub_cancel_left]
  congr 1
  have h2 : ((le4 n).take j).length = j := by rw [List.length_take, le4_length]; omega
  rw [List.set_append_right _ _ (by omega), h2, Nat.sub_self]
  have hd : L.drop (off + j) = L[off + j]'(by omega) :: L.drop (off + (j + 1)) := by
    rw [List.drop_eq_getElem_cons (by omega)]; rfl
  rw [hd, List.set_cons_zero]
  have ht : (le4 n).take (j + 1) = (le4 n).take j ++ [(le4 n).getD j 0] := by
    rw [List.take_succ_eq_append_getElem (by rw [le4_length]; omega)]
    congr 2
    simp [List.getD, show j < (le4 n).length by rw [le4_length]; omega]
  rw [ht]; simp
theorem le4_v0 (n : Nat) : (n : Int) % 256 = iu8 ((le4 n).getD 0 0) := by show _ = iu8 (UInt8.ofNat (n % 256)); rw [iu8_ofNat_mod]
theorem le4_v1 (n : Nat) : (n : Int) / 256 % 256 = iu8 ((le4 n).getD 1 0) := by show _ = iu8 (UInt8.ofNat (n / 256 % 256)); rw [iu8_ofNat_mod]; omega
theorem le4_v2 (n : Nat) : (n : Int) / 65536 % 256 = iu8 ((le4 n).getD 2 0) := by show _ = iu8 (UInt8.ofNat (n / 65536 % 256)); rw [iu8_ofNat_mod]; omega
theorem le4_v3 (n : Nat) (h : n < 4294967296) : (n : Int) / 16777216 = iu8 ((le4 n).getD 3 0) := by show _ = iu8 (UInt8.ofNat (n / 16777216 % 256)); rw [iu8_ofNat_mod]; omega
theorem u8_lit (n : Nat) (h : n < 256) : (n : Int) = iu8 (UInt8.ofNat n) := (iu8_ofNat n h).symm
end Go.Proofs.Ytmhfehhpfkjloaa

/- A store of a whole struct or array into the middle of an own block. Plain facts over any program. Condition: the block is long enough. -/
namespace Go
open Go.RowKit
def setAll (cs : Array Value) : Nat → List Value → Array Value
  | _, [] => cs
  | o, v :: r => setAll (cs.setIfInBounds o v) (o + 1) r
theorem Blk.setCells {g : Nat} {t : TypeId} : ∀ (vs : List Value) (o : Nat) (w : World) (cs : Array Value), Blk w g t cs → Blk (w.setCells g o vs) g t (setAll cs o vs)
  | [], _, _, _, h => h
  | v :: r, o, _, _, h => Blk.setCells r (o + 1) _ _ (h.set_ o v)
theorem Upd.setCells {g : Nat} {w0 : World} : ∀ (vs : List Value) (o : Nat) (w : World), Upd g w0 w → Upd g w0 (w.setCells g o vs)
  | [], _, _, h => h
  | v :: r, o, _, h => Upd.setCells r (o + 1) _ (h.set o v)
theorem wpList_store_in {P : Program} {w : World} {Q : Exit → Act → World → Prop} {ops : Array Oper} {rest : List Oper} {o : Oper} {a : Act} {g : Nat} {t : TypeId} {cs : Array Value} (hb : Blk w g t cs) (hgd : o.guard = none) (ty : TypeId) (x y : Operand) (ho : o.op = .store ty x y)
    (k : Nat) (hx : a.eval x = .pointer (some ⟨g, k, none⟩)) (vs : Array Value) (hy : a.eval y = .agg vs) {n : Nat} (hi : (P.info? ty).map (·.size) = some n) (hs : vs.size = n) (hk : k + n ≤ cs.size) (h1 : vs.all (·.oneCell') = true)
    (h : ∀ w', Blk w' g t (setAll cs k vs.toList) → Upd g w w' → wpList P ops Q rest (a.put o.dst undef) w') : wpList P ops Q (o :: rest) a w :=
  wpList_store_mid hgd ty x y ho g k vs hx hy (fun j hj => ⟨by rw [hb.cell, Array.getElem?_eq_getElem (by omega)]; rfl, hb.frozen _⟩) (by rw [hs]; exact hi) h1
    (h _ (Blk.setCells vs.toList k w cs hb) (Upd.setCells vs.toList k w (Upd.refl g w)))
end Go

/- A disk's bytes as one list, sector behind sector; bytes written over a part of them. Plain facts. No condition. -/
namespace Go
/-- The bytes b, written from the place p on. -/
def wr (L : List UInt8) (p : Nat) (b : List UInt8) : List UInt8 := L.take p ++ (b ++ L.drop (p + b.length))
theorem wr_length {L b : List UInt8} {p : Nat} (h : p + b.length ≤ L.length) : (wr L p b).length = L.length := by
  unfold wr; rw [List.length_append, List.length_append, List.length_take, List.length_drop]; omega
theorem wr_nil (L : List UInt8) (p : Nat) : wr L p [] = L := by unfold wr; rw [List.nil_append, List.length_nil, Nat.add_zero, List.take_append_drop]
theorem wr_take {L b : List UInt8} {p : Nat} (h : p ≤ L.length) : (wr L p b).take p = L.take p := by
  have hl : (L.take p).length = p := by rw [List.length_take]; omega
  unfold wr
  rw [List.take_append_of_le_length (by omega), List.take_take, Nat.min_self]
theorem wr_drop {L b : List UInt8} {p : Nat} (h : p ≤ L.length) (k : Nat) : (wr L p b).drop (p + b.length + k) = L.drop (p + b.length + k) := by
  have hl : (L.take p ++ b).length = p + b.length := by rw [List.length_append, List.length_take]; omega
  unfold wr
  rw [← List.append_assoc, ← List.drop_drop, List.drop_left' hl, List.drop_drop]
theorem wr_mid {L b : List UInt8} {p : Nat} (h : p ≤ L.length) : ((wr L p b).drop p).take b.length = b := by
  have hl : (L.take p).length = p := by rw [List.length_take]; omega
  unfold wr
  rw [show (L.take p ++ (b ++ L.drop (p + b.length))).drop p = b ++ L.drop (p + b.length) by
    have e := List.drop_left (l₁ := L.take p) (l₂ := b ++ L.drop (p + b.length)); rw [hl] at e; exact e, List.take_left]
theorem wr_wr {L a b : List UInt8} {p : Nat} (h : p + a.length + b.length ≤ L.length) : wr (wr L p a) (p + a.length) b = wr L p (a ++ b) := by
  have hp : p ≤ L.length := by omega
  have hl : (L.take p).length = p := by rw [List.length_take]; omega
  have h1 : (wr L p a).take (p + a.length) = L.take p ++ a := by
    unfold wr
    rw [← List.append_assoc, List.take_append_of_le_length (by rw [List.length_append]; omega), List.take_of_length_le (by rw [List.length_append]; omega)]
  have h2 : (wr L p a).drop (p + a.length + b.length) = L.drop (p + a.length + b.length) := wr_drop hp b.length
  show (wr L p a).take (p + a.length) ++ (b ++ (wr L p a).drop (p + a.length + b.length)) = L.take p ++ ((a ++ b) ++ L.drop (p + (a ++ b).length))
  rw [h1, h2, List.length_append, List.append_assoc, List.append_assoc, Nat.add_assoc]
theorem wr_set {L : List UInt8} {p : Nat} {x : UInt8} {r : List UInt8} (h : p < L.length) : wr (L.set p x) (p + 1) r = wr L p (x :: r) := by
  have hl : (L.take p ++ [x]).length = p + 1 := by rw [List.length_append, List.length_take]; simp; omega
  have e : L.set p x = (L.take p ++ [x]) ++ L.drop (p + 1) := by rw [List.set_eq_take_append_cons_drop, if_pos h]; simp
  unfold wr
  rw [e, List.take_left' hl, ← List.drop_drop, List.drop_left' hl, List.drop_drop, List.length_cons, List.append_assoc, show p + 1 + r.length = p + (r.length + 1) by omega]
  rfl
theorem setAll_wr : ∀ (b L : List UInt8) (p : Nat), p + b.length ≤ L.length → setAll (L.map u8v).toArray p (b.map u8v) = ((wr L p b).map u8v).toArray
  | [], L, p, _ => by rw [wr_nil]; rfl
  | x :: r, L, p, h => by
    rw [List.length_cons] at h
    rw [List.map_cons]
    show setAll ((L.map u8v).toArray.setIfInBounds p (u8v x)) (p + 1) (r.map u8v) = _
    have e : (L.map u8v).toArray.setIfInBounds p (u8v x) = ((L.set p x).map u8v).toArray := by simp [List.map_set]
    rw [e, setAll_wr r (L.set p x) (p + 1) (by rw [List.length_set]; omega), wr_set (by omega)]
end Go

/- make of a list of sectors of noughts, and of a map. Plain facts over any program. Conditions: as many as the memory holds. -/
namespace Go
open Go.RowKit
theorem madeCells_noughts (Z : Array Value) (hz : ∀ i, i < Z.size → Z[i]? = some (.int .u8 0)) (h0 : 0 < Z.size) (m : Nat) : madeCells Z m = ((List.replicate m (0 : UInt8)).map u8v).toArray := by
  unfold madeCells
  apply Array.ext_getElem?
  intro j
  by_cases hj : j < m
  · have h1 := hz (j % Z.size) (Nat.mod_lt _ h0)
    have h2 : Z[j % Z.size]! = .int .u8 0 := by rw [getElem!_def, h1]
    simp only [Array.getElem?_map, Array.getElem?_range, hj, if_true, Option.map_some, h2, List.getElem?_toArray, List.getElem?_map, List.getElem?_replicate]
    rfl
  · simp [hj]
theorem wpList_make_rows {P : Program} (w : World) {ops : Array Oper} {rest : List Oper} {o : Oper} {a : Act} {Q : Exit → Act → World → Prop}
    (hg : o.guard = none) (l c : Operand) (t : TypeId) (hop : o.op = Op.makeSlice t l c) (e : TypeId) (h1 : P.underlying t = some (.slice e)) (Z : Array Value) (s : Nat) (h2 : (P.info? e).map (fun i => (i.zero, i.size, i.bytes)) = some (some (.agg Z), s, s))
    (hZs : Z.size = s) (h0 : 0 < s) (hz : ∀ i, i < Z.size → Z[i]? = some (.int .u8 0)) (kl kc : IntKind) (n : Nat) (hl : a.eval l = .int kl (n : Int)) (hc : a.eval c = .int kc (n : Int)) (hm : s * n ≤ 140737488400000)
    (hK : ∀ w', Blk w' w.heap.size e ((List.replicate (n * s) (0 : UInt8)).map u8v).toArray → Below w.heap.size w w' → w'.heap.size = w.heap.size + 1 → wpList P ops Q rest (a.put o.dst (.slice (some ⟨w.heap.size, 0, none⟩) n n)) w') :
    wpList P ops Q (o :: rest) a w := by
  obtain ⟨i, hi, hzz⟩ := Option.map_eq_some_iff.1 h2
  simp only [Prod.mk.injEq] at hzz
  obtain ⟨hz1, hs, hb⟩ := hzz
  have hns : n ≤ s * n := Nat.le_mul_of_pos_left n h0
  have hr := run_make (P := P) w t e i _ h1 hi hz1 kl kc n n (by omega) (by omega) (by rw [hb, ← Int.natCast_mul]; omega) (by omega)
  rw [Int.toNat_natCast, hs, show (Value.agg Z).cells = Z from rfl, madeCells_noughts Z hz (by omega)] at hr
  refine wpList_plain hg fun K hK' => ?_
  unfold Oper.wp
  simp only [execOp, hop, hl, hc, hr, Sem.run_bind, Result.andThen_ok, Sem.run_pure]
  exact hK' _ _ (hK _ (Blk.new w e _) ((Below.refl _ _).alloc (Nat.le_refl _) _) (by simp))
theorem wpList_make_map {P : Program} (w : World) {ops : Array Oper} {rest : List Oper} {o : Oper} {a : Act} {Q : Exit → Act → World → Prop} (hg : o.guard = none) (t : TypeId) (hop : o.op = Op.makeMap t none)
    (h : ∀ w', MapB w' w.heap.size #[] 0 → Below w.heap.size w w' → w'.heap.size = w.heap.size + 1 → wpList P ops Q rest (a.put o.dst (.map (some w.heap.size))) w') : wpList P ops Q (o :: rest) a w := by
  have hr : (Instr.makeMap t none).run P w = .ok (.map (some w.heap.size)) (w.alloc (.map #[] 0)) := by
    simp [Instr.makeMap, newObj, Sem.run, Result.andThen]
  refine wpList_plain hg fun K hK => ?_
  unfold Oper.wp
  simp only [execOp, hop, Option.map_none, hr, Sem.run_bind, Result.andThen_ok, Sem.run_pure]
  exact hK _ _ (h _ (MapB.new w _ _) ((Below.refl _ _).alloc (Nat.le_refl _) _) (by simp))
end Go

/- What a call hands back whose first result lies in a block; reads over an Upd step. Plain facts over any program. No condition. -/
namespace Go
open Go.RowKit
theorem Bytes.range {w : World} {b off : Nat} {l : List UInt8} (h : Bytes w (some ⟨b, off, none⟩) l) : w.rangeAt b off (l.map u8v) := fun j v hv => by
  have hne : l.map u8v ≠ [] := by intro e; rw [e] at hv; simp at hv
  obtain ⟨b', off', e, hc⟩ := h hne
  simp only [Option.some.injEq, Addr.mk.injEq, and_true] at e
  rw [e.1, e.2]; exact hc j v hv
theorem Upd.cell {g : Nat} {w w' : World} (u : Upd g w w') {p : Addr} (hp : p.block ≠ g) : w'.cell? p = w.cell? p := by
  unfold World.cell?
  rw [u.block p.block hp]
theorem Reads.upd {g : Nat} {w w' : World} {A : Option Addr} {xs : List Value} (h : Reads w A xs) (u : Upd g w w') (hA : ∀ ad, A = some ad → ad.block ≠ g) : Reads w' A xs := fun hn => by
  obtain ⟨b, off, rfl, hc⟩ := h hn
  exact ⟨b, off, rfl, fun j v hv => (u.cell (p := ⟨b, off + j, none⟩) (hA ⟨b, off, none⟩ rfl)).trans (hc j v hv)⟩
theorem results_row_tmp {P : Program} {fn : Func} {p q : Tmp} {ty : TypeId} (h : fn.results = #[.cell p ty, .tmp q]) (tmps : Array Value) (w : World) (g : Nat) (t : TypeId) (cs : Array Value) (d : TypeDesc)
    (hp : tmps.getD p undef = .pointer (some ⟨g, 0, none⟩)) (hg : Blk w g t cs)
    (hu : P.underlying ty = some d) (hd : (match d with | .struct _ | .array _ _ => true | _ => false) = true) (hi : (P.info? ty).map (·.size) = some cs.size) :
    (results fn tmps).run P w = .ok (.tuple #[.agg cs, tmps.getD q undef]) w := by
  have hp' : tmps[p]?.getD undef = .pointer (some ⟨g, 0, none⟩) := by simpa using hp
  simp [results, h, hp', asAddr, run_loadVar_row w g t ty cs (0, 0) d hg hu hd hi]
end Go

/- A disk as the program keeps it; is it none, is it out, is it ready, how many sectors has it, is it up. Conditions: the disk is one that was made, or none. -/
namespace Go.Proofs.Ytmhfehhpfkjloaa
open Go.RowKit
/-- A disk's own block: its sectors' bytes in gl, its loose sectors in gm, is it out, its fuse, its changes. -/
def dkc (gl gm N : Nat) (out : Bool) (fz : Option Nat) (ops : Int) : Array Value := #[.slice (some ⟨gl, 0, none⟩) N N, .map (some gm), .bool out, .pointer (fz.map fun g => ⟨g, 0, none⟩), .int .i64 ops]
def DiskB (w : World) (gd gl gm N : Nat) (L : List UInt8) (es : Array MapEntry) (c : Nat) (out : Bool) (fz : Option Nat) (ops : Int) : Prop :=
  Blk w gd 32 (dkc gl gm N out fz ops) ∧ Blk w gl 113 (L.map u8v).toArray ∧ MapB w gm es c
def FuseB (w : World) (gf : Nat) (left : Int) (gone : Bool) : Prop := Blk w gf 121 #[.int .i64 left, .bool gone]
def noDisk : Array Value := #[.slice none 0 0, .map none, .bool false, .pointer none, .int .i64 0]
theorem DiskB.below {w w' : World} {gd gl gm N : Nat} {L : List UInt8} {es : Array MapEntry} {c : Nat} {out : Bool} {fz : Option Nat} {ops : Int} (h : DiskB w gd gl gm N L es c out fz ops) (hb : Below w.heap.size w w') : DiskB w' gd gl gm N L es c out fz ops :=
  ⟨h.1.below hb h.1.lt, h.2.1.below hb h.2.1.lt, h.2.2.below hb h.2.2.lt⟩
instance {w w' : World} {gd gl gm N : Nat} {L : List UInt8} {es : Array MapEntry} {c : Nat} {out : Bool} {fz : Option Nat} {ops : Int} : KeepsTo w w' (DiskB w gd gl gm N L es c out fz ops) (DiskB w' gd gl gm N L es c out fz ops) := ⟨fun hb h => h.below hb⟩
theorem FuseB.below {w w' : World} {gf : Nat} {left : Int} {gone : Bool} (h : FuseB w gf left gone) (hb : Below w.heap.size w w') : FuseB w' gf left gone := Blk.below (h : Blk w gf 121 _) hb h.lt
instance {w w' : World} {gf : Nat} {left : Int} {gone : Bool} : KeepsTo w w' (FuseB w gf left gone) (FuseB w' gf left gone) := ⟨fun hb h => h.below hb⟩
theorem eqlNil (w : World) : (binOp .eql 28 (.slice none 0 0) (.slice none 0 0)).run Try.prog w = .ok (.bool true) w := by kernel_rfl
theorem eqlSome (g N : Nat) (w : World) : (binOp .eql 28 (.slice (some ⟨g, 0, none⟩) N N) (.slice none 0 0)).run Try.prog w = .ok (.bool false) w := by kernel_rfl
theorem none_nil (w : World) : Calls Try.prog 68 #[.pointer none] w fun e w' => e = .returned (.bool true) ∧ w' = w := by
  go_enter Try.func68, Try.ntmps68
  go_wp2
  go_ret
  exact ⟨rfl, rfl⟩
set_option maxRecDepth 100000 in
theorem none_zero (g : Nat) (w : World) (h : Blk w g 32 noDisk) : Calls Try.prog 68 #[.pointer (some ⟨g, 0, none⟩)] w fun e w' => e = .returned (.bool true) ∧ w' = w := by
  have d0 := h.at_ 0 (v := .slice none 0 0) rfl
  have he := eqlNil
  clear h
  go_enter Try.func68, Try.ntmps68
  go_wp2
  go_ret
  exact ⟨rfl, rfl⟩
section
variable {gd gl gm N c : Nat} {L : List UInt8} {es : Array MapEntry} {out : Bool} {fz : Option Nat} {ops : Int}
set_option maxRecDepth 100000 in
theorem none_made (w : World) (h : DiskB w gd gl gm N L es c out fz ops) : Calls Try.prog 68 #[.pointer (some ⟨gd, 0, none⟩)] w fun e w' => e = .returned (.bool false) ∧ w' = w := by
  have d0 := h.1.at_ 0 (v := .slice (some ⟨gl, 0, none⟩) N N) rfl
  have he := eqlSome gl N
  clear h
  go_enter Try.func68, Try.ntmps68
  go_wp2
  go_ret
  exact ⟨rfl, rfl⟩
/-- Is a disk out, its fuse being so? -/
def isOutV (out : Bool) (fz : Option (Nat × Int × Bool)) : Bool := out || (match fz with | none => false | some f => f.2.2)
set_option maxRecDepth 100000 in
theorem isOut_none (w : World) (h : DiskB w gd gl gm N L es c out none ops) : Calls Try.prog 75 #[.pointer (some ⟨gd, 0, none⟩)] w fun e w' => e = .returned (.bool out) ∧ w' = w := by
  have d2 := h.1.at_ 2 (v := .bool out) rfl
  have d3 := h.1.at_ 3 (v := .pointer none) rfl
  clear h
  cases out
  all_goals
    go_enter Try.func75, Try.ntmps75
    go_wp2
    go_ret
    exact ⟨rfl, rfl⟩
set_option maxRecDepth 100000 in
theorem isOut_some (gf : Nat) (left : Int) (gone : Bool) (w : World) (h : DiskB w gd gl gm N L es c out (some gf) ops) (hf : FuseB w gf left gone) : Calls Try.prog 75 #[.pointer (some ⟨gd, 0, none⟩)] w fun e w' => e = .returned (.bool (out || gone)) ∧ w' = w := by
  have d2 := h.1.at_ 2 (v := .bool out) rfl
  have d3 := h.1.at_ 3 (v := .pointer (some ⟨gf, 0, none⟩)) rfl
  have d1 := Blk.at_ (hf : Blk w gf _ _) 1 (v := .bool gone) rfl
  clear h hf
  cases out
  all_goals
    go_enter Try.func75, Try.ntmps75
    go_wp2
    go_ret
    exact ⟨rfl, rfl⟩
end
end Go.Proofs.Ytmhfehhpfkjloaa

/- A disk is made; is it ready, how many sectors has it, is it up. Conditions: the disk is one that was made, or none. -/
namespace Go.Proofs.Ytmhfehhpfkjloaa
open Go.RowKit
def zeroSec : Array Value := arr 256 fun _ => .int .u8 0
theorem infoSec : (Try.prog.info? 113).map (fun i => (i.zero, i.size, i.bytes)) = some (some (.agg zeroSec), 256, 256) := by kernel_rfl
theorem zeroSec_size : zeroSec.size = 256 := arr_size _ _
theorem zeroSec_at (i : Nat) (h : i < zeroSec.size) : zeroSec[i]? = some (.int .u8 0) := arr_at _ (by rw [zeroSec_size] at h; exact h)
theorem new_no (n : Int) (h : n < 1 ∨ 65536 < n) (w : World) : Calls Try.prog 29 #[.int .i64 n] w fun e w' => e = .returned (.tuple #[.pointer none, .int .i64 5]) ∧ w' = w := by
  by_cases h1 : n < 1
  · go_enter Try.func29, Try.ntmps29
    go_wp2
    go_ret2
    exact ⟨rfl, rfl⟩
  · have h2 : 65536 < n := by omega
    clear h
    go_enter Try.func29, Try.ntmps29
    go_wp2
    go_ret2
    exact ⟨rfl, rfl⟩
set_option maxHeartbeats 1000000 in
theorem new_any (N : Nat) (h : 1 ≤ N ∧ N ≤ 65536) (w : World) : Calls Try.prog 29 #[.int .i64 (N : Int)] w fun e w' => ∃ gd gl gm, e = .returned (.tuple #[.pointer (some ⟨gd, 0, none⟩), .int .i64 0]) ∧
      DiskB w' gd gl gm N (List.replicate (N * 256) 0) #[] 0 false none 0 ∧ (w.heap.size ≤ gd ∧ w.heap.size ≤ gl ∧ w.heap.size ≤ gm ∧ gd ≠ gl ∧ gd ≠ gm ∧ gl ≠ gm) ∧ Below w.heap.size w w' := by
  have h1 : decide ((N : Int) < 1) = false := by rw [decide_eq_false_iff_not]; omega
  have h2 : decide ((N : Int) > 65536) = false := by rw [decide_eq_false_iff_not]; omega
  have HN := Lib.hid h
  clear h
  go_enter Try.func29, Try.ntmps29
  go_wp2_with (first
    | ((with_reducible show wpList _ _ _ ((⟨some 11, _, _, _, _, _⟩ : Oper) :: _) _ _); refine wpList_make_rows (o := ⟨some 11, _, _, _, _, _⟩) _ (by rfl) _ _ _ (by rfl) _ Try.underlying28 zeroSec 256 infoSec zeroSec_size (by omega) zeroSec_at .i64 .i64 N (by rfl) (by rfl) (by have := HN.out; omega) ?_; intro w1 hl1 hb1 hs1; clear hs1)
    | ((with_reducible show wpList _ _ _ ((⟨some 12, _, _, _, _, _⟩ : Oper) :: _) _ _); refine wpList_make_map (o := ⟨some 12, _, _, _, _, _⟩) _ (by rfl) _ (by rfl) ?_; intro w2 hm2 hb2 hs2; clear hs2)
    | fail)
  have hl2 := hl1.below hb2 hl1.lt
  have hgd := Blk.new w2 32 (dkc w.heap.size w1.heap.size N false none 0)
  have hbx := (Below.refl w2.heap.size w2).alloc (Nat.le_refl _) (.cells (dkc w.heap.size w1.heap.size N false none 0) 32)
  have hl3 := hl2.below hbx hl2.lt
  have hm3 := hm2.below hbx hm2.lt
  have hB := (hb1.trans (hb2.mono hb1.size)).trans (hbx.mono (by have := hb1.size; have := hb2.size; omega))
  go_ret2
  exact ⟨w2.heap.size, w.heap.size, w1.heap.size, rfl, ⟨hgd, hl3, hm3⟩, by have := hl1.lt; have := hm2.lt; omega, hB⟩
section
variable {gd gl gm N c : Nat} {L : List UInt8} {es : Array MapEntry} {out : Bool} {fz : Option Nat} {ops : Int}
theorem ready_nil (w : World) : Calls Try.prog 69 #[.pointer none] w fun e w' => e = .returned (.int .i64 1) ∧ w' = w := by
  go_enter Try.func69, Try.ntmps69
  go_wp2_with fail
  refine (none_nil w).mono ?_
  rintro e w1 ⟨rfl, rfl⟩
  go_wp2
  go_ret
  exact ⟨rfl, rfl⟩
theorem ready_zero (g : Nat) (w : World) (h : Blk w g 32 noDisk) : Calls Try.prog 69 #[.pointer (some ⟨g, 0, none⟩)] w fun e w' => e = .returned (.int .i64 1) ∧ w' = w := by
  go_enter Try.func69, Try.ntmps69
  go_wp2_with fail
  refine (none_zero g w h).mono ?_
  rintro e w1 ⟨rfl, rfl⟩
  clear h
  go_wp2
  go_ret
  exact ⟨rfl, rfl⟩
theorem ready_made (w : World) (q : Bool) (hq : ∀ w', w' = w → Calls Try.prog 75 #[.pointer (some ⟨gd, 0, none⟩)] w' fun e w'' => e = .returned (.bool q) ∧ w'' = w') (h : DiskB w gd gl gm N L es c out fz ops) :
    Calls Try.prog 69 #[.pointer (some ⟨gd, 0, none⟩)] w fun e w' => e = .returned (.int .i64 (if q = true then 11 else 0)) ∧ w' = w := by
  go_enter Try.func69, Try.ntmps69
  go_wp2_with fail
  refine (none_made w h).mono ?_
  rintro e w1 ⟨rfl, rfl⟩
  clear h
  go_wp2_with fail
  refine (hq _ rfl).mono ?_
  rintro e w2 ⟨rfl, rfl⟩
  clear hq
  cases q
  all_goals
    go_wp2
    go_ret
    exact ⟨rfl, rfl⟩
theorem ready_up (w : World) (h : DiskB w gd gl gm N L es c false none ops) : Calls Try.prog 69 #[.pointer (some ⟨gd, 0, none⟩)] w fun e w' => e = .returned (.int .i64 0) ∧ w' = w :=
  ready_made w false (fun w' hw => by rw [hw]; exact isOut_none w h) h
set_option maxRecDepth 100000 in
theorem sectors_made (w : World) (h : DiskB w gd gl gm N L es c out fz ops) : Calls Try.prog 52 #[.pointer (some ⟨gd, 0, none⟩)] w fun e w' => e = .returned (.int .i64 (N : Int)) ∧ w' = w := by
  have d0 := h.1.at_ 0 (v := .slice (some ⟨gl, 0, none⟩) N N) rfl
  go_enter Try.func52, Try.ntmps52
  go_wp2_with fail
  refine (none_made w h).mono ?_
  rintro e w1 ⟨rfl, rfl⟩
  clear h
  go_wp2
  go_ret
  exact ⟨rfl, rfl⟩
theorem sectors_nil (w : World) : Calls Try.prog 52 #[.pointer none] w fun e w' => e = .returned (.int .i64 0) ∧ w' = w := by
  go_enter Try.func52, Try.ntmps52
  go_wp2_with fail
  refine (none_nil w).mono ?_
  rintro e w1 ⟨rfl, rfl⟩
  go_wp2
  go_ret
  exact ⟨rfl, rfl⟩
theorem sectors_zero (g : Nat) (w : World) (h : Blk w g 32 noDisk) : Calls Try.prog 52 #[.pointer (some ⟨g, 0, none⟩)] w fun e w' => e = .returned (.int .i64 0) ∧ w' = w := by
  go_enter Try.func52, Try.ntmps52
  go_wp2_with fail
  refine (none_zero g w h).mono ?_
  rintro e w1 ⟨rfl, rfl⟩
  clear h
  go_wp2
  go_ret
  exact ⟨rfl, rfl⟩
theorem up_made (w : World) (q : Bool) (hq : ∀ w', w' = w → Calls Try.prog 75 #[.pointer (some ⟨gd, 0, none⟩)] w' fun e w'' => e = .returned (.bool q) ∧ w'' = w') (h : DiskB w gd gl gm N L es c out fz ops) :
    Calls Try.prog 44 #[.pointer (some ⟨gd, 0, none⟩)] w fun e w' => e = .returned (.bool (!q)) ∧ w' = w := by
  go_enter Try.func44, Try.ntmps44
  go_wp2_with fail
  refine (none_made w h).mono ?_
  rintro e w1 ⟨rfl, rfl⟩
  clear h
  go_wp2_with fail
  refine (hq _ rfl).mono ?_
  rintro e w2 ⟨rfl, rfl⟩
  clear hq
  go_wp2
  go_ret
  exact ⟨rfl, rfl⟩
end
end Go.Proofs.Ytmhfehhpfkjloaa

/- A change of a disk that is up, without a fuse: what is to be done is done, and counted. Conditions: the changes are fewer than 10^9; what is to be done keeps to its contract. -/
namespace Go.Proofs.Ytmhfehhpfkjloaa
open Go.RowKit
section
variable {gd gl gm N c : Nat} {L : List UInt8} {es : Array MapEntry} {out : Bool} {fz : Option Nat} {ops : Int}
theorem DiskB.ops_ {w : World} (h : DiskB w gd gl gm N L es c out fz ops) (hne : gd ≠ gl ∧ gd ≠ gm) (x : Int) : DiskB (w.setCell ⟨gd, 4, none⟩ (.int .i64 x)) gd gl gm N L es c out fz x :=
  ⟨(h.1.set_ 4 (.int .i64 x)).sub rfl, h.2.1.off (fun e => hne.1 e.symm) _, h.2.2.upd ((Upd.refl gd w).set 4 _) (fun e => hne.2 e.symm)⟩
set_option maxRecDepth 100000 in
set_option maxHeartbeats 1000000 in
theorem change_up (w : World) (h : DiskB w gd gl gm N L es c out none ops) (hne : gd ≠ gl ∧ gd ≠ gm) (hops : 0 ≤ ops ∧ ops < 1000000000) (k : Nat) (caps : Array Value) (Q : World → Prop) (hcall : ∀ (args : Array Value) (w : World), (callFunc k args).run Try.prog w = .ok (.enter k args) w)
    (hk : ∀ w', DiskB w' gd gl gm N L es c out none (ops + 1) → Upd gd w w' → Calls Try.prog k caps w' fun e w'' => e = .returned (.tuple #[]) ∧ Q w'') :
    Calls Try.prog 71 #[.pointer (some ⟨gd, 0, none⟩), .func (.func k) #[] caps] w fun e w' => e = .returned (.int .i64 0) ∧ Q w' := by
  have d3 := h.1.at_ 3 (v := .pointer none) rfl
  have d4 := h.1.at_ 4 (v := .int .i64 ops) rfl
  have f4 := h.1.frozen 4
  have hK := Lib.hid (hk _ (h.ops_ hne (ops + 1)) ((Upd.refl gd w).set 4 _))
  clear h hk
  go_enter Try.func71, Try.ntmps71
  go_wp2_with fail
  refine hK.out.mono ?_
  rintro e w2 ⟨rfl, hq⟩
  have HQ := Lib.hid hq
  clear hq hK d3 d4 f4
  go_wp2
  go_ret
  exact ⟨rfl, HQ.out⟩
end
end Go.Proofs.Ytmhfehhpfkjloaa
