/- Fields laid as bytes, four each. Conditions: the list of bytes lies in a block of its own with room for all; the numbers are from 0 on and below 2^32. -/
import Derived.Test.YtekdcjaljjlemaaMHeaderTurned4
import Derived.Laws.BytesArg
import Derived.Laws.CopyOwn
import Derived.BigQuiet
import Derived.Lib.SlBytesConst
import Derived.Test.YtekdcjaljjlemaaRows
namespace Go.Proofs.Ytekdcjaljjlemaa
open Go.RowKit
theorem put4_app (Q R : List UInt8) (n : Nat) : put4 (Q ++ R) Q.length n = Q ++ (le4 n ++ R.drop 4) := by
  unfold put4; rw [List.take_left, List.drop_append]
  rw [List.drop_eq_nil_of_le (by omega), List.nil_append, Nat.add_sub_cancel_left]
theorem four_snoc (f : HdF) (l : List Nat) (i : Nat) : four_ f (l ++ [i]) = four_ f l ++ le4 (f i).toNat := by unfold four_; rw [List.flatMap_append]; simp
def midF (f : HdF) (P R : List UInt8) (idx : List Nat) (j : Nat) : List UInt8 := P ++ (four_ f (idx.take j) ++ R.drop (4 * j))
theorem midF_length (f : HdF) (P R : List UInt8) (idx : List Nat) (j : Nat) (hj : j ≤ idx.length) (hR : 4 * idx.length ≤ R.length) : (midF f P R idx j).length = P.length + R.length := by
  unfold midF; rw [List.length_append, List.length_append, four_length, List.length_take, List.length_drop]; omega
theorem midF_succ (f : HdF) (P R : List UInt8) (idx : List Nat) (j : Nat) (hj : j < idx.length) : put4 (midF f P R idx j) (P.length + 4 * j) (f (idx.getD j 0)).toNat = midF f P R idx (j + 1) := by
  have e : midF f P R idx j = (P ++ four_ f (idx.take j)) ++ R.drop (4 * j) := by unfold midF; rw [List.append_assoc]
  have hl : (P ++ four_ f (idx.take j)).length = P.length + 4 * j := by rw [List.length_append, four_length, List.length_take]; omega
  rw [e, ← hl, put4_app, List.drop_drop]
  unfold midF
  have hg : idx.getD j 0 = idx[j] := by rw [List.getD_eq_getElem?_getD, List.getElem?_eq_getElem hj]; rfl
  rw [List.take_succ_eq_append_getElem hj, ← hg, four_snoc, show 4 * j + 4 = 4 * (j + 1) by omega]
  simp only [List.append_assoc]
def FourO (w : World) (g : Nat) (t : TypeId) (f : HdF) (P R : List UInt8) (idx : List Nat) (v : Value) (wr : World) : Prop :=
  ∃ j : Nat, j ≤ idx.length ∧ v = .int .i64 (j : Int) ∧ Blk wr g t ((midF f P R idx j).map u8v).toArray ∧ Upd g w wr
def FourI (w : World) (g : Nat) (t : TypeId) (L : List UInt8) (off n : Nat) (v : Value) (wr : World) : Prop :=
  ∃ k : Nat, k ≤ 4 ∧ v = .int .i64 (k : Int) ∧ Blk wr g t ((put4r L off n k).map u8v).toArray ∧ Upd g w wr
set_option maxHeartbeats 1000000 in
theorem hfour_any (g len cap hb : Nat) (t : TypeId) (f : HdF) (P R : List UInt8) (idx : List Nat) (pb po pc : Nat) (h4 : 4 * idx.length ≤ len) (hR : 4 * idx.length ≤ R.length) (hlen : len ≤ 1000000) (w : World)
    (hg : Blk w g t ((P ++ R).map u8v).toArray) (hp : ∀ j, j < idx.length → w.cell? ⟨pb, po + j, none⟩ = some (.pointer (some ⟨hb, idx.getD j 0, none⟩)))
    (hf : ∀ j, j < idx.length → w.cell? ⟨hb, idx.getD j 0, none⟩ = some (.int .i64 (f (idx.getD j 0))) ∧ 0 ≤ f (idx.getD j 0) ∧ f (idx.getD j 0) < 4294967296) (hne : pb ≠ g ∧ hb ≠ g) :
    Calls Try.prog 35 #[.slice (some ⟨g, P.length, none⟩) len cap, .slice (some ⟨pb, po, none⟩) idx.length pc] w fun e w' =>
      e = .returned (.tuple #[]) ∧ Blk w' g t ((P ++ (four_ f idx ++ R.drop (4 * idx.length))).map u8v).toArray ∧ Upd g w w' := by
  go_enter Try.func35, Try.ntmps35
  go_wp2
  go_loopw [9] (fun v wr => FourO w g t f P R idx v wr) (fun v _ => idx.length - (intOf v).toNat)
  case atStart => exact ⟨0, by omega, rfl, by simpa [midF, four_] using hg, Upd.refl _ _⟩
  case round =>
    obtain ⟨j, hj, rfl, hgj, hu⟩ := hrel
    clear hg
    by_cases hjl : j < idx.length
    · have dp := (World.cell?_of_block (hu.block pb hne.1)).trans (hp j hjl)
      obtain ⟨hf1, hf2, hf3⟩ := hf j hjl
      have df := (World.cell?_of_block (hu.block hb hne.2)).trans hf1
      have hL := midF_length f P R idx j hj hR
      have hnx := midF_succ f P R idx j hjl
      obtain ⟨L, hLL⟩ : ∃ L, L = midF f P R idx j := ⟨_, rfl⟩
      rw [← hLL] at hgj hL hnx
      have HN := Lib.hid hnx
      obtain ⟨off, hoff⟩ : ∃ off, off = P.length := ⟨_, rfl⟩
      rw [← hoff] at HN ⊢
      have hroom : off + 4 * j + 4 ≤ L.length := by rw [hL, hoff]; omega
      generalize idx.getD j 0 = i at dp df hf1 hf2 hf3 HN
      obtain ⟨n, hn⟩ : ∃ n : Nat, f i = (n : Int) := ⟨(f i).toNat, by omega⟩
      have hn2 : n < 4294967296 := by omega
      rw [hn] at df HN
      rw [Int.toNat_natCast] at HN
      have HU := Lib.hid hu
      have HF := Lib.hid (And.intro hp hf)
      clear hL hLL hnx hoff hn hf1 hf2 hf3 hu hp hf
      generalize wr = w7 at hgj dp df HU ⊢
      go_wp2_with fail
      go_loopw [14] (fun v wr => FourI w7 g t L (off + 4 * j) n v wr) (fun v _ => 4 - (intOf v).toNat)
      case atStart => exact ⟨0, by omega, rfl, by rw [put4r_zero]; exact hgj, Upd.refl _ _⟩
      case round =>
        clear hgj dp
        obtain ⟨k, hk, rfl, hgk, hu2⟩ := hrel
        have dx := (World.cell?_of_block (hu2.block hb hne.2)).trans df
        by_cases hlt : k < 4
        · have fz := hgk.frozen (off + (4 * j + k))
          have hjl2 : off + 4 * j + k < (put4r L (off + 4 * j) n k).length := by rw [put4r_length L _ n k hroom (by omega)]; omega
          have dz : ∃ v, wr.cell? ⟨g, off + (4 * j + k), none⟩ = some v := ⟨_, (hgk.cell (off + (4 * j + k))).trans (by rw [← Nat.add_assoc, List.getElem?_toArray, List.getElem?_map, List.getElem?_eq_getElem hjl2]; rfl)⟩
          obtain ⟨v, dz⟩ := dz
          have hs := put4r_set L (off + 4 * j) n k hroom hlt _ rfl
          have ho := hgk.set_ (off + 4 * j + k) (.int .u8 (iu8 ((le4 n).getD k 0)))
          rw [hs] at ho
          have hu' := hu2.set (off + 4 * j + k) (.int .u8 (iu8 ((le4 n).getD k 0)))
          rw [Nat.add_assoc] at ho hu'
          have HO := Lib.hid (And.intro ho hu')
          clear hs ho hu' hjl2 hgk hu2 hroom
          have hcase : k = 0 ∨ k = 1 ∨ k = 2 ∨ k = 3 := by omega
          rcases hcase with rfl | rfl | rfl | rfl
          · rw [Nat.add_zero] at fz dz
            go_wp2
            rw [le4_v0]
            exact ⟨⟨1, by omega, rfl, HO.out⟩, by simp [intOf]⟩
          · go_wp2
            rw [le4_v1]
            exact ⟨⟨2, by omega, rfl, HO.out⟩, by simp [intOf]⟩
          · go_wp2
            rw [le4_v2]
            exact ⟨⟨3, by omega, rfl, HO.out⟩, by simp [intOf]⟩
          · go_wp2
            rw [le4_v3 n hn2]
            exact ⟨⟨4, by omega, rfl, HO.out⟩, by simp [intOf]⟩
        · obtain rfl : k = 4 := by omega
          rw [put4r_four, HN.out] at hgk
          have HE := Lib.hid (And.intro hgk (HU.out.trans hu2))
          clear hgk hu2 hroom
          go_wp2
          go_roundw
          case rel => exact ⟨j + 1, by omega, by go_num, HE.out⟩
          case measure => simp [intOf]; omega
    · obtain rfl : j = idx.length := by omega
      have e : midF f P R idx idx.length = P ++ (four_ f idx ++ R.drop (4 * idx.length)) := by unfold midF; rw [List.take_length]
      rw [e] at hgj
      have HG := Lib.hid (And.intro hgj hu)
      clear hgj hu hp hf e
      go_wp2
      refine bodyPost_end (v := .tuple #[]) (by simp [results]) rfl ⟨rfl, HG.out.1, HG.out.2⟩
end Go.Proofs.Ytekdcjaljjlemaa

/- What the functions do that the statements share: bytes compared, copied, lent, kept. Plain facts. No condition. -/
namespace Go
open Go.RowKit
/-- The string that bytes are. -/
def str (l : List UInt8) : ByteArray := ⟨l.toArray⟩
theorem str_inj {l l' : List UInt8} (h : str l = str l') : l = l' := by
  unfold str at h
  injection h with h
  simpa using h
theorem str_eq (l l' : List UInt8) : (str l = str l') = (l = l') := propext ⟨str_inj, fun h => by rw [h]⟩
theorem str_beq (l l' : List UInt8) : ((str l).toList == (str l').toList) = decide (l = l') := by
  rw [ByteArray.toList_eq, ByteArray.toList_eq]
  by_cases h : l = l'
  · subst h; simp
  · rw [decide_eq_false h]; simpa [str] using h
theorem strOfNums_iu8 (l : List UInt8) : strOfNums (l.map iu8) = str l := by
  unfold strOfNums str
  rw [List.map_map]
  congr 2
  refine (List.map_congr_left fun b _ => ?_).trans (List.map_id l)
  simp [iu8]
theorem run_convert_str {P : Program} {w : World} {A : Option Addr} {l : List UInt8} (src dst e : TypeId) (hs : P.underlying src = some (.slice e)) (he : P.underlying e = some (.int .u8)) (hd : P.underlying dst = some .string)
    (n c : Nat) (hn : n = l.length) (h : Bytes w A l) : (convert src dst (.slice A n c)).run P w = .ok (.string (str l)) w := by
  subst hn
  cases hl : l with
  | nil =>
    cases A with
    | none => exact run_convert_bytes_nil w src e hs he _ _ dst hd
    | some a =>
      rw [run_convert_bytes_string w src dst e _ _ c hs he hd]
      have := run_bytesToString (P := P) w a 0 c [] (by rfl)
      exact this
  | cons x t =>
    have hp : 0 < l.length := by rw [hl]; simp
    obtain ⟨b, off, rfl, _, hc⟩ := h.at_ hp
    rw [← hl]
    have := run_convert_bytes_arg (P := P) w src e hs he b off l.length c (l.map iu8) (by simp) (fun i hi => by rw [hc i hi]; simp [hi]) dst hd
    rw [this, strOfNums_iu8]
theorem wpList_convert_str {P : Program} {w : World} {Q : Exit → Act → World → Prop} {ops : Array Oper} {rest : List Oper} {o : Oper} {a : Act} (hgd : o.guard = none) (src dst e : TypeId) (x : Operand) (ho : o.op = .convert src dst x)
    (hs : P.underlying src = some (.slice e)) (he : P.underlying e = some (.int .u8)) (hd : P.underlying dst = some .string)
    (A : Option Addr) (n c : Nat) (l : List UInt8) (hx : a.eval x = .slice A n c) (hn : n = l.length) (h : Bytes w A l) (hk : wpList P ops Q rest (a.put o.dst (.string (str l))) w) : wpList P ops Q (o :: rest) a w := by
  refine wpList_run (.string (str l)) hgd ?_ hk
  unfold execOp
  simp only [ho, hx, Sem.run_bind, run_convert_str src dst e hs he hd n c hn h, Result.andThen_ok, Sem.run_pure]
theorem wpList_make_bytes {P : Program} (w : World) {ops : Array Oper} {rest : List Oper} {o : Oper} {a : Act} {Q : Exit → Act → World → Prop}
    (hg : o.guard = none) (l c : Operand) (t : TypeId) (hop : o.op = Op.makeSlice t l c) (e : TypeId) (h1 : P.underlying t = some (.slice e)) (h2 : (P.info? e).map (fun i => (i.zero, i.size, i.bytes)) = some (some (.int .u8 0), 1, 1))
    (kl kc : IntKind) (L C : Int) (n m : Nat) (hl : a.eval l = .int kl L) (hc : a.eval c = .int kc C) (hL : L = (n : Int)) (hC : C = (m : Int)) (hnm : n ≤ m) (hm : m ≤ 140737488400000)
    (hK : ∀ w', Blk w' w.heap.size e ((List.replicate m 0).map u8v).toArray → Below w.heap.size w w' → w'.heap.size = w.heap.size + 1 → wpList P ops Q rest (a.put o.dst (.slice (some ⟨w.heap.size, 0, none⟩) n m)) w') :
    wpList P ops Q (o :: rest) a w := by
  obtain ⟨i, hi, hzz⟩ := Option.map_eq_some_iff.1 h2
  simp only [Prod.mk.injEq] at hzz
  obtain ⟨hz, hs, hb⟩ := hzz
  subst hL
  subst hC
  have hr := run_make (P := P) w t e i _ h1 hi hz kl kc n m (by omega) (by omega) (by rw [hb]; omega) (by omega)
  have e2 : madeCells (Value.int .u8 0).cells (m * i.size) = ((List.replicate m 0).map u8v).toArray := by
    rw [hs, Nat.mul_one]
    unfold madeCells
    apply Array.ext'
    simp [Value.cells, u8v, List.eq_replicate_iff]
    intro b x
    simp [Nat.mod_one, iu8]
  rw [Int.toNat_natCast, Int.toNat_natCast, e2] at hr
  refine wpList_plain hg fun K hK' => ?_
  unfold Oper.wp
  simp only [execOp, hop, hl, hc, hr, Sem.run_bind, Result.andThen_ok, Sem.run_pure]
  exact hK' _ _ (hK _ (Blk.new w e _) ((Below.refl _ _).alloc (Nat.le_refl _) _) (by simp))
theorem setRow_upd (w : World) (g : Nat) (cs : Array Value) : Upd g w (w.setRow g cs) := Upd.setRow w g cs
/-- copy(d, s), d in an own block of bytes from its head on. -/
theorem wpList_copy_bytes {P : Program} {w : World} {ops : Array Oper} {rest : List Oper} {o : Oper} {a : Act} {Q : Exit → Act → World → Prop} (hgd : o.guard = none) (d s : Operand) (dT sT : TypeId)
    (ho : o.op = .call { callee := .builtin .copy, args := #[d, s], argTypes := #[dT, sT] }) (elem : TypeId) (hu : P.underlying dT = some (.slice elem)) (hsz : (P.info? elem).map (·.size) = some 1)
    (g dLen dCap : Nat) (A : Option Addr) (sLen sCap : Nat) (hd : a.eval d = .slice (some ⟨g, 0, none⟩) dLen dCap) (hs : a.eval s = .slice A sLen sCap)
    (cur l : List UInt8) (t : TypeId) (hg : Blk w g t (cur.map u8v).toArray) (hn : l.length = sLen) (hb : Bytes w A l) (hfit : l.length ≤ cur.length) (hfit2 : l.length ≤ dLen)
    (h : ∀ w', Blk w' g t ((l ++ cur.drop l.length).map u8v).toArray → Upd g w w' → wpList P ops Q rest (a.put o.dst (goInt l.length)) w') : wpList P ops Q (o :: rest) a w := by
  by_cases h0 : l.length = 0
  · obtain rfl : l = [] := List.eq_nil_of_length_eq_zero h0
    simp at hn
    subst hn
    refine wpList_copy_nothing hgd d s dT sT ho elem hu hsz _ A dLen dCap 0 sCap hd hs (by simp) ?_
    exact h w (by simpa using hg) ⟨rfl, rfl, rfl, rfl, fun _ _ => rfl⟩
  · obtain ⟨b, off, rfl, _, hc⟩ := hb.at_ (by omega)
    have := wpList_copy_own (Q := Q) (rest := rest) (ops := ops) (w := w) hgd d s dT sT ho elem hu hsz g 0 dLen dCap ⟨b, off, none⟩ sLen sCap hd hs (cur.map u8v).toArray t hg (l.map u8v) (by rw [List.length_map, hn]; exact (Nat.min_eq_left (by omega)).symm)
      (fun j v hv => by
        have hj : j < l.length := by
          rcases Nat.lt_or_ge j l.length with h1 | h1
          · exact h1
          · simp [List.getElem?_eq_none h1] at hv
        have h2 := hc j hj
        simp [hj] at hv
        rw [Addr.add_lit, h2, ← hv]; simp [u8v, hj]) (by simpa using hfit) (u8v_one l)
    refine this ?_
    have e1 : ((((cur.map u8v).toArray.toList.take 0) ++ (l.map u8v ++ (cur.map u8v).toArray.toList.drop (0 + (l.map u8v).length))).toArray) = ((l ++ cur.drop l.length).map u8v).toArray := by simp
    rw [e1]
    have e2 : ((l.map u8v).length : Int) = (l.length : Int) := by simp
    rw [e2]
    exact h _ (hg.setRow _) (Upd.setRow _ _ _)
/-- A guarded operation that is wanted. -/
theorem wpList_want {P : Program} {w : World} {Q : Exit → Act → World → Prop} {ops : Array Oper} {rest : List Oper} {dst : Option Tmp} {op : Op} {ty : TypeId} {pos : String} {af : Array Edge} {g : Option (Nat × Bool)} {a : Act}
    (hw : Region.wanted ⟨dst, op, ty, pos, af, g⟩ (yielded ops a.tmps) = true) (h : wpList P ops Q (⟨dst, op, ty, pos, af, none⟩ :: rest) a w) : wpList P ops Q (⟨dst, op, ty, pos, af, g⟩ :: rest) a w := by
  unfold wpList at h ⊢
  rw [if_pos hw]
  rw [if_pos (by simp [Region.wanted])] at h
  exact h
/-- []byte("..") of a constant string. -/
theorem wpList_bytes_const {P : Program} {w : World} {Q : Exit → Act → World → Prop} {ops : Array Oper} {rest : List Oper} {o : Oper} {a : Act} (hgd : o.guard = none) (t e : TypeId) (x : Operand) (ho : o.op = .convert t t x)
    (ht : P.underlying t = some (.slice e)) (he : P.underlying e = some (.int .u8)) (l : List UInt8) (C : Array Value) (hC : C = (l.map u8v).toArray) (n : Nat) (hx : a.eval x = .slice (some ⟨w.heap.size, 0, none⟩) n n)
    (h : ∀ w', Bytes w' (some ⟨w.heap.size, 0, none⟩) l → Below w.heap.size w w' → w'.heap.size = w.heap.size + 1 → wpList P ops Q rest (a.put o.dst (.slice (some ⟨w.heap.size, 0, none⟩) n n)) w') : wpList P ops Q (o :: rest) a (w.alloc (.cells C e)) := by
  subst hC
  refine wpList_plain hgd fun K hK => ?_
  unfold Oper.wp execOp
  have hr := Lib.run_convert_bytes_const (P := P) w t e (l.map u8v).toArray n n ht he
  simp only [ho, hx, Sem.run_bind, hr, Result.andThen_ok, Sem.run_pure]
  refine hK _ _ (h _ (fun _ => ⟨w.heap.size, 0, rfl, fun j v hv => ?_⟩) ((Below.refl _ _).alloc (Nat.le_refl _) _) (by simp))
  have hh : (w.alloc (.cells (l.map u8v).toArray e ((l.map u8v).toArray.size, (l.map u8v).toArray.size + 1))).heap[w.heap.size]? = some (.cells (l.map u8v).toArray e ((l.map u8v).toArray.size, (l.map u8v).toArray.size + 1)) := heap_alloc_last w _
  rw [Nat.zero_add, cell_of_row _ _ _ _ _ _ hh]
  simpa using hv
/-- A block of bytes reads. -/
theorem Blk.bytes {w : World} {g : Nat} {t : TypeId} {l : List UInt8} (h : Blk w g t (l.map u8v).toArray) : Bytes w (some ⟨g, 0, none⟩) l := fun _ => ⟨g, 0, rfl, fun j u hu => by rw [h.cell]; simpa using hu⟩
theorem wpQuiet_convert_str {P : Program} {ops : Array Oper} {C : World → Prop} {Q : Act → Prop} {rest : List Oper} {o : Oper} {a : Act} (hgd : o.guard = none) (src dst e : TypeId) (x : Operand) (ho : o.op = .convert src dst x)
    (hs : P.underlying src = some (.slice e)) (he : P.underlying e = some (.int .u8)) (hd : P.underlying dst = some .string)
    (A : Option Addr) (n c : Nat) (l : List UInt8) (hx : a.eval x = .slice A n c) (hn : n = l.length) (hb : ∀ w, C w → Bytes w A l) (h : wpQuiet P ops C Q rest (a.put o.dst (.string (str l)))) : wpQuiet P ops C Q (o :: rest) a := by
  refine wpQuiet_step fun K hK => ?_
  rw [if_pos (by simp [Region.wanted, hgd])]
  refine ⟨_, fun w hw => ?_, hK _ h⟩
  unfold Oper.quietAt execOp
  simp only [ho, hx, Sem.run_bind, run_convert_str src dst e hs he hd n c hn (hb w hw), Result.andThen_ok, Sem.run_pure]
  exact ⟨rfl, rfl⟩
namespace Proofs.Ytekdcjaljjlemaa
theorem sameBytes_any (A B : Option Addr) (n m c d : Nat) (l l' : List UInt8) (hn : n = l.length) (hm : m = l'.length) (w : World) (h : Bytes w A l) (h' : Bytes w B l') :
    Calls Try.prog 10 #[.slice A n c, .slice B m d] w fun e w' => e = .returned (.bool (decide (l = l'))) ∧ w' = w := by
  subst hn hm
  go_enter Try.func10, Try.ntmps10
  go_wp2_with (first
    | (show wpList _ _ _ ((⟨some 6, _, _, _, _, _⟩ : Oper) :: _) _ _; refine wpList_convert_str (o := ⟨some 6, _, _, _, _, _⟩) (by rfl) 27 9 5 _ (by rfl) Try.underlying27 Try.underlying5 Try.underlying9 A l.length c l (by rfl) rfl h ?_)
    | (show wpList _ _ _ ((⟨some 8, _, _, _, _, _⟩ : Oper) :: _) _ _; refine wpList_convert_str (o := ⟨some 8, _, _, _, _, _⟩) (by rfl) 27 9 5 _ (by rfl) Try.underlying27 Try.underlying5 Try.underlying9 B l'.length d l' (by rfl) rfl h' ?_))
  refine bodyPost_ret (results_tmp rfl _ _ _) rfl ⟨?_, rfl⟩
  simp [str_beq]
/-- What stands behind a list that is lent: three marks. -/
def mark1 (p : Nat) : UInt8 := UInt8.ofNat ((160 + p % 90) % 256)
def marks (n : Nat) : List UInt8 := [mark1 n, mark1 (n + 1), mark1 (n + 2)]
theorem lent_set (l : List UInt8) (n i : Nat) (h : i < 3) :
    ((l ++ ((marks n).take i ++ List.replicate (3 - i) 0)).map u8v).toArray.setIfInBounds (l.length + i) (.int .u8 (iu8 (mark1 (n + i)))) = ((l ++ ((marks n).take (i + 1) ++ List.replicate (3 - (i + 1)) 0)).map u8v).toArray := by
  apply Array.ext'
  simp only [List.setIfInBounds_toArray, List.map_append]
  have e : l.length + i = (l.map u8v).length + i := by simp
  rw [e, List.set_append_right _ _ (by omega), Nat.add_sub_cancel_left]
  congr 1
  have : i = 0 ∨ i = 1 ∨ i = 2 := by omega
  rcases this with rfl | rfl | rfl <;> simp [marks, List.replicate, u8v]
theorem size1 : (Try.prog.info? 5).map (·.size) = some 1 := by kernel_rfl
/-- Ahead of each mark. -/
def LentRel (w : World) (l : List UInt8) (v : Value) (wr : World) : Prop :=
  ∃ i : Nat, i ≤ 3 ∧ v = .int .i64 ((l.length + i : Nat) : Int) ∧ Blk wr w.heap.size 5 ((l ++ ((marks l.length).take i ++ List.replicate (3 - i) 0)).map u8v).toArray ∧ Below w.heap.size w wr
set_option maxHeartbeats 400000 in
theorem lentBytes_any (A : Option Addr) (n c : Nat) (l : List UInt8) (hn : n = l.length) (hl : l.length ≤ 140737488351300) (w : World) (h : Bytes w A l) :
    Calls Try.prog 7 #[.slice A n c] w fun e w' => e = .returned (.slice (some ⟨w.heap.size, 0, none⟩) l.length (l.length + 3)) ∧ Blk w' w.heap.size 5 ((l ++ marks l.length).map u8v).toArray ∧ Below w.heap.size w w' := by
  subst hn
  go_enter Try.func7, Try.ntmps7
  go_wp2_with (first
    | (show wpList _ _ _ ((⟨some 8, _, _, _, _, _⟩ : Oper) :: _) _ _; refine wpList_make_bytes (o := ⟨some 8, _, _, _, _, _⟩) _ (by rfl) _ _ _ (by rfl) _ Try.underlying27 u8info .i64 .i64 _ _ (l.length + 3) (l.length + 3) (by rfl) (by rfl) (by omega) (by omega) (Nat.le_refl _) (by omega) ?_; intro w1 h1 hb1 _; have hb := h.below hb1)
    | (show wpList _ _ _ ((⟨some 11, _, _, _, _, _⟩ : Oper) :: _) _ _; refine wpList_copy_bytes (o := ⟨some 11, _, _, _, _, _⟩) (by rfl) _ _ _ _ (by rfl) 5 Try.underlying27 size1 w.heap.size (l.length + 3) (l.length + 3) A l.length c (by rfl) (by rfl) (List.replicate (l.length + 3) 0) l _ h1 rfl hb (by simp) (by omega) ?_; intro w2 h2 hu2; have hb2 := hb1.upd hu2 (Nat.le_refl _); clear h1 hb1 hu2 hb)
    | fail)
  have h3 : Blk w2 w.heap.size 5 ((l ++ ((marks l.length).take 0 ++ List.replicate (3 - 0) 0)).map u8v).toArray := by
    refine h2.sub ?_
    simp
  clear h2
  go_loopw [4] (fun v wr => LentRel w l v wr) (fun v _ => l.length + 3 - (intOf v).toNat)
  case atStart => exact ⟨0, by omega, rfl, h3, hb2⟩
  case round =>
    clear h3 hb2
    obtain ⟨i, hi, rfl, hw, hbw⟩ := hrel
    obtain ⟨p, hp⟩ : ∃ p, p = l.length + i := ⟨_, rfl⟩
    rw [← hp]
    have HP := Lib.hid hp
    by_cases h3 : i < 3
    · have d0 : ∃ u, wr.cell? ⟨w.heap.size, p, none⟩ = some u := by
        rw [hw.cell]
        exact ⟨_, Array.getElem?_eq_getElem (by simp [marks]; omega)⟩
      obtain ⟨u, d0⟩ := d0
      have f0 := hw.frozen p
      have eb : 160 + (p : Int) % 90 = iu8 (mark1 p) := by unfold mark1; rw [iu8_ofNat _ (by omega)]; omega
      have hplt : p < l.length + 3 := by omega
      clear hp
      have ho := hw.set_ p (.int .u8 (iu8 (mark1 p)))
      replace ho := ho.sub (show _ = ((l ++ ((marks l.length).take (i + 1) ++ List.replicate (3 - (i + 1)) 0)).map u8v).toArray by rw [HP.out]; exact lent_set l l.length i h3)
      have HO := Lib.hid ho
      clear ho
      go_wp2
      go_roundw
      case rel => exact ⟨i + 1, by omega, by have := HP.out; go_num, HO.out, hbw.set_ (Nat.le_refl _) _⟩
      case measure => simp [intOf]; omega
    · obtain rfl : i = 3 := by omega
      have hp3 : p = l.length + 3 := hp
      subst hp3
      have HW := Lib.hid hw
      clear hw HP hp
      go_wp2
      go_ret
      exact ⟨rfl, HW.out.sub (by simp [marks]), hbw⟩
set_option maxHeartbeats 400000 in
theorem keptBytes_any (g d n c m : Nat) (B : Option Addr) (l : List UInt8) (hn : n = l.length) (hc : c = l.length + 3) (hm : m = l.length) (hl : l.length ≤ 140737488351300) (w : World) (h : Blk w g 5 ((l ++ marks l.length).map u8v).toArray) (hb : Bytes w B l) :
    Calls Try.prog 13 #[.slice (some ⟨g, 0, none⟩) n c, .slice B m d] w fun e w' => e = .returned (.bool true) ∧ Below w.heap.size w w' := by
  subst hn hc hm
  go_enter Try.func13, Try.ntmps13
  go_wp2
  refine wp_region_mix (fun w' => w' = w.drew) [0, 1, 2, 3, 4, 5, 6, 7, 8, 9, 10, 12, 13, 14] [] 11 [15, 16, 17, 18] (by kernel_rfl) (by kernel_rfl) (fun c a a' w h q => ⟨h ▸ q.1, q.2⟩) rfl ?_
  dsimp only [List.filterMap, List.getElem?_cons_zero, List.getElem?_cons_succ]
  repeat (go_big_quiet_step (fail))
  refine wpQuiet_nil ?_
  refine wpQuiet_nil ?_
  rintro w1 rfl
  go_wp2_with fail
  refine (lentBytes_any B l.length d l rfl hl w.drew (Bytes.below hb (Below.refl _ _).drew)).mono ?_
  rintro e w2 ⟨rfl, h2, hb2⟩
  have hb3 : Below w.heap.size w w2 := (Below.refl _ _).drew.trans hb2
  have h3 : Blk w2 g 5 ((l ++ marks l.length).map u8v).toArray := h.below hb3 h.lt
  go_wp2_with fail
  refine (sameBytes_any (some ⟨g, 0, none⟩) (some ⟨w.drew.heap.size, 0, none⟩) (l.length + 3) (l.length + 3) (l.length + 3) (l.length + 3) (l ++ marks l.length) (l ++ marks l.length) (by simp [marks]) (by simp [marks]) w2 h3.bytes h2.bytes).mono ?_
  rintro e w3 ⟨rfl, rfl⟩
  clear h2 h3 h
  go_wp2
  go_ret
  exact ⟨by simp, hb3⟩
end Proofs.Ytekdcjaljjlemaa
end Go

/- copy(d, s), d in an own block of bytes from a place on. Plain facts over any program. No condition. -/
namespace Go
open Go.RowKit
/-- copy(d, s), d in an own block of bytes from a place on. -/
theorem wpList_copy_at {P : Program} {w : World} {ops : Array Oper} {rest : List Oper} {o : Oper} {a : Act} {Q : Exit → Act → World → Prop} (hgd : o.guard = none) (d s : Operand) (dT sT : TypeId)
    (ho : o.op = .call { callee := .builtin .copy, args := #[d, s], argTypes := #[dT, sT] }) (elem : TypeId) (hu : P.underlying dT = some (.slice elem)) (hsz : (P.info? elem).map (·.size) = some 1)
    (g off dLen dCap : Nat) (A : Option Addr) (sLen sCap : Nat) (hd : a.eval d = .slice (some ⟨g, off, none⟩) dLen dCap) (hs : a.eval s = .slice A sLen sCap)
    (cur l : List UInt8) (t : TypeId) (hg : Blk w g t (cur.map u8v).toArray) (hn : l.length = sLen) (hb : Bytes w A l) (hfit : off + l.length ≤ cur.length) (hfit2 : l.length ≤ dLen)
    (h : ∀ w', Blk w' g t ((cur.take off ++ (l ++ cur.drop (off + l.length))).map u8v).toArray → Upd g w w' → wpList P ops Q rest (a.put o.dst (goInt l.length)) w') : wpList P ops Q (o :: rest) a w := by
  by_cases h0 : l.length = 0
  · obtain rfl : l = [] := List.eq_nil_of_length_eq_zero h0
    simp at hn
    subst hn
    refine wpList_copy_nothing hgd d s dT sT ho elem hu hsz _ A dLen dCap 0 sCap hd hs (by simp) ?_
    exact h w (by simpa using hg) ⟨rfl, rfl, rfl, rfl, fun _ _ => rfl⟩
  · obtain ⟨b, soff, rfl, _, hc⟩ := hb.at_ (by omega)
    have := wpList_copy_own (Q := Q) (rest := rest) (ops := ops) (w := w) hgd d s dT sT ho elem hu hsz g off dLen dCap ⟨b, soff, none⟩ sLen sCap hd hs (cur.map u8v).toArray t hg (l.map u8v) (by rw [List.length_map, hn]; exact (Nat.min_eq_left (by omega)).symm)
      (fun j v hv => by
        have hj : j < l.length := by
          rcases Nat.lt_or_ge j l.length with h1 | h1
          · exact h1
          · simp [List.getElem?_eq_none h1] at hv
        have h2 := hc j hj
        simp [hj] at hv
        rw [Addr.add_lit, h2, ← hv]; simp [u8v, hj]) (by simpa using hfit) (u8v_one l)
    refine this ?_
    have e1 : ((((cur.map u8v).toArray.toList.take off) ++ (l.map u8v ++ (cur.map u8v).toArray.toList.drop (off + (l.map u8v).length))).toArray) = ((cur.take off ++ (l ++ cur.drop (off + l.length))).map u8v).toArray := by simp
    rw [e1]
    have e2 : ((l.map u8v).length : Int) = (l.length : Int) := by simp
    rw [e2]
    exact h _ (hg.setRow _) (Upd.setRow _ _ _)
end Go

/- The functions that turn a word right, and the tables of constants, answer what the plain functions say. Condition: the count is from 1 to 31. -/
namespace Go.Proofs.Ytekdcjaljjlemaa
open Go.RowKit
theorem u64_and31 (n : Nat) (h1 : 1 ≤ n) (h2 : n ≤ 31) : bits .and .u64 (IntKind.u64.wrap (-(n : Int))) 31 = ((32 - n : Nat) : Int) := by
  have e : IntKind.u64.wrap (-(n : Int)) = ((18446744073709551616 - n : Nat) : Int) := by
    have : IntKind.u64.wrap (-(n : Int)) = (-(n : Int)) % 18446744073709551616 := by simp [IntKind.wrap, IntKind.bits, IntKind.signed]
    rw [this]; omega
  rw [e]
  have := u64_and_nat (18446744073709551616 - n) 31 (by omega) (by omega)
  have e2 : (18446744073709551616 - n) &&& 31 = 32 - n := by
    have := Nat.and_two_pow_sub_one_eq_mod (18446744073709551616 - n) 5
    simp only [Nat.reducePow, Nat.reduceSub] at this
    rw [this]; omega
  rw [e2] at this
  exact this
set_option maxHeartbeats 400000 in
theorem right_any (x: UInt32) (n : Int) (h1 : 1 ≤ n) (h2 : n ≤ 31) (w : World) :
    Calls Try.prog 46 #[.int .u32 (iu32 x), .int .i64 n] w fun e w' => e = .returned (.int .u32 (iu32 (Sha.rotr x n.toNat))) ∧ ∃ k, w' = w.drewN k := by
  obtain ⟨n, rfl⟩ := Int.eq_ofNat_of_zero_le (show 0 ≤ n by omega)
  have e1 := u32_shr_w x n (by omega)
  have e2 := u32_shl_w x (32 - n) (by omega)
  have e3 : (32 - (n : Int)).toNat = 32 - n := by omega
  go_enter Try.func46, Try.ntmps46
  go_wp2
  go_quiet (fail)
  go_wp2
  go_ret
  exact ⟨rfl, _, rfl⟩
set_option maxHeartbeats 400000 in
theorem rot_any (x: UInt32) (n : Int) (h1 : 1 ≤ n) (h2 : n ≤ 31) (w : World) :
    Calls Try.prog 47 #[.int .u32 (iu32 x), .int .i64 (-n)] w fun e w' => e = .returned (.int .u32 (iu32 (Sha.rotr x n.toNat))) ∧ w = w' := by
  obtain ⟨n, rfl⟩ := Int.eq_ofNat_of_zero_le (show 0 ≤ n by omega)
  have e1 := u32_shr_w x n (by omega)
  have e2 := u32_shl_w x (32 - n) (by omega)
  have e3 : (32 - (n : Int)).toNat = 32 - n := by omega
  have e5 : 32 - (32 - n) = n := by omega
  have e6 : (32 : Int) - ((32 - n : Nat) : Int) = (n : Int) := by omega
  have e4 := u64_and31 n (by omega) (by omega)
  go_enter Try.func47, Try.ntmps47
  go_wp2
  go_ret
  exact ⟨ret_int (by rw [UInt32.or_comm]; rfl), rfl⟩
set_option maxHeartbeats 400000 in
theorem turned_any (x: UInt32) (n : Int) (h1 : 1 ≤ n) (h2 : n ≤ 31) (w : World) :
    Calls Try.prog 45 #[.int .u32 (iu32 x), .int .i64 n] w fun e w' => e = .returned (.int .u32 (iu32 (Sha.rotr x n.toNat))) ∧ w = w' := by
  go_enter Try.func45, Try.ntmps45
  go_wp2_with fail
  refine (rot_any x n h1 h2 _).mono ?_
  rintro e w' ⟨rfl, rfl⟩
  go_wp2
  go_ret
  exact ⟨rfl, rfl⟩
end Go.Proofs.Ytekdcjaljjlemaa

/- What the blocks hold in which both texts mix 64 bytes in: plain facts on worlds. No condition. -/
namespace Go.Proofs.Ytekdcjaljjlemaa
open Go.RowKit
def wcell (m : Nat → UInt32) (t i : Nat) : Value := .int .u32 (if i < t then iu32 (Sha.wd m i) else 0)
def zero64 : Array Value := arr 64 fun _ => .int .u32 0
def zero8 : Array Value := arr 8 fun _ => .int .u32 0
def karr : Array Value := arr 64 fun i => .int .u32 (iu32 (Sha.kt i))
def st8 (s : Sha.St) : Array Value := #[.int .u32 (iu32 s.a), .int .u32 (iu32 s.b), .int .u32 (iu32 s.c), .int .u32 (iu32 s.d), .int .u32 (iu32 s.e), .int .u32 (iu32 s.f), .int .u32 (iu32 s.g), .int .u32 (iu32 s.h)]
theorem st8_arr (s : Sha.St) : st8 s = arr 8 fun i => .int .u32 (iu32 (Sha.get s i)) := rfl
/-- The eight words, of which the first t have been added to. -/
def sum8 (s x : Sha.St) (t : Nat) : Array Value := arr 8 fun i => .int .u32 (iu32 (if i < t then Sha.get s i + Sha.get x i else Sha.get s i))
theorem sum8_zero (s x : Sha.St) : st8 s = sum8 s x 0 := by rw [st8_arr]; exact arr_congr fun i _ => by simp
theorem sum8_get (s x : Sha.St) (t : Nat) (h : t < 8) : (sum8 s x t)[t]? = some (.int .u32 (iu32 (Sha.get s t))) := by rw [sum8, arr_at _ h]; simp
theorem st8_get (x : Sha.St) (t : Nat) (h : t < 8) : (st8 x)[t]? = some (.int .u32 (iu32 (Sha.get x t))) := by rw [st8_arr, arr_at _ h]
theorem sum8_set (s x : Sha.St) (t : Nat) : (sum8 s x t).setIfInBounds t (.int .u32 (iu32 (Sha.get s t + Sha.get x t))) = sum8 s x (t + 1) := by
  unfold sum8
  rw [arr_set]
  refine arr_congr fun i _ => ?_
  by_cases e : i = t
  · subst e; simp
  · rw [if_neg e]
    by_cases e2 : i < t
    · rw [if_pos e2, if_pos (by omega)]
    · rw [if_neg e2, if_neg (by omega)]
theorem sum8_all (s x : Sha.St) : sum8 s x 8 = st8 (Sha.add s x) := by
  rw [st8_arr]
  refine arr_congr fun i hi => ?_
  rw [if_pos hi]
  match i, hi with
  | 0, _ => rfl
  | 1, _ => rfl
  | 2, _ => rfl
  | 3, _ => rfl
  | 4, _ => rfl
  | 5, _ => rfl
  | 6, _ => rfl
  | 7, _ => rfl
theorem st8_size (s : Sha.St) : (st8 s).size = 8 := rfl
theorem karr_size : karr.size = 64 := arr_size _ _
theorem zero8_size : zero8.size = 8 := arr_size _ _
theorem zero64_size : zero64.size = 64 := arr_size _ _
theorem st8_one (s : Sha.St) : (st8 s).all (·.oneCell') = true := by simp [st8, Value.oneCell']
theorem size8 : (Try.prog.info? 77).map (·.size) = some 8 := by kernel_rfl
theorem alloc64 (w : World) : (zeroValue 78).run Try.prog w = .ok (.agg zero64) w := by
  have h : (Try.prog.info? 78).map (fun i => (i.zero, i.size)) = some (some (.agg zero64), 64) := by kernel_rfl
  exact (zero_of_info h).1 w
/-- What the function's own blocks hold: the words, the constants, the result's place, the schedule. -/
structure BInv (T : TypeId) (w0 wr : World) (hs : Sha.St) (m : Nat → UInt32) (t : Nat) : Prop where
  ww : Blk wr (w0.heap.size + 1 + 1 + 1) 78 (arr 64 (wcell m t))
  hh : Blk wr w0.heap.size T (st8 hs)
  kk : Blk wr (w0.heap.size + 1) 78 karr
  zz : Blk wr (w0.heap.size + 1 + 1) T zero8
  bel : Below w0.heap.size w0 wr
theorem BInv.drewN {T : TypeId} {w0 wr : World} {hs : Sha.St} {m : Nat → UInt32} {t : Nat} (h : BInv T w0 wr hs m t) (k : Nat) : BInv T w0 (wr.drewN k) hs m t :=
  ⟨h.ww, h.hh, h.kk, h.zz, ⟨h.bel.os, h.bel.tape, h.bel.output, h.bel.size, h.bel.block⟩⟩
theorem BInv.store {T : TypeId} {w0 wr : World} {hs : Sha.St} {m : Nat → UInt32} {t : Nat} (h : BInv T w0 wr hs m t) (x : UInt32) (hx : Sha.wd m t = x) :
    BInv T w0 (wr.setCell ⟨w0.heap.size + 1 + 1 + 1, t, none⟩ (.int .u32 (iu32 x))).drew hs m (t + 1) := by
  refine ⟨?_, h.hh.off (by omega) _, h.kk.off (by omega) _, h.zz.off (by omega) _, (h.bel.set_ (by omega) _).drew⟩
  have hs := h.ww.set_ t (.int .u32 (iu32 x))
  rw [arr_set] at hs
  refine hs.sub (arr_congr fun i hi => ?_)
  unfold wcell
  by_cases e : i = t
  · subst e; rw [if_pos rfl, if_pos (by omega), hx]
  · rw [if_neg e]; by_cases e2 : i < t
    · rw [if_pos e2, if_pos (by omega)]
    · rw [if_neg e2, if_neg (by omega)]
theorem BInv.get {T : TypeId} {w0 wr : World} {hs : Sha.St} {m : Nat → UInt32} {t : Nat} (h : BInv T w0 wr hs m t) {i : Nat} (hi : i < t) (h64 : i < 64) :
    wr.cell? ⟨w0.heap.size + 1 + 1 + 1, i, none⟩ = some (.int .u32 (iu32 (Sha.wd m i))) := by
  rw [h.ww.cell i, arr_at _ h64, wcell, if_pos hi]
theorem BInv.get' {T : TypeId} {w0 wr : World} {hs : Sha.St} {m : Nat → UInt32} {t : Nat} (h : BInv T w0 wr hs m t) {i : Nat} (h64 : i < 64) :
    wr.cell? ⟨w0.heap.size + 1 + 1 + 1, i, none⟩ = some (wcell m t i) := by
  rw [h.ww.cell i, arr_at _ h64]
theorem BInv.new (T : TypeId) (w : World) (hs : Sha.St) (m : Nat → UInt32) : BInv T w ((((w.alloc (.cells (st8 hs) T)).alloc (.cells karr 78)).alloc (.cells #[.int .u32 0, .int .u32 0, .int .u32 0, .int .u32 0, .int .u32 0, .int .u32 0, .int .u32 0, .int .u32 0] T)).alloc (.cells zero64 78)) hs m 0 := by
  refine ⟨?_, ?_, ?_, ?_, ?_⟩
  · exact Blk.new' _ _ _ (by simp)
  · exact ((Blk.new' _ _ _ rfl).alloc _).alloc _ |>.alloc _
  · exact ((Blk.new' _ _ _ (by simp)).alloc _).alloc _
  · exact ((Blk.new' _ _ _ (by simp)).alloc _)
  · exact (((Below.refl _ _).alloc (by simp) _).alloc (by simp) _ |>.alloc (by simp; omega) _).alloc (by simp; omega) _
theorem BInv.alloc {T : TypeId} {w0 wr : World} {hs : Sha.St} {m : Nat → UInt32} {t : Nat} (h : BInv T w0 wr hs m t) (o : Obj) : BInv T w0 (wr.alloc o) hs m t :=
  ⟨h.ww.alloc o, h.hh.alloc o, h.kk.alloc o, h.zz.alloc o, h.bel.alloc (by have := h.hh.lt; omega) o⟩
theorem BInv.upd {T : TypeId} {w0 wr w' : World} {hs : Sha.St} {m : Nat → UInt32} {t g : Nat} (h : BInv T w0 wr hs m t) (u : Upd g wr w') (hg : w0.heap.size + 1 + 1 + 1 < g) : BInv T w0 w' hs m t :=
  ⟨h.ww.upd u (by omega), h.hh.upd u (by omega), h.kk.upd u (by omega), h.zz.upd u (by omega), h.bel.upd u (by omega)⟩
theorem zero8_new (T : TypeId) (w : World) : Blk (w.alloc (.cells #[.int .u32 0, .int .u32 0, .int .u32 0, .int .u32 0, .int .u32 0, .int .u32 0, .int .u32 0, .int .u32 0] T)) w.heap.size T zero8 := Blk.new _ _ _
/-- While word number t is being read: what it is so far. -/
structure PInv (T : TypeId) (w0 wr : World) (hs : Sha.St) (m : Nat → UInt32) (t : Nat) (p : UInt32) : Prop where
  ww : Blk wr (w0.heap.size + 1 + 1 + 1) 78 (arr 64 fun j => if j = t then .int .u32 (iu32 p) else wcell m t j)
  hh : Blk wr w0.heap.size T (st8 hs)
  kk : Blk wr (w0.heap.size + 1) 78 karr
  zz : Blk wr (w0.heap.size + 1 + 1) T zero8
  bel : Below w0.heap.size w0 wr
theorem BInv.part {T : TypeId} {w0 wr : World} {hs : Sha.St} {m : Nat → UInt32} {t : Nat} (h : BInv T w0 wr hs m t) : PInv T w0 wr hs m t 0 :=
  ⟨h.ww.sub (arr_congr fun j _ => by by_cases e : j = t <;> simp [e, wcell, iu32]), h.hh, h.kk, h.zz, h.bel⟩
theorem PInv.get {T : TypeId} {w0 wr : World} {hs : Sha.St} {m : Nat → UInt32} {t : Nat} {p : UInt32} (h : PInv T w0 wr hs m t p) (h64 : t < 64) :
    wr.cell? ⟨w0.heap.size + 1 + 1 + 1, t, none⟩ = some (.int .u32 (iu32 p)) := by
  rw [h.ww.cell t, arr_at _ h64, if_pos rfl]
theorem PInv.store {T : TypeId} {w0 wr : World} {hs : Sha.St} {m : Nat → UInt32} {t : Nat} {p : UInt32} (h : PInv T w0 wr hs m t p) (x : UInt32) :
    PInv T w0 (wr.setCell ⟨w0.heap.size + 1 + 1 + 1, t, none⟩ (.int .u32 (iu32 x))).drew hs m t x := by
  refine ⟨?_, h.hh.off (by omega) _, h.kk.off (by omega) _, h.zz.off (by omega) _, (h.bel.set_ (by omega) _).drew⟩
  have hs := h.ww.set_ t (.int .u32 (iu32 x))
  rw [arr_set] at hs
  refine hs.sub (arr_congr fun i hi => ?_)
  by_cases e : i = t
  · simp [e]
  · simp [e]
theorem PInv.whole {T : TypeId} {w0 wr : World} {hs : Sha.St} {m : Nat → UInt32} {t : Nat} {p : UInt32} (h : PInv T w0 wr hs m t p) (e : p = Sha.wd m t) : BInv T w0 wr hs m (t + 1) := by
  subst e
  refine ⟨h.ww.sub (arr_congr fun j _ => ?_), h.hh, h.kk, h.zz, h.bel⟩
  by_cases e : j = t
  · simp [e, wcell]
  · simp only [if_neg e, wcell]
    by_cases e2 : j < t
    · rw [if_pos e2, if_pos (by omega)]
    · rw [if_neg e2, if_neg (by omega)]
theorem quiet_left {P : Program} {f : FuncId} {args : Array Value} {w : World} {n : Nat} {v : Value}
    (h : Calls P f args (w.drewN n) fun e w' => e = .returned v ∧ w.drewN n = w') : Calls P f args (w.drewN n) fun e w'' => e = .returned v ∧ ∃ m, w'' = w.drewN m :=
  h.mono fun _ _ ⟨he, hm⟩ => ⟨he, n, hm.symm⟩

end Go.Proofs.Ytekdcjaljjlemaa

/- The program's mixing in of a block answers what the plain function says. Condition: there are 64 bytes. -/
namespace Go.Proofs.Ytekdcjaljjlemaa
open Go.RowKit
set_option maxHeartbeats 1000000 in
set_option maxRecDepth 100000 in
theorem block_any (hs : Sha.St) (b off n c : Nat) (bs : List UInt8) (hn : n = bs.length) (h64 : 64 ≤ n)
   (w : World) (hbl : b < w.heap.size) (hb : ∀ j, j < n → w.cell? ⟨b, off + j, none⟩ = some (.int .u8 (iu8 (bs.getD j 0)))) :
    Calls Try.prog 38 #[.agg (st8 hs), .slice (some ⟨b, off, none⟩) n c, .agg karr] w fun e w' => e = .returned (.agg (st8 (Sha.blk hs bs 0))) ∧ Below w.heap.size w w' := by
  have a64 := alloc64
  have HN := Lib.hid hn; clear hn
  have HB := Lib.hid hb; clear hb
  go_enter Try.func38, Try.ntmps38
  go_wp2
  go_loopw [19] (fun i wr => ∃ t : Nat, t ≤ 16 ∧ i = .int .i64 t ∧ BInv 77 w wr hs (Sha.word bs 0) t) (fun i _ => 16 - (intOf i).toNat)
  case atStart => exact ⟨0, by omega, rfl, BInv.new _ w hs _⟩
  case round =>
    obtain ⟨t, ht, rfl, hI⟩ := hrel
    by_cases hlt : t < 16
    · obtain ⟨x0, h0⟩ : ∃ x, x = bs.getD (4 * t) 0 := ⟨_, rfl⟩
      obtain ⟨x1, h1⟩ : ∃ x, x = bs.getD (4 * t + 1) 0 := ⟨_, rfl⟩
      obtain ⟨x2, h2⟩ : ∃ x, x = bs.getD (4 * t + 2) 0 := ⟨_, rfl⟩
      obtain ⟨x3, h3⟩ : ∃ x, x = bs.getD (4 * t + 3) 0 := ⟨_, rfl⟩
      have c0 := (hI.bel.cell (p := ⟨b, off + 4 * t, none⟩) hbl).trans (HB.out (4 * t) (by omega))
      have c1 := (hI.bel.cell (p := ⟨b, off + (4 * t + 1), none⟩) hbl).trans (HB.out (4 * t + 1) (by omega))
      have c2 := (hI.bel.cell (p := ⟨b, off + (4 * t + 2), none⟩) hbl).trans (HB.out (4 * t + 2) (by omega))
      have c3 := (hI.bel.cell (p := ⟨b, off + (4 * t + 3), none⟩) hbl).trans (HB.out (4 * t + 3) (by omega))
      rw [← h0] at c0; rw [← h1] at c1; rw [← h2] at c2; rw [← h3] at c3
      have HW := Lib.hid (show Sha.wd (Sha.word bs 0) t = Sha.be x0 x1 x2 x3 by rw [Sha.wd_lo _ hlt, h0, h1, h2, h3]; simp [Sha.word])
      clear h0 h1 h2 h3
      have c4 := hI.get' (i := t) (by omega)
      have c5 := hI.ww.frozen t
      go_wp2
      refine wp_region_tail 35 (by kernel_rfl) (by kernel_rfl) ?_
      simp only [List.take_succ_cons, List.take_zero, List.drop_succ_cons, List.drop_zero]
      repeat (go_big_quiet_step (fail))
      refine wpQuiet_nil ?_
      go_wp2
      go_roundw
      case rel => exact ⟨t + 1, by omega, by go_num, hI.store _ HW.out⟩
      case measure => simp [intOf]; omega
    · obtain rfl : t = 16 := by omega
      clear ht hlt
      go_wp2
      go_loopw [9] (fun i wr => ∃ t : Nat, 16 ≤ t ∧ t ≤ 64 ∧ i = .int .i64 t ∧ BInv 77 w wr hs (Sha.word bs 0) t) (fun i _ => 64 - (intOf i).toNat)
      case atStart => exact ⟨16, by omega, by omega, rfl, hI⟩
      case round =>
        clear hI
        obtain ⟨t, ht1, ht2, rfl, hI⟩ := hrel
        by_cases hlt : t < 64
        · go_wp2
          obtain ⟨y2, h2⟩ : ∃ y, y = Sha.wd (Sha.word bs 0) (t - 2) := ⟨_, rfl⟩
          obtain ⟨y7, h7⟩ : ∃ y, y = Sha.wd (Sha.word bs 0) (t - 7) := ⟨_, rfl⟩
          obtain ⟨y15, h15⟩ : ∃ y, y = Sha.wd (Sha.word bs 0) (t - 15) := ⟨_, rfl⟩
          obtain ⟨y16, h16⟩ : ∃ y, y = Sha.wd (Sha.word bs 0) (t - 16) := ⟨_, rfl⟩
          have HW := Lib.hid (show Sha.wd (Sha.word bs 0) t = Sha.s1 y2 + y7 + Sha.s0 y15 + y16 by rw [h2, h7, h15, h16]; exact Sha.wd_hi _ ht1)
          have c15 := hI.get (i := t - 15) (by omega) (by omega)
          rw [← h15] at c15
          have H2 := Lib.hid h2; have H7 := Lib.hid h7; have H15 := Lib.hid h15; have H16 := Lib.hid h16
          clear h2 h7 h15 h16
          go_quiet ((go_at_call 45; exact quiet_left (turned_any _ _ (by omega) (by omega) _)))
          go_wp2
          have hI1 := hI.drewN nq
          clear hI c15
          generalize wr.drewN nq = w1 at hI1 ⊢
          have c2 := hI1.get (i := t - 2) (by omega) (by omega)
          rw [← H2.out] at c2
          go_quiet ((go_at_call 45; exact quiet_left (turned_any _ _ (by omega) (by omega) _)))
          go_wp2
          have hI2 := hI1.drewN nq
          clear hI1 c2
          generalize w1.drewN nq = w2 at hI2 ⊢
          have c7 := hI2.get (i := t - 7) (by omega) (by omega)
          have c16 := hI2.get (i := t - 16) (by omega) (by omega)
          rw [← H7.out] at c7
          rw [← H16.out] at c16
          have c0 := hI2.get' hlt
          have cf := hI2.ww.frozen t
          refine wp_region_tail 15 (by kernel_rfl) (by kernel_rfl) ?_
          simp only [List.take_succ_cons, List.take_zero, List.drop_succ_cons, List.drop_zero]
          repeat (go_big_quiet_step (fail))
          refine wpQuiet_nil ?_
          go_wp2
          go_roundw
          case rel => exact ⟨t + 1, by omega, by omega, by go_num, hI2.store _ (HW.out)⟩
          case measure => simp [intOf]; omega
        · obtain rfl : t = 64 := by omega
          clear ht1 ht2 hlt
          have hX := hI.ww.lt
          have hz8 := zero8_new 77 wr
          go_wp2_with (first
            | (refine wpList_load_blk (o := ⟨some 111, _, _, _, _, _⟩) hI.hh (by rfl) _ _ (by rfl) (by rfl) _ Try.underlying77 (by rfl) size8 (st8_size _) ?_)
            | (show wpList _ _ _ ((⟨none, _, _, _, _, _⟩ : Oper) :: _) _ _; (refine wpList_store_blk (o := ⟨none, _, _, _, _, _⟩) hz8 (by rfl) _ _ _ (by rfl) (by rfl) (st8 hs) (by rfl) size8 zero8_size (st8_size _) (st8_one _) ?_; intro w3 hx3 hu3; have hI3 := (hI.alloc _).upd hu3 (by omega); clear hI hu3 hz8)))
          generalize wr.heap.size = X at hX hx3 ⊢
          go_loopw [112] (fun i wr => ∃ t : Nat, t ≤ 64 ∧ i = .int .i64 t ∧ BInv 77 w wr hs (Sha.word bs 0) 64 ∧ Blk wr X 77 (st8 (Sha.rounds (Sha.word bs 0) hs t))) (fun i _ => 64 - (intOf i).toNat)
          case atStart => exact ⟨0, by omega, rfl, hI3, hx3⟩
          case round =>
            clear hI3 hx3
            obtain ⟨t, ht, rfl, hI, hx⟩ := hrel
            by_cases hlt : t < 64
            · obtain ⟨s, hs'⟩ : ∃ s, s = Sha.rounds (Sha.word bs 0) hs t := ⟨_, rfl⟩
              rw [← hs'] at hx
              obtain ⟨k, hk'⟩ : ∃ k, k = Sha.kt t := ⟨_, rfl⟩
              obtain ⟨y, hy'⟩ : ∃ k, k = Sha.wd (Sha.word bs 0) t := ⟨_, rfl⟩
              have HS := Lib.hid (show Sha.rounds (Sha.word bs 0) hs (t + 1) = Sha.round k y s by rw [hs', hk', hy']; rfl)
              have HK := Lib.hid hk'
              have HY := Lib.hid hy'
              clear hs' hk' hy'
              have r0 : wr.cell? ⟨X, 0, none⟩ = some (.int .u32 (iu32 s.a)) := hx.cell 0
              have r4 : wr.cell? ⟨X, 4, none⟩ = some (.int .u32 (iu32 s.e)) := hx.cell 4
              go_wp2
              go_quiet (fail)
              go_wp2
              replace hI := hI.drewN nq
              replace hx := hx.drewN nq
              clear r0 r4
              generalize wr.drewN nq = w1 at hI hx ⊢
              have r7 : w1.cell? ⟨X, 7, none⟩ = some (.int .u32 (iu32 s.h)) := hx.cell 7
              have r5 : w1.cell? ⟨X, 5, none⟩ = some (.int .u32 (iu32 s.f)) := hx.cell 5
              have r6 : w1.cell? ⟨X, 6, none⟩ = some (.int .u32 (iu32 s.g)) := hx.cell 6
              have rw := hI.get (i := t) hlt hlt
              have rk : w1.cell? ⟨w.heap.size + 1, t, none⟩ = some (.int .u32 (iu32 (Sha.kt t))) := by rw [hI.kk.cell t]; exact arr_at _ hlt
              rw [← HY.out] at rw
              rw [← HK.out] at rk
              go_quiet ((go_at_call 45; exact quiet_left (turned_any _ _ (by omega) (by omega) _)))
              go_wp2
              replace hI := hI.drewN nq
              replace hx := hx.drewN nq
              clear r7 r5 r6 rw rk
              generalize w1.drewN nq = w2 at hI hx ⊢
              have r1 : w2.cell? ⟨X, 1, none⟩ = some (.int .u32 (iu32 s.b)) := hx.cell 1
              have r2 : w2.cell? ⟨X, 2, none⟩ = some (.int .u32 (iu32 s.c)) := hx.cell 2
              go_quiet ((go_at_call 45; exact quiet_left (turned_any _ _ (by omega) (by omega) _)))
              replace hI := hI.drewN nq
              replace hx := hx.drewN nq
              clear r1 r2
              generalize w2.drewN nq = w3 at hI hx ⊢
              have r1 : w3.cell? ⟨X, 1, none⟩ = some (.int .u32 (iu32 s.b)) := hx.cell 1
              have r2 : w3.cell? ⟨X, 2, none⟩ = some (.int .u32 (iu32 s.c)) := hx.cell 2
              have r3 : w3.cell? ⟨X, 3, none⟩ = some (.int .u32 (iu32 s.d)) := hx.cell 3
              have r5 : w3.cell? ⟨X, 5, none⟩ = some (.int .u32 (iu32 s.f)) := hx.cell 5
              have r6 : w3.cell? ⟨X, 6, none⟩ = some (.int .u32 (iu32 s.g)) := hx.cell 6
              go_wp2_with (show wpList _ _ _ ((⟨none, _, _, _, _, _⟩ : Oper) :: _) _ _; ((refine wpList_store_blk (o := ⟨none, _, _, _, _, _⟩) hx (by rfl) _ _ _ (by rfl) (by rfl) (st8 (Sha.round k y s)) (by first | rfl | refine Eq.trans (b := Value.agg #[.int .u32 ((iu32 _ + iu32 _) % 4294967296), _, _, _, .int .u32 ((iu32 _ + iu32 _) % 4294967296), _, _, _]) rfl ?_; simp only [u32_add_w]; rfl) size8 (st8_size _) (st8_size _) (st8_one _) ?_; intro w4 hx4 hu4; have hI4 := hI.upd hu4 (by omega); clear hI hx hu4 r1 r2 r3 r5 r6)))
              go_roundw
              case rel => exact ⟨t + 1, by omega, by go_num, hI4, by rw [HS.out]; exact hx4⟩
              case measure => simp [intOf]; omega
            · obtain rfl : t = 64 := by omega
              obtain ⟨xs, hxs⟩ : ∃ s, s = Sha.rounds (Sha.word bs 0) hs 64 := ⟨_, rfl⟩
              rw [← hxs] at hx
              have HX := Lib.hid (show Sha.blk hs bs 0 = Sha.add hs xs by rw [hxs]; rfl)
              clear hxs ht hlt
              have hh0 := hI.hh.sub (sum8_zero hs xs)
              go_wp2
              go_loopw [192] (fun i wr => ∃ t : Nat, t ≤ 8 ∧ i = .int .i64 t ∧ Blk wr w.heap.size 77 (sum8 hs xs t) ∧ Blk wr (w.heap.size + 1 + 1) 77 zero8 ∧ Blk wr X 77 (st8 xs) ∧ Below w.heap.size w wr) (fun i _ => 8 - (intOf i).toNat)
              case atStart => exact ⟨0, by omega, rfl, hh0, hI.zz, hx, hI.bel⟩
              case round =>
                clear hI hx hh0
                obtain ⟨t, ht, rfl, hh, hz, hx, hbel⟩ := hrel
                by_cases hlt : t < 8
                · have c0 := (hh.cell t).trans (sum8_get hs xs t hlt)
                  have c1 := (hx.cell t).trans (st8_get xs t hlt)
                  have cf := hh.frozen t
                  go_wp2
                  refine wp_region_tail 8 (by kernel_rfl) (by kernel_rfl) ?_
                  simp only [List.take_succ_cons, List.take_zero, List.drop_succ_cons, List.drop_zero]
                  repeat (go_big_quiet_step (fail))
                  refine wpQuiet_nil ?_
                  go_wp2
                  go_roundw
                  case rel =>
                    refine ⟨t + 1, by omega, by go_num, ?_, hz.off (by omega) _, hx.off (by omega) _, (hbel.set_ (by omega) _).drew⟩
                    have := hh.set_ t (.int .u32 (iu32 (Sha.get hs t + Sha.get xs t)))
                    rw [sum8_set] at this
                    first | exact this | (rw [← u32_add_w] at this; exact this)
                  case measure => simp [intOf]; omega
                · obtain rfl : t = 8 := by omega
                  rw [sum8_all] at hh
                  go_wp2_with (first
                    | (show wpList _ _ _ ((⟨some 204, _, _, _, _, _⟩ : Oper) :: _) _ _; (refine wpList_load_blk (o := ⟨some 204, _, _, _, _, _⟩) hh (by rfl) _ _ (by rfl) (by rfl) _ Try.underlying77 (by rfl) size8 (st8_size _) ?_))
                    | (show wpList _ _ _ ((⟨none, _, _, _, _, _⟩ : Oper) :: _) _ _; (refine wpList_store_blk (o := ⟨none, _, _, _, _, _⟩) hz (by rfl) _ _ _ (by rfl) (by rfl) (st8 (Sha.add hs xs)) (by rfl) size8 zero8_size (st8_size _) (st8_one _) ?_; intro w5 hz5 hu5; have hbel5 := hbel.upd hu5 (by omega); clear hbel hh hz hx hu5)))
                  refine bodyPost_ret (results_cell_row (by rfl) _ _ _ _ _ _ _ (by rfl) hz5 Try.underlying77 (by rfl) size8) rfl ⟨?_, hbel5⟩
                  rw [HX.out]
end Go.Proofs.Ytekdcjaljjlemaa

/- What the blocks hold in which both texts make a seal: plain facts on worlds. No condition. -/
namespace Go.Proofs.Ytekdcjaljjlemaa
open Go.RowKit
theorem size64 : (Try.prog.info? 78).map (·.size) = some 64 := by kernel_rfl
theorem karr_one : karr.all (·.oneCell') = true := by kernel_rfl

def lenOf : Value → Nat
  | .slice _ n _ => n
  | _ => 0
def zero16 : Array Value := arr 16 fun _ => .int .u8 0
theorem size16 : (Try.prog.info? 57).map (·.size) = some 16 := by kernel_rfl
theorem alloc16 (w : World) : (zeroValue 57).run Try.prog w = .ok (.agg zero16) w := by
  have h : (Try.prog.info? 57).map (fun i => (i.zero, i.size)) = some (some (.agg zero16), 16) := by kernel_rfl
  exact (zero_of_info h).1 w
/-- What the call's own blocks hold: the words, the constants. -/
structure SInv (T : TypeId) (w0 wr : World) (H K : Nat) (s : Sha.St) : Prop where
  hh : Blk wr H T (st8 s)
  kk : Blk wr K 78 karr
  rr : Blk wr w0.heap.size 57 zero16
  h1 : w0.heap.size < H
  h2 : H < K
  bel : Below w0.heap.size w0 wr
theorem SInv.below {T : TypeId} {w0 wr w' : World} {H K : Nat} {s : Sha.St} (h : SInv T w0 wr H K s) (hb : Below wr.heap.size wr w') : SInv T w0 w' H K s :=
  ⟨h.hh.below hb h.hh.lt, h.kk.below hb h.kk.lt, h.rr.below hb h.rr.lt, h.h1, h.h2, h.bel.trans (hb.mono h.bel.size)⟩
theorem SInv.stored {T : TypeId} {w0 wr w' : World} {H K : Nat} {s s' : Sha.St} (h : SInv T w0 wr H K s) (hb : Blk w' H T (st8 s')) (u : Upd H wr w') : SInv T w0 w' H K s' :=
  ⟨hb, h.kk.upd u (by have := h.h2; omega), h.rr.upd u (by have := h.h1; omega), h.h1, h.h2, h.bel.upd u (by have := h.h1; omega)⟩

theorem SInv.grown {T : TypeId} {w0 wr w' : World} {H K : Nat} {s : Sha.St} {row : Option Nat} (h : SInv T w0 wr H K s) (hg : wr.grownBy w' row) (hr : ∀ k, row = some k → K < k) : SInv T w0 w' H K s := by
  have hne : ∀ k, k ≤ K → some k ≠ row := fun k hk e => by have := hr k e.symm; omega
  have h1 := h.h1
  have h2 := h.h2
  exact ⟨(hg.block _ h.hh.lt (hne _ (by omega))).trans h.hh, (hg.block _ h.kk.lt (hne _ (by omega))).trans h.kk, (hg.block _ h.rr.lt (hne _ (by omega))).trans h.rr, h.h1, h.h2,
    h.bel.grown hg h.bel.size (fun k hk => by have := hr k hk; omega)⟩
theorem SInv.alloc {T : TypeId} {w0 wr : World} {H K : Nat} {s : Sha.St} (h : SInv T w0 wr H K s) (o : Obj) : SInv T w0 (wr.alloc o) H K s := h.below ((Below.refl _ _).alloc (Nat.le_refl _) o)
/-- The 16 bytes, of which the first 4 i have been laid. -/
def darr (x : Sha.St) (i : Nat) : Array Value := arr 16 fun k => if k < 4 * i then u8v (Sha.outAt x k) else .int .u8 0
theorem darr_zero (x : Sha.St) : zero16 = darr x 0 := arr_congr fun i _ => by simp
theorem darr_all (x : Sha.St) : darr x 4 = ((Sha.out x).map u8v).toArray := by
  unfold Sha.out
  rw [List.map_map, arr_list]
  exact arr_congr fun i h => by simp [h]
theorem byte_eq (y : UInt32) (i : Nat) : iu32 y / 2 ^ (24 - 8 * i) % 256 = iu8 (Sha.byte y i) := by
  rw [Sha.byte, iu8_ofNat_mod]; unfold iu32; simp
theorem darr_set (x : Sha.St) (i : Nat) (y : UInt32) (hy : y = Sha.get x i) :
    ((((darr x i).setIfInBounds (4 * i) (.int .u8 (iu8 (Sha.byte y 0)))).setIfInBounds (4 * i + 1) (.int .u8 (iu8 (Sha.byte y 1)))).setIfInBounds (4 * i + 2) (.int .u8 (iu8 (Sha.byte y 2)))).setIfInBounds (4 * i + 3) (.int .u8 (iu8 (Sha.byte y 3))) = darr x (i + 1) := by
  unfold darr
  rw [arr_set, arr_set, arr_set, arr_set]
  refine arr_congr fun k _ => ?_
  have hv : ∀ r, r < 4 → u8v (Sha.outAt x (4 * i + r)) = .int .u8 (iu8 (Sha.byte y r)) := fun r hr => by
    have e1 : (4 * i + r) / 4 = i := by omega
    have e2 : (4 * i + r) % 4 = r := by omega
    unfold Sha.outAt u8v
    rw [e1, e2, hy]
  by_cases h3 : k = 4 * i + 3
  · rw [if_pos h3, if_pos (by omega), h3, hv 3 (by omega)]
  rw [if_neg h3]
  by_cases h2 : k = 4 * i + 2
  · rw [if_pos h2, if_pos (by omega), h2, hv 2 (by omega)]
  rw [if_neg h2]
  by_cases h1 : k = 4 * i + 1
  · rw [if_pos h1, if_pos (by omega), h1, hv 1 (by omega)]
  rw [if_neg h1]
  by_cases h0 : k = 4 * i
  · have := hv 0 (by omega)
    rw [if_pos h0, if_pos (by omega), h0]; exact this.symm
  rw [if_neg h0]
  by_cases hk : k < 4 * i
  · rw [if_pos hk, if_pos (by omega)]
  · rw [if_neg hk, if_neg (by omega)]
theorem SInv.off {T : TypeId} {w0 wr : World} {H K D i : Nat} {s : Sha.St} (h : SInv T w0 wr H K s) (hD : K < D) (u : Value) : SInv T w0 (wr.setCell ⟨D, i, none⟩ u) H K s :=
  ⟨h.hh.off (by have := h.h2; omega) u, h.kk.off (by omega) u, h.rr.off (by have := h.h1; have := h.h2; omega) u, h.h1, h.h2, h.bel.set_ (by have := h.h1; have := h.h2; omega) u⟩
end Go.Proofs.Ytekdcjaljjlemaa
