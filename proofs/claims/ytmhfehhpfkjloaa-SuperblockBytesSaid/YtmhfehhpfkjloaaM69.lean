/- Loose, of a disk that was made: its loose sectors' numbers, rising, in new memory. Conditions: the disk is whole. -/
import Derived.Test.YtmhfehhpfkjloaaM68
namespace Go
open Go.RowKit Go.Maps Go.WideElems
theorem perm_insert {H : Type} (x : Lit × DataW H) : ∀ l : List (Lit × DataW H), (DataW.insert x l).Perm (x :: l)
  | [] => List.Perm.refl _
  | y :: r => by
    unfold DataW.insert
    split
    · exact List.Perm.refl _
    · exact ((perm_insert x r).cons y).trans (List.Perm.swap x y r)
theorem perm_sorted {H : Type} : ∀ l : List (Lit × DataW H), (l.foldr DataW.insert []).Perm l
  | [] => List.Perm.refl _
  | x :: l => (perm_insert x _).trans ((perm_sorted l).cons x)
/-- How a sector's old bytes are taken: as nothing. -/
def anyR (_ : Value) : Option (DataW Unit × List MemPlace) := some (.nil, [])
section
variable {es : Array MapEntry} {c N : Nat} {old : Nat → Option (List UInt8)} {P : Program} {k : TypeId}
theorem OldIs.read (h : OldIs es c old) (hN : ∀ j l, old j = some l → j < N) (hb : N ≤ 65536) (hk : P.underlying k = some (.int .i64)) {e : MapEntry} (he : e ∈ es.toList) : ∃ j : Nat, j < N ∧ (old j).isSome = true ∧ e.key = .int .i64 (j : Int) ∧ rd P k anyR e = some (.int .i64 (j : Int), .nil) := by
  obtain ⟨j, l, h1, h2, _⟩ := h.ent e he
  have hj := hN j l h2
  refine ⟨j, hj, by rw [h2]; rfl, h1, ?_⟩
  have hw : (Lit.int .i64 (j : Int)).wf = true := by
    show (decide ((-9223372036854775808 : Int) ≤ (j : Int)) && decide ((j : Int) ≤ 9223372036854775807)) = true
    rw [Bool.and_eq_true, decide_eq_true_eq, decide_eq_true_eq]
    omega
  unfold rd
  rw [h1]
  have : keyOf P k (.int .i64 (j : Int)) = some (.int .i64 (j : Int)) := by simp [keyOf, mapKey, hk, hw]
  rw [this]
  rfl
def keyNat (v : Value) : Nat := match v with | .int _ a => a.toNat | _ => 0
theorem OldIs.perm (h : OldIs es c old) (hN : ∀ j l, old j = some l → j < N) : (es.toList.map fun e => keyNat e.key).Perm ((List.range N).filter fun j => (old j).isSome) := by
  refine (List.perm_ext_iff_of_nodup ?_ (List.Pairwise.filter _ List.nodup_range)).2 fun j => ?_
  · have hn := h.stamped.2.2
    unfold List.Nodup at hn ⊢
    rw [List.pairwise_map] at hn ⊢
    refine hn.imp_of_mem fun {a b} ha hb hne e => hne ?_
    obtain ⟨x, _, h1, _⟩ := h.ent a ha
    obtain ⟨y, _, h2, _⟩ := h.ent b hb
    rw [h1, h2] at e ⊢
    have e : (x : Int).toNat = (y : Int).toNat := e
    rw [Int.toNat_natCast, Int.toNat_natCast] at e
    rw [e]
  · rw [List.mem_map, List.mem_filter, List.mem_range]
    constructor
    · rintro ⟨e, he, rfl⟩
      obtain ⟨x, l, h1, h2, _⟩ := h.ent e he
      rw [h1]
      show (x : Int).toNat < N ∧ _
      rw [show keyNat (.int .i64 (x : Int)) = x from Int.toNat_natCast x, Int.toNat_natCast, h2]
      exact ⟨hN x l h2, rfl⟩
    · rintro ⟨_, h1⟩
      obtain ⟨l, hl⟩ := Option.isSome_iff_exists.1 h1
      obtain ⟨e, he, hk⟩ := h.all j l hl
      exact ⟨e, he, by rw [hk]; exact Int.toNat_natCast j⟩
theorem OldIs.size (h : OldIs es c old) (hN : ∀ j l, old j = some l → j < N) : es.size ≤ N := by
  have h1 := (h.perm hN).length_eq
  rw [List.length_map, Array.length_toList] at h1
  rw [h1]
  have := List.length_filter_le (fun j => (old j).isSome) (List.range N)
  rw [List.length_range] at this
  exact this
theorem OldIs.owns (h : OldIs es c old) (hN : ∀ j l, old j = some l → j < N) (hb : N ≤ 65536) (hk : P.underlying k = some (.int .i64)) {w : World} {g : Nat} (hg : MapB w g es c) :
    w.ownsMap P k anyR g es.size (.map ((es.toList.map (rg P k anyR)).foldr DataW.insert [])) := by
  have hs := h.size hN
  refine ⟨es, c, hg, ⟨by simp only [maxLen]; omega, h.stamped, fun e he => ?_⟩, Nat.le_refl _, rfl⟩
  obtain ⟨j, _, _, _, hr⟩ := h.read hN hb hk he
  exact ⟨_, hr⟩
theorem OldIs.ints (h : OldIs es c old) (hN : ∀ j l, old j = some l → j < N) (hb : N ≤ 65536) (hk : P.underlying k = some (.int .i64)) :
    (intKeys (DataW.map ((es.toList.map (rg P k anyR)).foldr DataW.insert []))).Perm (((List.range N).filter fun j => (old j).isSome).map fun j : Nat => (j : Int)) := by
  have h1 : (intKeys (DataW.map ((es.toList.map (rg P k anyR)).foldr DataW.insert []))).Perm ((es.toList.map (rg P k anyR)).map fun p => intOf p.1) := (perm_sorted _).map _
  refine h1.trans ?_
  have h2 : (es.toList.map (rg P k anyR)).map (fun p => intOf p.1) = (es.toList.map fun e => keyNat e.key).map fun j : Nat => (j : Int) := by
    rw [List.map_map, List.map_map]
    refine List.map_congr_left fun e he => ?_
    obtain ⟨j, _, _, hj, hr⟩ := h.read hN hb hk he
    show intOf (rg P k anyR e).1 = ((keyNat e.key : Nat) : Int)
    rw [rg_of hr, hj]
    show (j : Int) = ((j : Int).toNat : Int)
    rw [Int.toNat_natCast]
  rw [h2]
  exact (h.perm hN).map _
theorem sorted_loose (p : Nat → Bool) (N : Nat) {ss : List Int} (h : ss.Perm (((List.range N).filter p).map fun j : Nat => (j : Int))) : ss.mergeSort (fun x y => decide (x ≤ y)) = ((List.range N).filter p).map fun j : Nat => (j : Int) := by
  have h1 := mergeSort_of_perm_i h
  refine h1.trans (List.mergeSort_of_pairwise ?_)
  rw [List.pairwise_map]
  refine (List.Pairwise.filter p List.pairwise_lt_range).imp fun {a b} hab => ?_
  simp only [leI, decide_eq_true_eq]
  omega
end
end Go
namespace Go.Proofs.Ytmhfehhpfkjloaa
open Go.RowKit Go.Maps Go.Sort Go.Shelf
theorem sortsA (m : Nat) : AnyZI.SortsIn Try.prog Try.dkSorted_ren Fence.wide m :=
  ⟨fun blk off cap ss W hH hblk hsz => callsIn_wide.2 (AnyM.slices_Sort_int Try.dkSort blk off cap ss W hH hblk hsz),
   fun p cap W => callsIn_wide.2 (AnyM.slices_Sort_int_none Try.dkSort p cap W)⟩
set_option maxRecDepth 100000 in
set_option maxHeartbeats 4000000 in
theorem loose_all {w : World} {p : Pl} {gf : Option Nat} {d : Dsk} (hd : DskR w p gf d) (hok : d.Ok) :
    Calls Try.prog 47 #[.pointer (some ⟨p.gd, 0, none⟩)] w fun e w' => ∃ A cp, e = .returned (.slice A d.loose.length cp) ∧ Reads w' A (d.loose.map fun j : Nat => iv (j : Int)) ∧ (∀ ad, A = some ad → w.heap.size ≤ ad.block) ∧ Below w.heap.size w w' := by
  obtain ⟨es, c, hdc, ho⟩ := hd
  have hN : ∀ j l, d.old j = some l → j < d.N := fun j l h => (hok.old j l h).1
  have hn := none_made w hdc
  have d1 := hdc.1.at_ 1 (v := .map (some p.gm)) rfl
  have hsz := ho.size hN
  have hn2 := hok.n2
  have hown := ho.owns hN hok.n2 (P := Try.prog) (k := 3) Try.underlying3 hdc.2.2
  have hper := ho.ints hN hok.n2 (P := Try.prog) (k := 3) Try.underlying3
  have hbl := hdc.2.2.lt
  have hDs : Maps.size (DataW.map ((es.toList.map (Go.WideElems.rg Try.prog 3 anyR)).foldr DataW.insert [])) = es.size := by
    show ((es.toList.map (Go.WideElems.rg Try.prog 3 anyR)).foldr DataW.insert []).length = _
    rw [length_sorted, List.length_map, Array.length_toList]
  generalize hD : (DataW.map ((es.toList.map (Go.WideElems.rg Try.prog 3 anyR)).foldr DataW.insert [])) = D0 at hown hper hDs
  have cK : Calls Try.prog 78 #[.map (some p.gm)] w fun e w' => e = .returned (.func (.func 99) #[] #[.pointer (some ⟨w.heap.size, 0, none⟩)]) ∧ w' = w.alloc (.cells #[.map (some p.gm)] 29) :=
    callsIn_wide.1 (AnyZI.keys_in Try.dkKeys Fence.wide 5 trivial rfl (some p.gm) w)
  have hseq : SeqGives Fence.wide 2 Try.prog 99 #[.pointer (some ⟨w.heap.size, 0, none⟩)] encZ (fun ss => ss.Perm (intKeys D0)) (Maps.size D0) (w.alloc (.cells #[.map (some p.gm)] 29)) :=
    AnyZI.keys_gives (ρ := Try.dkKeys_ren) { Try.dkKeys with } Fence.wide _ trivial rfl (by omega) w.heap.size p.gm es.size D0 _ (by simp) (by simp) (by
      obtain ⟨es', clock, hb, Ft, hs, hD⟩ := hown
      exact ⟨es', clock, (Below.heap_alloc _ _ p.gm hbl).trans hb, Ft, hs, hD⟩)
  have cS := callsIn_wide.1 (AnyZI.sorted_in Try.dkSorted Fence.wide 5 trivial trivial trivial trivial rfl (by omega) (sortsA _) (enters_of Try.func98 (by kernel_rfl) rfl) 99 #[.pointer (some ⟨w.heap.size, 0, none⟩)] trivial (enters_of Try.func99 (by kernel_rfl) rfl) _ _ (by rw [hDs]; simp only [maxLen]; omega) (by rw [hDs]; omega) _ hseq)
  change Calls _ 77 _ _ _ at cS
  have HH := Lib.hid (And.intro hper hsz)
  clear hseq hDs hD hown hper hbl hN hok ho hdc hsz hn2
  go_enter Try.func47, Try.ntmps47
  go_wp2_with fail
  refine hn.mono ?_
  rintro e w4 ⟨rfl, hw⟩
  obtain rfl := hw.symm
  clear hw hn
  go_wp2_with fail
  refine cK.mono ?_
  rintro e w5 ⟨rfl, rfl⟩
  clear cK
  go_wp2_with fail
  refine cS.mono ?_
  rintro e w6 ⟨v, ss, rfl, hS, hrow, hnil, hb⟩
  have HR := Lib.hid (And.intro hS (And.intro hrow (And.intro hnil hb)))
  clear hS hrow hnil hb cS d1
  go_wp2
  go_ret
  obtain ⟨hS, hrow, hnil, hb⟩ := HR.out
  have hp2 := hS.trans HH.out.1
  have hlen : ss.length = d.loose.length := by have h := hp2.length_eq; rw [List.length_map] at h; exact h
  rw [sorted_loose _ _ hp2, hlen] at hrow
  have hB := ((Below.refl _ w).alloc (Nat.le_refl _) (.cells #[.map (some p.gm)] 29)).trans (hb.mono (by simp))
  rcases hrow.2 with ⟨rfl, hn0⟩ | ⟨g, cap, cur, rfl, hg, hcell, h1, h2, h3, h4⟩
  · refine ⟨none, 0, by rw [hn0]; rfl, ?_, (fun ad e => by cases e), hB⟩
    rw [List.length_eq_zero_iff.1 hn0]
    exact Reads.nil _ _
  · refine ⟨_, cap, rfl, fun _ => ⟨g, 0, rfl, fun j v hv => ?_⟩, (fun ad e => by cases e; simp at hg; simp; omega), hB⟩
    rw [Nat.zero_add]
    rw [Nat.mul_one] at h4
    have h5 : cur.toList.take d.loose.length = d.loose.map fun j : Nat => iv (j : Int) := by rw [h4, List.map_map]; rfl
    have h6 : cur[j]? = some v := by
      have h7 : (cur.toList.take d.loose.length)[j]? = some v := by rw [h5]; exact hv
      rw [List.getElem?_take] at h7
      split at h7
      · rw [← Array.getElem?_toList]; exact h7
      · cases h7
    exact Blk.at_ (show Blk w6 g 3 cur from hcell) j h6
end Go.Proofs.Ytmhfehhpfkjloaa

/- copy(d, s), d in an own block of bytes from a place on. Plain facts over any program. No condition. -/
namespace Go
open Go.RowKit
/-- copy(d, s), d in an own block of bytes from a place on. -/
theorem wpList_copy_at {P : Program} {w : World} {ops : Array Oper} {rest : List Oper} {o : Oper} {a : Act} {Q : Exit → Act → World → Prop} (hgd : o.guard = none) (d s : Operand) (dT sT : TypeId)
    (ho : o.op = .call { callee := .builtin .copy, args := #[d, s], argTypes := #[dT, sT] }) (elem : TypeId) (hu : P.underlying dT = some (.slice elem)) (hsz : (P.info? elem).map (·.size) = some 1)
    (g off dLen dCap : Nat) (A : Option Addr) (sLen sCap : Nat) (hd : a.eval d = .slice (some ⟨g, off, none⟩) dLen dCap) (hs : a.eval s = .slice A sLen sCap)
    (cur l : List UInt8) (t : TypeId) (hg : Blk w g t (cur.map u8v).toArray) (hn : l.length = sLen) (hb : Bytes w A l) (hfit : off + l.length ≤ cur.length) (hfit2 : l.length ≤ dLen)
    (h : ∀ w', Blk w' g t ((cur.take off ++ (l ++ cur.drop (off + l.length))).map u8v).toArray → Upd g w w' → wpList P ops Q rest (a.put o.dst (goInt l.length)) w') : wpList P ops Q (o :: rest) a w := by
  by_cases h0 : l.length = 0
  · obtain rfl : l = [] := List.eq_nil_of_length_eq_zero h0
    simp at hn
    subst hn
    refine wpList_copy_nothing hgd d s dT sT ho elem hu hsz _ A dLen dCap 0 sCap hd hs (by simp) ?_
    exact h w (by simpa using hg) ⟨rfl, rfl, rfl, rfl, fun _ _ => rfl⟩
  · obtain ⟨b, soff, rfl, _, hc⟩ := hb.at_ (by omega)
    have := wpList_copy_own (Q := Q) (rest := rest) (ops := ops) (w := w) hgd d s dT sT ho elem hu hsz g off dLen dCap ⟨b, soff, none⟩ sLen sCap hd hs (cur.map u8v).toArray t hg (l.map u8v) (by rw [List.length_map, hn]; exact (Nat.min_eq_left (by omega)).symm)
      (fun j v hv => by
        have hj : j < l.length := by
          rcases Nat.lt_or_ge j l.length with h1 | h1
          · exact h1
          · simp [List.getElem?_eq_none h1] at hv
        have h2 := hc j hj
        simp [hj] at hv
        rw [Addr.add_lit, h2, ← hv]; simp [u8v, hj]) (by simpa using hfit) (u8v_one l)
    refine this ?_
    have e1 : ((((cur.map u8v).toArray.toList.take off) ++ (l.map u8v ++ (cur.map u8v).toArray.toList.drop (off + (l.map u8v).length))).toArray) = ((cur.take off ++ (l ++ cur.drop (off + l.length))).map u8v).toArray := by simp
    rw [e1]
    have e2 : ((l.map u8v).length : Int) = (l.length : Int) := by simp
    rw [e2]
    exact h _ (hg.setRow _) (Upd.setRow _ _ _)
end Go

/- Crash, of a disk that was made. Conditions: the disk is whole; what is to stay can be read, apart from the disk's sectors. -/
namespace Go
open Go.RowKit Go.Instr Go.MapKept
section
variable {P : Program} {w : World} {ops : Array Oper} {rest : List Oper} {o : Oper} {a : Act} {Q : Exit → Act → World → Prop}
theorem run_lookup1_int (t kt et : TypeId) (ht : P.underlying t = some (.map kt et)) (hk : P.underlying kt = some (.int .i64)) (g : Nat) (es : Array MapEntry) (c : Nat) (hg : MapB w g es c) (hes : IntKeys es.toList) (x : Int) (z : Value)
    (hz : (zeroValue et).run P w = .ok z w) : (lookup t (.map (some g)) (.int .i64 x) false).run P w = .ok ((mget es x).getD z) w := by
  have h1 := run_checkKey (P := P) (w := w) (k := .int .i64 x) hk rfl es.isEmpty 9999
  have h2 := run_findKey (w := w) hk (findNow_int x es.toList 0 hes)
  have h0 : (getObj g).run P w = .ok (.map es c) w := MapKept.run_getObj_map hg
  unfold lookup mget
  cases hm : mfind es.toList x 0 with
  | none => rw [hm] at h2; simp [run_underlying ht, h0, h1, h2, hz, Result.andThen]
  | some p => rw [hm] at h2; simp [run_underlying ht, h0, h1, h2, Result.andThen]
theorem wpList_lookup1_int (hgd : o.guard = none) (t kt et : TypeId) (m k : Operand) (ho : o.op = .lookup t m k false) (ht : P.underlying t = some (.map kt et)) (hk : P.underlying kt = some (.int .i64)) (g : Nat) (es : Array MapEntry) (c : Nat)
    (hg : MapB w g es c) (hes : IntKeys es.toList) (x : Int) (z : Value) (hz : (zeroValue et).run P w = .ok z w) (hm : a.eval m = .map (some g)) (hx : a.eval k = .int .i64 x)
    (h : wpList P ops Q rest (a.put o.dst ((mget es x).getD z)) w) : wpList P ops Q (o :: rest) a w :=
  wpList_run _ hgd (by unfold execOp; simp only [ho, hm, hx, run_lookup1_int t kt et ht hk g es c hg hes x z hz, Sem.run_bind, Result.andThen_ok, Sem.run_pure]) h
theorem MapB.offMap {w : World} {g g' : Nat} {es : Array MapEntry} {c : Nat} {t : TypeId} {cs : Array Value} (h : MapB w g es c) (h' : Blk w g' t cs) : g ≠ g' := fun e => (h'.offMap h) e.symm
end
end Go
namespace Go.Proofs.Ytmhfehhpfkjloaa
open Go.RowKit
theorem Reads.nearX {A : Option Addr} {xs : List Value} {X : List Nat} {w w' : World} (h : Reads w A xs) (k : Near X w w') (hn : ∀ ad, A = some ad → ad.block ∉ X) : Reads w' A xs := fun hne => by
  obtain ⟨b, off, e, hc⟩ := h hne
  exact ⟨b, off, e, fun j v hv => (k.cell (p := ⟨b, off + j, none⟩) (World.block_lt_of_cell? w _ (hc j v hv)) (hn ⟨b, off, none⟩ e)).trans (hc j v hv)⟩
theorem crashL_cons (old : Nat → Option (List UInt8)) (keeps : List Bool) (tear : Int) (k : Nat) (ks : List Nat) (i stay : Nat) (L : List UInt8) : crashL old keeps tear (k :: ks) i stay L =
    if keeps.getD i false = false then crashL old keeps tear ks (i + 1) stay (Go.wr L (256 * k) ((old k).getD []))
    else if (stay : Int) = tear then crashL old keeps tear ks (i + 1) (stay + 1) (Go.wr L (256 * k + 128) (((old k).getD []).drop 128))
    else crashL old keeps tear ks (i + 1) (stay + 1) L := rfl
section
variable {w w' : World} {p : Pl} {gf : Option Nat} {d : Dsk} {f : Option Fus}
/-- What a round of the crash finds. -/
def CrRel (w : World) (p : Pl) (gf : Option Nat) (d : Dsk) (keeps : List Bool) (tear : Int) (v7 v16 : Value) (wr : World) : Prop :=
  ∃ (i stay : Nat) (L : List UInt8), i ≤ d.loose.length ∧ v7 = .int .i64 (stay : Int) ∧ v16 = .int .i64 (i : Int) ∧ stay ≤ i ∧ L.length = d.N * 256 ∧
    crashL d.old keeps tear (d.loose.drop i) i stay L = crashL d.old keeps tear d.loose 0 0 d.L ∧ DskR wr p gf { d with L := L } ∧ Near [p.gl] w wr
set_option maxRecDepth 100000 in
set_option maxHeartbeats 4000000 in
theorem crash_all (K : Option Addr) (keeps : List Bool) (kc : Nat) (tear : Int) (hK : Reads w K (keeps.map .bool)) (hKX : keeps ≠ [] → ∀ ad, K = some ad → ad.block ∉ [p.gl]) (hkl : keeps.length ≤ 1099511627776) (hd : DskR w p gf d) (hok : d.Ok) :
    Calls Try.prog 41 #[.pointer (some ⟨p.gd, 0, none⟩), .slice K keeps.length kc, .int .i64 tear] w fun e w' => e = .returned (.int .i64 0) ∧ DskR w' p none (d.crash keeps tear) ∧ Near [p.gd, p.gl, p.gm] w w' := by
  have hap := hd.apart
  have hn : Calls Try.prog 68 #[.pointer (some ⟨p.gd, 0, none⟩)] w fun e w' => e = .returned (.bool false) ∧ w' = w := by obtain ⟨es, c, hdc, -⟩ := hd; exact none_made w hdc
  have hlo := loose_all hd hok
  have hlt := hd.lt
  have hll : d.loose.length ≤ d.N := by have := List.length_filter_le (fun k => (d.old k).isSome) (List.range d.N); rw [List.length_range] at this; exact this
  have hn2 := hok.n2
  have HH := Lib.hid (And.intro hK (And.intro hKX (And.intro hkl (And.intro hd (And.intro hok (And.intro hap (And.intro hlt hll)))))))
  clear hK hKX hkl hd hok hap hlt
  go_enter Try.func41, Try.ntmps41
  go_wp2_with fail
  refine hn.mono ?_
  rintro e w4 ⟨rfl, hw⟩
  obtain rfl := hw.symm
  clear hw hn
  go_wp2_with fail
  refine hlo.mono ?_
  rintro e w5 ⟨A, cp, rfl, hA, hAf, hb⟩
  have hnr := Near.below (X := [p.gl]) hb
  have hS : CrRel w5 p gf d keeps tear (.int .i64 0) (.int .i64 0) w5 := ⟨0, 0, d.L, Nat.zero_le _, rfl, rfl, Nat.le_refl _, HH.out.2.2.2.2.1.len, rfl, by
    obtain ⟨es, c, hdc, ho⟩ := HH.out.2.2.2.1
    exact ⟨es, c, hdc.below hb, ho⟩, Near.refl _ _⟩
  have HA := Lib.hid (And.intro hA (And.intro (show ∀ ad, A = some ad → ad.block ∉ [p.gl] from fun ad e => by have h1 := hAf ad e; have h2 := HH.out.2.2.2.2.2.2.1; simp; omega) (And.intro hnr (show Reads w5 K (keeps.map .bool) from HH.out.1.below hb))))
  clear hA hAf hb hnr hlo
  go_wp2_with fail
  go_loopw [7, 16] (fun v7 v16 wr => CrRel w5 p gf d keeps tear v7 v16 wr) (fun _ v _ => d.loose.length - (intOf v).toNat)
  case atStart => exact hS
  case round =>
    clear hS
    obtain ⟨i, stay, L, hi, rfl, rfl, hsi, hL, hcr, hdr, hnr⟩ := hrel
    by_cases hlt : i < d.loose.length
    case neg =>
      obtain rfl : i = d.loose.length := by omega
      have hcr2 : L = crashL d.old keeps tear d.loose 0 0 d.L := by rw [← hcr, List.drop_length]; rfl
      have hap := HH.out.2.2.2.2.2.1
      obtain ⟨es, c, hdc, ho⟩ := hdr
      have d1 := hdc.1.at_ 1 (v := .map (some p.gm)) rfl
      have HD := Lib.hid (And.intro hdc (And.intro hcr2 (HA.out.2.2.1.trans hnr)))
      clear hi hsi hcr hlt hL hnr hcr2 ho hdc
      go_wp2_with (first
        | ((with_reducible show wpList _ _ _ ((⟨none, _, _, _, _, _⟩ : Oper) :: _) _ _); refine wpList_clear_map (o := ⟨none, _, _, _, _, _⟩) (by rfl) _ _ _ (by rfl) Try.underlying29 p.gm es c HD.out.1.2.2 (by rfl) ?_; intro w7 hm7 hu7; have hb7 := HD.out.1.1.upd hu7 hap.2.1; have hl7 := HD.out.1.2.1.upd hu7 hap.2.2; have e2 := hb7.at_ 2 (v := .bool d.out) rfl; have e3 := hb7.at_ 3 (v := .pointer (gf.map fun g => ⟨g, 0, none⟩)) rfl; have f2 := hb7.frozen 2; have f3 := hb7.frozen 3; have HE := Lib.hid (And.intro hb7 (And.intro hl7 (And.intro hm7 hu7))); clear hb7 hl7 hm7 hu7 d1)
        | fail)
      go_ret
      have hb7 := HE.out.1
      have hq : Blk ((w7.setCell ⟨p.gd, 2, none⟩ (.bool false)).setCell ⟨p.gd, 3, none⟩ (.pointer none)) p.gd 32 (dkc p.gl p.gm d.N false none d.ops) := ((hb7.set_ 2 (.bool false)).set_ 3 (.pointer none)).sub rfl
      have hl : Blk ((w7.setCell ⟨p.gd, 2, none⟩ (.bool false)).setCell ⟨p.gd, 3, none⟩ (.pointer none)) p.gl 113 (L.map u8v).toArray := (HE.out.2.1.off (fun e => hap.1 e.symm) _).off (fun e => hap.1 e.symm) _
      have hm : MapB ((w7.setCell ⟨p.gd, 2, none⟩ (.bool false)).setCell ⟨p.gd, 3, none⟩ (.pointer none)) p.gm #[] c := HE.out.2.2.1.upd (((Upd.refl p.gd w7).set 2 _).set 3 _) (fun e => hap.2.1 e.symm)
      refine ⟨rfl, ⟨#[], c, ⟨hq, ?_, hm⟩, OldIs.nil c⟩, ?_⟩
      · show Blk _ p.gl _ ((crashL d.old keeps tear d.loose 0 0 d.L).map u8v).toArray
        rw [← HD.out.2.1]
        exact hl
      · exact (HD.out.2.2.wider (fun x hx => by simp at hx; simp [hx])).trans ((Near.upd HE.out.2.2.2 (by simp)).trans (Near.upd (((Upd.refl p.gd w7).set 2 _).set 3 _) (by simp)))
    obtain ⟨k, hk⟩ : ∃ k, k = d.loose[i] := ⟨_, rfl⟩
    have hkm : k ∈ d.loose := by rw [hk]; exact List.getElem_mem _
    obtain ⟨hkN, hks⟩ := Dsk.loose_mem.1 hkm
    obtain ⟨ob, hob⟩ := Option.isSome_iff_exists.1 hks
    have hol : ob.length = 256 := (HH.out.2.2.2.2.1.old k ob hob).2
    have hA5 := Reads.nearX HA.out.1 hnr HA.out.2.1
    obtain ⟨ab, aoff, hAe, hac⟩ := hA5 (by intro e; have e2 := congrArg List.length e; rw [List.length_map, List.length_nil] at e2; omega)
    have dA : wr.cell? ⟨ab, aoff + i, none⟩ = some (.int .i64 (k : Int)) := hac i _ (by rw [List.getElem?_map, List.getElem?_eq_getElem hlt, ← hk]; rfl)
    have hK5 := fun (h : keeps ≠ []) => Reads.nearX HA.out.2.2.2 hnr (HH.out.2.1 h)
    rw [List.drop_eq_getElem_cons hlt, ← hk] at hcr
    have hap := HH.out.2.2.2.2.2.1
    obtain ⟨es, c, hdc, ho⟩ := hdr
    have hgv : (mget es (k : Int)).getD (.agg zeroSec) = .agg (ob.map u8v).toArray := by rw [ho.get]; show ((d.old k).map _).getD _ = _; rw [hob]; rfl
    have d1 := hdc.1.at_ 1 (v := .map (some p.gm)) rfl
    have aS := allocSec
    have hX0 : ∀ g, g ∉ ([] : List Nat) := fun g h => by cases h
    have hz := (Blk.new wr 113 zeroSec).sub zeroSec_list
    have hbz := (Below.refl wr.heap.size wr).alloc (Nat.le_refl _) (.cells zeroSec 113)
    have hi1 : wrap64 ((i : Int) + 1) = ((i + 1 : Nat) : Int) := by unfold wrap64; omega
    have hs1 : wrap64 ((stay : Int) + 1) = ((stay + 1 : Nat) : Int) := by unfold wrap64; omega
    have hkA : A = some ⟨ab, aoff, none⟩ := hAe
    have HK := Lib.hid (And.intro ho (And.intro hdc (And.intro hgv (And.intro hcr (And.intro hnr (And.intro hL (And.intro hob hol)))))))
    have HL := Lib.hid (And.intro hlt (And.intro hkN hsi))
    have hlsz := hdc.2.1.lt
    subst hkA
    obtain ⟨q, hq⟩ : ∃ q, q = keeps.getD i false := ⟨_, rfl⟩
    have hKc : keeps.length ≤ i ∨ (i < keeps.length ∧ ∃ kb koff, K = some ⟨kb, koff, none⟩ ∧ wr.cell? ⟨kb, koff + i, none⟩ = some (.bool q)) := by
      rcases Nat.lt_or_ge i keeps.length with h1 | h1
      · obtain ⟨kb, koff, e1, e2⟩ := hK5 (by rintro rfl; exact absurd h1 (Nat.not_lt_zero _)) (by intro e; have e2 := congrArg List.length e; rw [List.length_map, List.length_nil] at e2; omega)
        refine .inr ⟨h1, kb, koff, e1, e2 i _ ?_⟩
        rw [List.getElem?_map, List.getElem?_eq_getElem h1, hq, List.getD_eq_getElem?_getD, List.getElem?_eq_getElem h1]; rfl
      · exact .inl h1
    have HQ := Lib.hid hq
    clear hL ho hdc hgv hcr hnr hob hol hAe hac hkm hks hA5 hK5 hq hk hsi hi
    rcases hKc with hge | ⟨hkl, kb, koff, hKe, dK⟩
    · have hgi : decide (keeps.length ≤ i) = true := by simp; omega
      have hq0 : q = false := by rw [HQ.out, List.getD_eq_getElem?_getD, List.getElem?_eq_none hge]; rfl
      subst hq0
      clear hge
      go_wp2_with (first
        | ((with_reducible show wpList _ _ _ ((⟨some 26, _, _, _, _, _⟩ : Oper) :: _) _ _); refine wpList_lookup1_int (o := ⟨some 26, _, _, _, _, _⟩) (by rfl) _ _ _ _ _ (by rfl) Try.underlying29 Try.underlying3 p.gm es c HK.out.2.1.2.2 HK.out.1.keys (k : Int) (.agg zeroSec) (allocSec _) (by rfl) (by rfl) ?_; rw [HK.out.2.2.1])
        | ((with_reducible show wpList _ _ _ ((⟨none, _, _, _, _, _⟩ : Oper) :: _) _ _); (refine wpList_store_blk (o := ⟨none, _, _, _, _, _⟩) (hz) (by rfl) _ _ _ (by rfl) (by rfl) ((ob.map u8v).toArray) (by rfl) (sizeSec) (by simp) (by rw [List.size_toArray, List.length_map]; exact HK.out.2.2.2.2.2.2.2) (sec_one _) ?_); intro w6 h6 hu6; have hn6 : Near [] wr w6 := (Near.below hbz).new hu6 (Nat.le_refl _); have HN6 := Lib.hid (And.intro hn6 (And.intro h6 (show DiskB w6 p.gd p.gl p.gm d.N L es c d.out gf d.ops from HK.out.2.1.near hn6 ⟨hX0 _, hX0 _, hX0 _⟩))); clear hn6 h6 hu6 hz hbz d1 dA aS)
        | fail)
      have hC6 := (Near.refl [p.gl] w6).drew
      have hX6 : p.gd ∉ [p.gl] ∧ p.gm ∉ [p.gl] ∧ wr.heap.size ∉ [p.gl] := by simp; exact ⟨hap.1, fun e => hap.2.2 e.symm, by omega⟩
      refine wp_region_tree (Near [p.gl] w6) [] (PlanT.takes [0, 1, 2, 4] (PlanT.takes [3, 5] (PlanT.takes [6] (.opt 7 .done .no)))) (by kernel_rfl) (by kernel_rfl) (hC6) ?_
      refine wpTree_pure _ _ _ (by rfl) (by rfl) ?_
      dsimp only [List.filterMap, List.getElem?_cons_zero, List.getElem?_cons_succ]
      repeat (go_big_quiet_step (fail))
      refine wpQuiet_nil ?_
      refine wpTree_takeL _ _ _ (by rfl) (by rfl) (hC6) ?_
      dsimp only [List.filterMap, List.getElem?_cons_zero, List.getElem?_cons_succ]
      (refine wpQuiet_load_cell (fun w' hw' => (Blk.near HN6.out.2.2.1 hw' hX6.1).at_ 0 (v := .slice (some ⟨p.gl, 0, none⟩) d.N d.N) rfl) (by rfl) _ _ (by rfl) (by rfl) _ Try.underlying28 (by rfl) ?_; simp only [Act.put, List.setIfInBounds_toArray, List.set_cons_zero, List.set_cons_succ])
      (refine wpQuiet_load_blk (fun w' hw' => Blk.near HN6.out.2.1 hw' hX6.2.2) (by rfl) _ _ (by rfl) (by rfl) _ Try.underlying113 (by rfl) (sizeSec) (by rw [List.size_toArray, List.length_map]; exact HK.out.2.2.2.2.2.2.2) ?_; simp only [Act.put, List.setIfInBounds_toArray, List.set_cons_zero, List.set_cons_succ])
      refine wpQuiet_nil ?_
      refine wpTree_pure _ _ _ (by rfl) (by rfl) ?_
      dsimp only [List.filterMap, List.getElem?_cons_zero, List.getElem?_cons_succ]
      repeat (go_big_quiet_step (fail))
      refine wpQuiet_nil ?_
      refine wpTree_one _ rfl ?_
      refine wpList_store_in HN6.out.2.2.2.1.drew (by rfl) _ _ _ (by rfl) (k * 256) (by rfl) (ob.map u8v).toArray (by rfl) sizeSec (by rw [List.size_toArray, List.length_map]; exact HK.out.2.2.2.2.2.2.2) (by rw [List.size_toArray, List.length_map, HK.out.2.2.2.2.2.1]; have := HL.out; omega) (sec_one _) ?_
      intro w8 h8 hu8
      have hC8 : Near [p.gl] w6 w8 := hC6.trans (Near.upd hu8 (List.mem_singleton.2 rfl))
      rw [List.toList_toArray, setAll_wr _ _ _ (by rw [HK.out.2.2.2.2.2.1, HK.out.2.2.2.2.2.2.2]; have := HL.out; omega), Nat.mul_comm k 256] at h8
      have hd8 : DskR w8 p gf { d with L := Go.wr L (256 * k) ob } := ⟨es, c, ⟨HN6.out.2.2.1.near hC8 hX6.1, h8, HN6.out.2.2.2.2.near hC8 hX6.2.1⟩, HK.out.1⟩
      have HF := Lib.hid (show CrRel w5 p gf d keeps tear (.int .i64 (stay : Int)) (.int .i64 ((i + 1 : Nat) : Int)) w8 from
        ⟨i + 1, stay, (Go.wr L (256 * k) ob), by have := HL.out; omega, rfl, rfl, by have := HL.out; omega, by rw [wr_length (by rw [HK.out.2.2.2.2.2.1, HK.out.2.2.2.2.2.2.2]; have := HL.out; omega)]; exact HK.out.2.2.2.2.2.1, by
          have h := HK.out.2.2.2.1
          rw [crashL_cons, ← HQ.out] at h
          rw [if_pos rfl, HK.out.2.2.2.2.2.2.1] at h; exact h, hd8, HK.out.2.2.2.2.1.trans ((HN6.out.1.wider (fun x hx => by cases hx)).trans hC8)⟩)
      go_wp2_with fail
      refine TreeQ.in_ hC8 ?_
      refine wpTree_done ?_
      clear h8 hu8 hC8 hd8 hC6 hX6
      go_wp2
      go_roundw
      case rel => exact HF.out
      case measure => have := HL.out; simp [intOf]; omega
    · have hgi : decide (keeps.length ≤ i) = false := by simp; omega
      have hkl2 := hkl
      subst hKe
      cases q
      · go_wp2_with (first
          | ((with_reducible show wpList _ _ _ ((⟨some 26, _, _, _, _, _⟩ : Oper) :: _) _ _); refine wpList_lookup1_int (o := ⟨some 26, _, _, _, _, _⟩) (by rfl) _ _ _ _ _ (by rfl) Try.underlying29 Try.underlying3 p.gm es c HK.out.2.1.2.2 HK.out.1.keys (k : Int) (.agg zeroSec) (allocSec _) (by rfl) (by rfl) ?_; rw [HK.out.2.2.1])
          | ((with_reducible show wpList _ _ _ ((⟨none, _, _, _, _, _⟩ : Oper) :: _) _ _); (refine wpList_store_blk (o := ⟨none, _, _, _, _, _⟩) (hz) (by rfl) _ _ _ (by rfl) (by rfl) ((ob.map u8v).toArray) (by rfl) (sizeSec) (by simp) (by rw [List.size_toArray, List.length_map]; exact HK.out.2.2.2.2.2.2.2) (sec_one _) ?_); intro w6 h6 hu6; have hn6 : Near [] wr w6 := (Near.below hbz).new hu6 (Nat.le_refl _); have dK6 : w6.cell? ⟨kb, koff + i, none⟩ = some (.bool false) := (hn6.cell (World.block_lt_of_cell? wr _ dK) (fun x => by cases x)).trans dK; have HN6 := Lib.hid (And.intro hn6 (And.intro h6 (show DiskB w6 p.gd p.gl p.gm d.N L es c d.out gf d.ops from HK.out.2.1.near hn6 ⟨hX0 _, hX0 _, hX0 _⟩))); clear hn6 h6 hu6 hz hbz d1 dA dK aS)
          | fail)
        clear dK6
        have hC6 := (Near.refl [p.gl] w6).drew
        have hX6 : p.gd ∉ [p.gl] ∧ p.gm ∉ [p.gl] ∧ wr.heap.size ∉ [p.gl] := by simp; exact ⟨hap.1, fun e => hap.2.2 e.symm, by omega⟩
        refine wp_region_tree (Near [p.gl] w6) [] (PlanT.takes [0, 1, 2, 4] (PlanT.takes [3, 5] (PlanT.takes [6] (.opt 7 .done .no)))) (by kernel_rfl) (by kernel_rfl) (hC6) ?_
        refine wpTree_pure _ _ _ (by rfl) (by rfl) ?_
        dsimp only [List.filterMap, List.getElem?_cons_zero, List.getElem?_cons_succ]
        repeat (go_big_quiet_step (fail))
        refine wpQuiet_nil ?_
        refine wpTree_takeL _ _ _ (by rfl) (by rfl) (hC6) ?_
        dsimp only [List.filterMap, List.getElem?_cons_zero, List.getElem?_cons_succ]
        (refine wpQuiet_load_cell (fun w' hw' => (Blk.near HN6.out.2.2.1 hw' hX6.1).at_ 0 (v := .slice (some ⟨p.gl, 0, none⟩) d.N d.N) rfl) (by rfl) _ _ (by rfl) (by rfl) _ Try.underlying28 (by rfl) ?_; simp only [Act.put, List.setIfInBounds_toArray, List.set_cons_zero, List.set_cons_succ])
        (refine wpQuiet_load_blk (fun w' hw' => Blk.near HN6.out.2.1 hw' hX6.2.2) (by rfl) _ _ (by rfl) (by rfl) _ Try.underlying113 (by rfl) (sizeSec) (by rw [List.size_toArray, List.length_map]; exact HK.out.2.2.2.2.2.2.2) ?_; simp only [Act.put, List.setIfInBounds_toArray, List.set_cons_zero, List.set_cons_succ])
        refine wpQuiet_nil ?_
        refine wpTree_pure _ _ _ (by rfl) (by rfl) ?_
        dsimp only [List.filterMap, List.getElem?_cons_zero, List.getElem?_cons_succ]
        repeat (go_big_quiet_step (fail))
        refine wpQuiet_nil ?_
        refine wpTree_one _ rfl ?_
        refine wpList_store_in HN6.out.2.2.2.1.drew (by rfl) _ _ _ (by rfl) (k * 256) (by rfl) (ob.map u8v).toArray (by rfl) sizeSec (by rw [List.size_toArray, List.length_map]; exact HK.out.2.2.2.2.2.2.2) (by rw [List.size_toArray, List.length_map, HK.out.2.2.2.2.2.1]; have := HL.out; omega) (sec_one _) ?_
        intro w8 h8 hu8
        have hC8 : Near [p.gl] w6 w8 := hC6.trans (Near.upd hu8 (List.mem_singleton.2 rfl))
        rw [List.toList_toArray, setAll_wr _ _ _ (by rw [HK.out.2.2.2.2.2.1, HK.out.2.2.2.2.2.2.2]; have := HL.out; omega), Nat.mul_comm k 256] at h8
        have hd8 : DskR w8 p gf { d with L := Go.wr L (256 * k) ob } := ⟨es, c, ⟨HN6.out.2.2.1.near hC8 hX6.1, h8, HN6.out.2.2.2.2.near hC8 hX6.2.1⟩, HK.out.1⟩
        have HF := Lib.hid (show CrRel w5 p gf d keeps tear (.int .i64 (stay : Int)) (.int .i64 ((i + 1 : Nat) : Int)) w8 from
          ⟨i + 1, stay, (Go.wr L (256 * k) ob), by have := HL.out; omega, rfl, rfl, by have := HL.out; omega, by rw [wr_length (by rw [HK.out.2.2.2.2.2.1, HK.out.2.2.2.2.2.2.2]; have := HL.out; omega)]; exact HK.out.2.2.2.2.2.1, by
            have h := HK.out.2.2.2.1
            rw [crashL_cons, ← HQ.out] at h
            rw [if_pos rfl, HK.out.2.2.2.2.2.2.1] at h; exact h, hd8, HK.out.2.2.2.2.1.trans ((HN6.out.1.wider (fun x hx => by cases hx)).trans hC8)⟩)
        go_wp2_with fail
        refine TreeQ.in_ hC8 ?_
        refine wpTree_done ?_
        clear h8 hu8 hC8 hd8 hC6 hX6
        go_wp2
        go_roundw
        case rel => exact HF.out
        case measure => have := HL.out; simp [intOf]; omega
      · by_cases ht : (stay : Int) = tear
        all_goals
          have HT := Lib.hid ht
          first
            | have hte : ((stay : Int) == tear) = true := by simp [ht]
            | have hte : ((stay : Int) == tear) = false := by simp [ht]
          clear ht
        · go_wp2_with (first
            | ((with_reducible show wpList _ _ _ ((⟨some 26, _, _, _, _, _⟩ : Oper) :: _) _ _); refine wpList_lookup1_int (o := ⟨some 26, _, _, _, _, _⟩) (by rfl) _ _ _ _ _ (by rfl) Try.underlying29 Try.underlying3 p.gm es c HK.out.2.1.2.2 HK.out.1.keys (k : Int) (.agg zeroSec) (allocSec _) (by rfl) (by rfl) ?_; rw [HK.out.2.2.1])
            | ((with_reducible show wpList _ _ _ ((⟨none, _, _, _, _, _⟩ : Oper) :: _) _ _); (refine wpList_store_blk (o := ⟨none, _, _, _, _, _⟩) (hz) (by rfl) _ _ _ (by rfl) (by rfl) ((ob.map u8v).toArray) (by rfl) (sizeSec) (by simp) (by rw [List.size_toArray, List.length_map]; exact HK.out.2.2.2.2.2.2.2) (sec_one _) ?_); intro w6 h6 hu6; have hn6 : Near [] wr w6 := (Near.below hbz).new hu6 (Nat.le_refl _); have dK6 : w6.cell? ⟨kb, koff + i, none⟩ = some (.bool true) := (hn6.cell (World.block_lt_of_cell? wr _ dK) (fun x => by cases x)).trans dK; have HN6 := Lib.hid (And.intro hn6 (And.intro h6 (show DiskB w6 p.gd p.gl p.gm d.N L es c d.out gf d.ops from HK.out.2.1.near hn6 ⟨hX0 _, hX0 _, hX0 _⟩))); clear hn6 h6 hu6 hz hbz d1 dA dK aS)
            | fail)
          clear dK6
          have hC6 := (Near.refl [p.gl] w6).drew
          have hX6 : p.gd ∉ [p.gl] ∧ p.gm ∉ [p.gl] ∧ wr.heap.size ∉ [p.gl] := by simp; exact ⟨hap.1, fun e => hap.2.2 e.symm, by omega⟩
          have hby : Bytes w6.drew (some ⟨wr.heap.size, 128, none⟩) (ob.drop 128) := by
            have h1 := HN6.out.2.1.drew.bytes
            have h2 := h1.drop (k := 128) (cap := 256) (.inl (by omega))
            simpa [Addr.add_lit] using h2
          refine wp_region_tree (Near [p.gl] w6) [] (PlanT.takes [0, 1, 2, 4, 7] (PlanT.takes [3] (PlanT.takes [5, 6] (.opt 8 .done .no)))) (by kernel_rfl) (by kernel_rfl) (hC6) ?_
          refine wpTree_pure _ _ _ (by rfl) (by rfl) ?_
          dsimp only [List.filterMap, List.getElem?_cons_zero, List.getElem?_cons_succ]
          repeat (go_big_quiet_step (fail))
          refine wpQuiet_nil ?_
          refine wpTree_takeL _ _ _ (by rfl) (by rfl) (hC6) ?_
          dsimp only [List.filterMap, List.getElem?_cons_zero, List.getElem?_cons_succ]
          (refine wpQuiet_load_cell (fun w' hw' => (Blk.near HN6.out.2.2.1 hw' hX6.1).at_ 0 (v := .slice (some ⟨p.gl, 0, none⟩) d.N d.N) rfl) (by rfl) _ _ (by rfl) (by rfl) _ Try.underlying28 (by rfl) ?_; simp only [Act.put, List.setIfInBounds_toArray, List.set_cons_zero, List.set_cons_succ])
          refine wpQuiet_nil ?_
          refine wpTree_pure _ _ _ (by rfl) (by rfl) ?_
          dsimp only [List.filterMap, List.getElem?_cons_zero, List.getElem?_cons_succ]
          repeat (go_big_quiet_step (fail))
          refine wpQuiet_nil ?_
          refine wpTree_one _ rfl ?_
          refine wpList_copy_at (by rfl) _ _ _ _ (by rfl) _ Try.underlying43 size1 p.gl (k * 256 + 128) 128 128 (some ⟨wr.heap.size, 128, none⟩) 128 128 (by rfl) (by rfl) L (ob.drop 128) 113 HN6.out.2.2.2.1.drew (by rw [List.length_drop, HK.out.2.2.2.2.2.2.2]) hby (by rw [List.length_drop, HK.out.2.2.2.2.2.2.2, HK.out.2.2.2.2.2.1]; have := HL.out; omega) (by rw [List.length_drop, HK.out.2.2.2.2.2.2.2]; omega) ?_
          intro w8 h8 hu8
          have hC8 : Near [p.gl] w6 w8 := hC6.trans (Near.upd hu8 (List.mem_singleton.2 rfl))
          rw [Nat.mul_comm k 256] at h8
          have hd8 : DskR w8 p gf { d with L := Go.wr L (256 * k + 128) (ob.drop 128) } := ⟨es, c, ⟨HN6.out.2.2.1.near hC8 hX6.1, h8, HN6.out.2.2.2.2.near hC8 hX6.2.1⟩, HK.out.1⟩
          have HF := Lib.hid (show CrRel w5 p gf d keeps tear (.int .i64 ((stay + 1 : Nat) : Int)) (.int .i64 ((i + 1 : Nat) : Int)) w8 from
            ⟨i + 1, (stay + 1 : Nat), (Go.wr L (256 * k + 128) (ob.drop 128)), by have := HL.out; omega, rfl, rfl, by have := HL.out; omega, by rw [wr_length (by rw [List.length_drop, HK.out.2.2.2.2.2.1, HK.out.2.2.2.2.2.2.2]; have := HL.out; omega)]; exact HK.out.2.2.2.2.2.1, by
              have h := HK.out.2.2.2.1
              rw [crashL_cons, ← HQ.out] at h
              rw [if_neg (by decide), if_pos HT.out, HK.out.2.2.2.2.2.2.1] at h; exact h, hd8, HK.out.2.2.2.2.1.trans ((HN6.out.1.wider (fun x hx => by cases hx)).trans hC8)⟩)
          go_wp2_with fail
          refine TreeQ.in_ hC8 ?_
          refine wpTree_done ?_
          clear h8 hu8 hC8 hd8 hC6 hX6 hby
          go_wp2
          go_roundw
          case rel => rw [hs1]; exact HF.out
          case measure => have := HL.out; simp [intOf]; omega
        · go_wp2_with (first
            | ((with_reducible show wpList _ _ _ ((⟨some 26, _, _, _, _, _⟩ : Oper) :: _) _ _); refine wpList_lookup1_int (o := ⟨some 26, _, _, _, _, _⟩) (by rfl) _ _ _ _ _ (by rfl) Try.underlying29 Try.underlying3 p.gm es c HK.out.2.1.2.2 HK.out.1.keys (k : Int) (.agg zeroSec) (allocSec _) (by rfl) (by rfl) ?_; rw [HK.out.2.2.1])
            | ((with_reducible show wpList _ _ _ ((⟨none, _, _, _, _, _⟩ : Oper) :: _) _ _); (refine wpList_store_blk (o := ⟨none, _, _, _, _, _⟩) (hz) (by rfl) _ _ _ (by rfl) (by rfl) ((ob.map u8v).toArray) (by rfl) (sizeSec) (by simp) (by rw [List.size_toArray, List.length_map]; exact HK.out.2.2.2.2.2.2.2) (sec_one _) ?_); intro w6 h6 hu6; have hn6 : Near [] wr w6 := (Near.below hbz).new hu6 (Nat.le_refl _); have dK6 : w6.cell? ⟨kb, koff + i, none⟩ = some (.bool true) := (hn6.cell (World.block_lt_of_cell? wr _ dK) (fun x => by cases x)).trans dK; have HN6 := Lib.hid (And.intro hn6 (And.intro h6 (show DiskB w6 p.gd p.gl p.gm d.N L es c d.out gf d.ops from HK.out.2.1.near hn6 ⟨hX0 _, hX0 _, hX0 _⟩))); clear hn6 h6 hu6 hz hbz d1 dA dK aS)
            | fail)
          have HF := Lib.hid (show CrRel w5 p gf d keeps tear (.int .i64 ((stay + 1 : Nat) : Int)) (.int .i64 ((i + 1 : Nat) : Int)) w6 from
            ⟨i + 1, (stay + 1 : Nat), L, by have := HL.out; omega, rfl, rfl, by have := HL.out; omega, HK.out.2.2.2.2.2.1, by
              have h := HK.out.2.2.2.1
              rw [crashL_cons, ← HQ.out] at h
              rw [if_neg (by decide), if_neg HT.out] at h; exact h, ⟨es, c, HN6.out.2.2, HK.out.1⟩, HK.out.2.2.2.2.1.trans (HN6.out.1.wider (fun x hx => by cases hx))⟩)
          go_wp2
          go_roundw
          case rel => rw [hs1]; exact HF.out
          case measure => have := HL.out; simp [intOf]; omega
end
end Go.Proofs.Ytmhfehhpfkjloaa

/- What Fuse answers of one disk that is none. No condition. -/
namespace Go.Proofs.Ytmhfehhpfkjloaa
open Go.RowKit
section
variable (D : Option Addr) (g : Nat) (w : World) (hl : w.cell? ⟨g, 0, none⟩ = some (.pointer D)) (h : NoDisk D w)
include hl h
omit hl h in
theorem callNone (args : Array Value) (w : World) : (callFunc 68 args).run Try.prog w = .ok (.enter 68 args) w := Try.call68 args w
set_option maxHeartbeats 1000000 in
theorem which_no : Calls Try.prog 96 #[.slice (some ⟨g, 0, none⟩) 1 1, .func (.func 68) #[] #[]] w fun e w' => e = .returned (.int .i64 0) ∧ w' = w := by
  have HD := Lib.hid h
  have hcall := callNone
  clear h
  go_enter Try.func96, Try.ntmps96
  go_wp2_with fail
  go_loopw [8] (fun v wr => v = .int .i64 0 ∧ wr = w) (fun _ _ => 0)
  case atStart => exact ⟨rfl, rfl⟩
  case round =>
    obtain ⟨rfl, rfl⟩ := hrel
    go_wp2_with fail
    refine (none_no D _ HD.out).mono ?_
    rintro e w1 ⟨rfl, hw⟩
    obtain rfl := hw.symm
    clear hw
    go_wp2
    go_ret
    exact ⟨rfl, rfl⟩
theorem any_no : Calls Try.prog 74 #[.slice (some ⟨g, 0, none⟩) 1 1, .func (.func 68) #[] #[]] w fun e w' => e = .returned (.bool true) ∧ w' = w := by
  go_enter Try.func74, Try.ntmps74
  go_wp2_with fail
  refine (which_no D g w hl h).mono ?_
  rintro e w1 ⟨rfl, hw⟩
  obtain rfl := hw.symm
  clear h hl hw
  go_wp2
  go_ret
  exact ⟨rfl, rfl⟩
theorem fuse_no (n : Int) : Calls Try.prog 42 #[.slice (some ⟨g, 0, none⟩) 1 1, .int .i64 n] w fun e w' => e = .returned (.int .i64 1) ∧ w' = w := by
  go_enter Try.func42, Try.ntmps42
  go_wp2_with fail
  refine (any_no D g w hl h).mono ?_
  rintro e w1 ⟨rfl, hw⟩
  obtain rfl := hw.symm
  clear h hl hw
  go_wp2
  go_ret
  exact ⟨rfl, rfl⟩
end
end Go.Proofs.Ytmhfehhpfkjloaa

/- Fuse, of disks that were made. Conditions: the disks are apart; the list of them can be read. -/
namespace Go.Proofs.Ytmhfehhpfkjloaa
open Go.RowKit
/-- A disk, where it lies, and its fuse. -/
structure DS where
  p : Pl
  gf : Option Nat
  d : Dsk
  f : Option Fus
def DS.ok (s : DS) (w : World) : Prop := DskR w s.p s.gf s.d ∧ FusR w s.gf s.f
def DS.gd (s : DS) : Nat := s.p.gd
def DS.ptr (s : DS) : Value := .pointer (some ⟨s.p.gd, 0, none⟩)
/-- With a new fuse. -/
def DS.fuse (s : DS) (g : Nat) (n : Int) : DS := ⟨s.p, some g, s.d.clone s.f, some ⟨n, false⟩⟩
/-- What a round of the search finds. -/
def WhRel (w : World) (l : List DS) (v : Value) (wr : World) : Prop := ∃ i : Nat, i ≤ l.length ∧ v = .int .i64 (i : Int) ∧ wr = w
section
variable {w w' : World} {l : List DS} {A : Option Addr} {c : Nat}
set_option maxRecDepth 100000 in
set_option maxHeartbeats 1000000 in
theorem which_all (hA : Reads w A (l.map DS.ptr)) (hl : ∀ s ∈ l, DskR w s.p s.gf s.d) (hn : l.length ≤ 65536) :
    Calls Try.prog 96 #[.slice A l.length c, .func (.func 68) #[] #[]] w fun e w' => e = .returned (.int .i64 (-1)) ∧ w' = w := by
  have HD := Lib.hid (And.intro hA hl)
  have hcall := callNone
  clear hA hl
  go_enter Try.func96, Try.ntmps96
  go_wp2_with fail
  go_loopw [8] (fun v wr => WhRel w l v wr) (fun v _ => l.length - (intOf v).toNat)
  case atStart => exact ⟨0, Nat.zero_le _, rfl, rfl⟩
  case round =>
    obtain ⟨i, hi, rfl, rfl⟩ := hrel
    by_cases hlt : i < l.length
    case neg =>
      clear hcall
      go_wp2
      go_ret
      exact ⟨rfl, rfl⟩
    obtain ⟨b, off, rfl, hc⟩ := HD.out.1 (by intro e; have e2 := congrArg List.length e; rw [List.length_map, List.length_nil] at e2; omega)
    obtain ⟨s, hs⟩ : ∃ s, s = l[i] := ⟨_, rfl⟩
    have dA : wr.cell? ⟨b, off + i, none⟩ = some (.pointer (some ⟨s.p.gd, 0, none⟩)) := hc i _ (by rw [List.getElem?_map, List.getElem?_eq_getElem hlt, ← hs]; rfl)
    have hsm : DskR wr s.p s.gf s.d := HD.out.2 s (by rw [hs]; exact List.getElem_mem _)
    obtain ⟨es, c', hdc, -⟩ := hsm
    have HF := Lib.hid (show WhRel wr l (.int .i64 ((i + 1 : Nat) : Int)) wr from ⟨i + 1, by omega, rfl, rfl⟩)
    clear hs hi hc
    go_wp2_with fail
    refine (none_made _ hdc).mono ?_
    rintro e w1 ⟨rfl, hw⟩
    obtain rfl := hw.symm
    clear hw hdc dA hcall
    go_wp2
    go_roundw
    case rel => exact HF.out
    case measure => simp [intOf]; omega
theorem any_all (hA : Reads w A (l.map DS.ptr)) (hl : ∀ s ∈ l, DskR w s.p s.gf s.d) (hn : l.length ≤ 65536) :
    Calls Try.prog 74 #[.slice A l.length c, .func (.func 68) #[] #[]] w fun e w' => e = .returned (.bool false) ∧ w' = w := by
  have hq := which_all (c := c) hA hl hn
  clear hA hl hn
  go_enter Try.func74, Try.ntmps74
  go_wp2_with fail
  refine hq.mono ?_
  rintro e w1 ⟨rfl, hw⟩
  obtain rfl := hw.symm
  clear hw hq
  go_wp2
  go_ret
  exact ⟨rfl, rfl⟩
set_option maxRecDepth 100000 in
set_option maxHeartbeats 1000000 in
theorem fuse_arg (n : Int) (hA : Reads w A (l.map DS.ptr)) (hl : ∀ s ∈ l, DskR w s.p s.gf s.d) (hn : l.length ≤ 65536) (hbad : n < 0 ∨ 64 < l.length) :
    Calls Try.prog 42 #[.slice A l.length c, .int .i64 n] w fun e w' => e = .returned (.int .i64 2) ∧ w' = w := by
  have hq := any_all (c := c) hA hl hn
  clear hA hl
  obtain ⟨b1, hb1⟩ : ∃ b, decide (n < 0) = b := ⟨_, rfl⟩
  obtain ⟨b2, hb2⟩ : ∃ b, decide ((64 : Int) < (l.length : Int)) = b := ⟨_, rfl⟩
  have hor : b1 = true ∨ b2 = true := by subst hb1 hb2; simp; omega
  have HB := Lib.hid hor
  clear hor hbad
  cases b1 <;> cases b2
  case false.false => exact absurd HB.out (by simp)
  all_goals
    clear HB
    go_enter Try.func42, Try.ntmps42
    go_wp2_with fail
    refine hq.mono ?_
    rintro e w1 ⟨rfl, hw⟩
    obtain rfl := hw.symm
    clear hw hq hn
    go_wp2
    go_ret
    exact ⟨rfl, rfl⟩
/-- What a round of Fuse finds. -/
def FzRel (w : World) (l : List DS) (g : Nat) (n : Int) (v : Value) (wr : World) : Prop :=
  ∃ j : Nat, j ≤ l.length ∧ v = .int .i64 (j : Int) ∧ (∀ i s, l[i]? = some s → i < j → DskR wr s.p (some g) (s.d.clone s.f)) ∧ (∀ i s, l[i]? = some s → j ≤ i → s.ok wr) ∧ FuseB wr g n false ∧ Near (l.map DS.gd) w wr
theorem DS.off {s t : DS} (h : s.ok w) (h' : t.ok w) : s.p.gl ≠ t.gd ∧ s.p.gm ≠ t.gd ∧ ∀ g, s.gf = some g → g ≠ t.gd := by
  obtain ⟨⟨es, c, ⟨h1, h2, h3⟩, -⟩, hf⟩ := h
  obtain ⟨⟨es', c', ⟨h4, h5, h6⟩, -⟩, -⟩ := h'
  refine ⟨h2.apart h4 (by decide), fun e => (h4.offMap h3) e.symm, fun g hg => ?_⟩
  rw [hg] at hf
  obtain ⟨x, _, hx⟩ := hf.has
  have hx : Blk w g _ _ := hx
  exact hx.apart h4 (by decide)
set_option maxRecDepth 100000 in
set_option maxHeartbeats 1000000 in
theorem fuse_go (n : Int) (hA : Reads w A (l.map DS.ptr)) (hAX : ∀ ad, A = some ad → ad.block ∉ l.map DS.gd) (hl : ∀ s ∈ l, s.ok w) (hnd : (l.map DS.gd).Nodup) (hn : l.length ≤ 64) (h0 : 0 ≤ n) :
    Calls Try.prog 42 #[.slice A l.length c, .int .i64 n] w fun e w' => e = .returned (.int .i64 0) ∧ ∃ g, w.heap.size ≤ g ∧ (∀ s ∈ l, (s.fuse g n).ok w') ∧ Near (l.map DS.gd) w w' := by
  have hq := any_all (c := c) hA (fun s hs => (hl s hs).1) (by omega)
  have hlt : ∀ s ∈ l, s.gd < w.heap.size := fun s hs => (hl s hs).1.lt.1
  have hg := Blk.new w 121 #[.int .i64 n, .bool false]
  have hb := (Below.refl w.heap.size w).alloc (Nat.le_refl _) (.cells #[.int .i64 n, .bool false] 121)
  have HH := Lib.hid (And.intro hA (And.intro hAX (And.intro hl (And.intro hnd (And.intro hlt (And.intro hg hb))))))
  have h2 : decide ((64 : Int) < (l.length : Int)) = false := by simp; omega
  have h3 : decide (n < 0) = false := by simp; omega
  clear hA hl hAX hnd hlt hg hb h0
  go_enter Try.func42, Try.ntmps42
  go_wp2_with fail
  refine hq.mono ?_
  rintro e w1 ⟨rfl, hw⟩
  obtain rfl := hw.symm
  clear hw hq
  go_wp2_with fail
  have hS : FzRel (w.alloc (.cells #[.int .i64 n, .bool false] 121)) l w.heap.size n (.int .i64 0) (w.alloc (.cells #[.int .i64 n, .bool false] 121)) :=
    ⟨0, Nat.zero_le _, rfl, fun i s _ h => absurd h (Nat.not_lt_zero _), fun i s hi _ => by
      have h := HH.out.2.2.1 s (List.mem_of_getElem? hi)
      have hnr := Near.below (X := []) HH.out.2.2.2.2.2.2
      exact ⟨h.1.near hnr (by simp), h.2.near hnr (by simp)⟩, HH.out.2.2.2.2.2.1, Near.refl _ _⟩
  clear h2 h3
  have HA := Lib.hid (Near.below (X := l.map DS.gd) HH.out.2.2.2.2.2.2)
  generalize w.alloc (.cells #[.int .i64 n, .bool false] 121) = w2 at hS HA ⊢
  go_loopw [22] (fun v wr => FzRel w2 l w.heap.size n v wr) (fun v _ => l.length - (intOf v).toNat)
  case atStart => exact hS
  case round =>
    clear hS
    obtain ⟨j, hj, rfl, hdone, hleft, hfu, hnr⟩ := hrel
    have HR := Lib.hid (And.intro hdone (And.intro hleft (And.intro hfu hnr)))
    clear hdone hleft hfu hnr
    by_cases hlt : j < l.length
    case neg =>
      go_wp2
      go_ret
      refine ⟨rfl, w.heap.size, Nat.le_refl _, fun s hs => ?_, HA.out.trans HR.out.2.2.2⟩
      obtain ⟨i, hi, rfl⟩ := List.getElem_of_mem hs
      exact ⟨HR.out.1 i _ (List.getElem?_eq_getElem hi) (by omega), HR.out.2.2.1⟩
    obtain ⟨s, hs⟩ : ∃ s, l[j]? = some s := ⟨_, List.getElem?_eq_getElem hlt⟩
    have hsm := List.mem_of_getElem? hs
    have hok := HR.out.2.1 j s hs (Nat.le_refl _)
    obtain ⟨b, off, rfl, hc⟩ := Reads.nearX HH.out.1 (HA.out.trans HR.out.2.2.2) HH.out.2.1 (by intro e; have e2 := congrArg List.length e; rw [List.length_map, List.length_nil] at e2; omega)
    have dA : wr.cell? ⟨b, off + j, none⟩ = some (.pointer (some ⟨s.p.gd, 0, none⟩)) := hc j _ (by rw [List.getElem?_map, hs]; rfl)
    have hi1 : wrap64 ((j : Int) + 1) = ((j + 1 : Nat) : Int) := by unfold wrap64; omega
    have hq := isOut_all hok.1 hok.2
    obtain ⟨es, c', hdc, ho⟩ := hok.1
    have d2 := hdc.1.at_ 2 (v := .bool s.d.out) rfl
    have d3 := hdc.1.at_ 3 (v := .pointer (s.gf.map fun g => ⟨g, 0, none⟩)) rfl
    have f2 := hdc.1.frozen 2
    have f3 := hdc.1.frozen 3
    have HE := Lib.hid (And.intro hs (And.intro hsm (And.intro hok (And.intro hdc ho))))
    clear hs hsm hok hc hdc ho hj
    go_wp2_with fail
    refine hq.mono ?_
    rintro e w1 ⟨rfl, hw⟩
    obtain rfl := hw.symm
    clear hw hq dA
    go_wp2
    have hu := ((Upd.refl s.p.gd wr).set 2 (.bool (s.d.isOut s.f))).set 3 (.pointer (some ⟨w.heap.size, 0, none⟩))
    have hn3 : Near [s.p.gd] wr ((wr.setCell ⟨s.p.gd, 2, none⟩ (.bool (s.d.isOut s.f))).setCell ⟨s.p.gd, 3, none⟩ (.pointer (some ⟨w.heap.size, 0, none⟩))) := Near.upd hu (List.mem_singleton.2 rfl)
    have hap := HE.out.2.2.1.1.apart
    have hHF : FzRel w2 l w.heap.size n (.int .i64 ((j + 1 : Nat) : Int)) ((wr.setCell ⟨s.p.gd, 2, none⟩ (.bool (s.d.isOut s.f))).setCell ⟨s.p.gd, 3, none⟩ (.pointer (some ⟨w.heap.size, 0, none⟩))) := by
      have hne : ∀ i t, l[i]? = some t → i ≠ j → t.gd ≠ s.gd := fun i t hi hij e => hij (by
        have h1 := HH.out.2.2.2.1
        have e1 : (l.map DS.gd)[i]? = some t.gd := by rw [List.getElem?_map, hi]; rfl
        have e2 : (l.map DS.gd)[j]? = some s.gd := by rw [List.getElem?_map, HE.out.1]; rfl
        rw [e] at e1
        have hil : i < (l.map DS.gd).length := (List.getElem?_eq_some_iff.1 e1).1
        exact (List.getElem?_inj hil h1).1 (e1.trans e2.symm))
      refine ⟨j + 1, by omega, rfl, fun i t hi hij => ?_, fun i t hi hij => ?_, ?_, ?_⟩
      · by_cases hij2 : i = j
        · subst hij2
          rw [HE.out.1] at hi
          injection hi with hi
          subst hi
          exact ⟨es, c', ⟨((HE.out.2.2.2.1.1.set_ 2 _).set_ 3 _).sub rfl, HE.out.2.2.2.1.2.1.near hn3 (by simp; exact fun e => hap.1 e.symm), HE.out.2.2.2.1.2.2.near hn3 (by simp; exact fun e => hap.2.1 e.symm)⟩, HE.out.2.2.2.2⟩
        · have hd := HR.out.1 i t hi (by omega)
          obtain ⟨e1, e2, h3, h4⟩ := hd
          have o1 : t.p.gl ≠ s.p.gd := h3.2.1.apart HE.out.2.2.2.1.1 (by decide)
          have o2 : t.p.gm ≠ s.p.gd := fun e => (HE.out.2.2.2.1.1.offMap h3.2.2) e.symm
          exact DskR.near ⟨e1, e2, h3, h4⟩ hn3 (by simp; exact ⟨hne i t hi hij2, o1, o2⟩)
      · have hd := HR.out.2.1 i t hi (by omega)
        have o := DS.off hd HE.out.2.2.1
        exact ⟨hd.1.near hn3 (by simp; exact ⟨hne i t hi (by omega), o.1, o.2.1⟩), hd.2.near hn3 (fun g hg => by simp; exact o.2.2 g hg)⟩
      · exact Blk.near (show Blk wr w.heap.size _ _ from HR.out.2.2.1) hn3 (by simp; have h1 := HH.out.2.2.2.2.1 s HE.out.2.1; unfold DS.gd at h1; omega)
      · exact HR.out.2.2.2.trans (hn3.wider (fun x hx => by simp at hx; subst hx; exact List.mem_map.2 ⟨s, HE.out.2.1, rfl⟩))
    generalize (wr.setCell ⟨s.p.gd, 2, none⟩ (.bool (s.d.isOut s.f))).setCell ⟨s.p.gd, 3, none⟩ (.pointer (some ⟨w.heap.size, 0, none⟩)) = w9 at hHF ⊢
    have HF := Lib.hid hHF
    clear hHF hu hn3
    go_roundw
    case rel => exact HF.out
    case measure => simp [intOf]; omega
/-- What Fuse answers, and how it leaves the disks. -/
theorem fuse_all (n : Int) (hA : Reads w A (l.map DS.ptr)) (hAX : ∀ ad, A = some ad → ad.block ∉ l.map DS.gd) (hl : ∀ s ∈ l, s.ok w) (hnd : (l.map DS.gd).Nodup) (hn : l.length ≤ 65536) :
    Calls Try.prog 42 #[.slice A l.length c, .int .i64 n] w fun e w' => (n < 0 ∨ 64 < l.length) ∧ e = .returned (.int .i64 2) ∧ w' = w ∨ ¬ (n < 0 ∨ 64 < l.length) ∧ e = .returned (.int .i64 0) ∧ ∃ g, w.heap.size ≤ g ∧ (∀ s ∈ l, (s.fuse g n).ok w') ∧ Near (l.map DS.gd) w w' := by
  by_cases h : n < 0 ∨ 64 < l.length
  · refine (fuse_arg n hA (fun s hs => (hl s hs).1) hn h).mono ?_
    rintro e w' ⟨rfl, rfl⟩
    exact .inl ⟨h, rfl, rfl⟩
  · refine (fuse_go n hA hAX hl hnd (by omega) (by omega)).mono ?_
    rintro e w' ⟨rfl, h2⟩
    exact .inr ⟨h, rfl, h2⟩
end
end Go.Proofs.Ytmhfehhpfkjloaa

/- A place that any number says: what it answers. Condition: the numbers are Go's ints. -/
namespace Go.Proofs.Ytmhfehhpfkjloaa
open Go.RowKit
/-- The place below n that x says. -/
def pickN (x n : Int) : Nat := if n < 1 then 0 else (x % n).toNat
theorem pickN_lt (x n : Int) (h : 1 ≤ n) : (pickN x n : Int) < n := by
  unfold pickN
  rw [if_neg (by omega)]
  have h1 := Int.emod_nonneg x (show n ≠ 0 by omega)
  have h2 := Int.emod_lt_of_pos x (show 0 < n by omega)
  omega
set_option maxHeartbeats 400000 in
theorem pick_any (x n : Int) (hn : n ≤ 9223372036854775807) (hn1 : 1 ≤ n) (w : World) :
    Calls Try.prog 35 #[.int .i64 x, .int .i64 n] w fun e w' => e = .returned (.int .i64 (pickN x n)) ∧ w' = w := by
  have e1 : (pickN x n : Int) = x % n := by
    unfold pickN; rw [if_neg (by omega)]; have h1 := Int.emod_nonneg x (show n ≠ 0 by omega); omega
  rw [e1]
  clear e1
  have h1 := Int.emod_nonneg x (show n ≠ 0 by omega)
  have h2 := Int.emod_lt_of_pos x (show 0 < n by omega)
  have H1 : x.tmod n = (if 0 ≤ x ∨ x % n = 0 then x % n else x % n - n) := by
    rw [Int.tmod_eq_emod]
    have hd : n ∣ x ↔ x % n = 0 := Int.dvd_iff_emod_eq_zero
    by_cases h0 : 0 ≤ x
    · simp [h0]
    · by_cases h3 : x % n = 0
      · simp [h3, hd]
      · simp [h0, h3, hd]; omega
  obtain ⟨r, hr⟩ : ∃ r, r = x % n := ⟨_, rfl⟩
  rw [← hr] at h1 h2 H1 ⊢
  clear hr
  by_cases hp : 0 ≤ x ∨ r = 0
  · rw [if_pos hp] at H1
    have H := Lib.hid H1
    clear H1 hp
    have hn0 : (n == 0) = false := by rw [beq_eq_false_iff_ne]; omega
    go_enter Try.func35, Try.ntmps35
    go_wp2
    all_goals have h3 := H.out
    · exfalso; omega
    · go_ret
      exact ⟨ret_int h3, rfl⟩
  · rw [if_neg hp] at H1
    have H := Lib.hid H1
    clear H1 hp
    go_enter Try.func35, Try.ntmps35
    go_wp2
    all_goals have h3 := H.out
    · go_ret
      exact ⟨ret_int (by rw [h3, IntWalk.wrap64_in _ ⟨by omega, by omega⟩]; omega), rfl⟩
    · exfalso; omega
end Go.Proofs.Ytmhfehhpfkjloaa

/- Layer 05's law: full, sector; lists of ints compared. Conditions: the lists can be read and are at most 65536. -/
namespace Go.Proofs.Ytmhfehhpfkjloaa
open Go.RowKit
def FuRel (w : World) (g K : Nat) (m : UInt8) (v : Value) (wr : World) : Prop := ∃ i : Nat, i ≤ K ∧ v = .int .i64 (i : Int) ∧ Blk wr g 5 ((List.replicate i m ++ List.replicate (K - i) 0).map u8v).toArray ∧ Below w.heap.size w wr
theorem full_set (K i : Nat) (m : UInt8) (h : i < K) : (List.replicate i m ++ List.replicate (K - i) (0 : UInt8)).set i m = List.replicate (i + 1) m ++ List.replicate (K - (i + 1)) 0 := by
  rw [List.set_append, if_neg (by rw [List.length_replicate]; omega), List.length_replicate, Nat.sub_self, show K - i = (K - (i + 1)) + 1 by omega, List.replicate_succ, List.set_cons_zero, List.replicate_succ', List.append_assoc]
  rfl
set_option maxRecDepth 100000 in
set_option maxHeartbeats 1000000 in
theorem full_any (n : Int) (m : UInt8) (w : World) : Calls Try.prog 73 #[.int .i64 n, .int .u8 (iu8 m)] w fun e w' => ∃ g, e = .returned (.slice (some ⟨g, 0, none⟩) (256 * pickN n 6) (256 * pickN n 6)) ∧
      Blk w' g 5 ((List.replicate (256 * pickN n 6) m).map u8v).toArray ∧ w.heap.size ≤ g ∧ Below w.heap.size w w' := by
  have hp := pickN_lt n 6 (by omega)
  have hpk := pick_any n 6 (by omega) (by omega) w
  obtain ⟨k, hk⟩ : ∃ k, k = pickN n 6 := ⟨_, rfl⟩
  rw [← hk] at hp hpk ⊢
  have hk6 : k < 6 := by omega
  clear hk hp
  have hm1 : wrap64 ((k : Int) * 256) = ((256 * k : Nat) : Int) := by unfold wrap64; omega
  have HK6 := Lib.hid hk6
  clear hk6
  go_enter Try.func73, Try.ntmps73
  go_wp2_with fail
  refine hpk.mono ?_
  rintro e w1 ⟨rfl, hw⟩
  obtain rfl := hw.symm
  clear hw hpk
  go_wp2_with (first
    | ((with_reducible show wpList _ _ _ ((⟨some 10, _, _, _, _, _⟩ : Oper) :: _) _ _); go_must (refine wpList_make_bytes (o := ⟨some 10, _, _, _, _, _⟩) _ (by rfl) _ _ _ (by rfl) _ Try.underlying43 u8info .i64 .i64 _ _ (256 * k) (256 * k) (by rfl) (by rfl) (by first | rfl | omega) (by first | rfl | omega) (Nat.le_refl _) (by have := HK6.out; omega) ?_); intro w5 h5 hb5 hs5; have hS : FuRel w w.heap.size (256 * k) m (.int .i64 0) w5 := ⟨0, Nat.zero_le _, rfl, by simpa using h5, hb5⟩; clear h5 hb5 hs5)
    | fail)
  obtain ⟨K, hK⟩ : ∃ K, K = 256 * k := ⟨_, rfl⟩
  have hK2 : K < 65536 := by have := HK6.out; omega
  rw [← hK] at hS ⊢
  have HK := Lib.hid hK
  clear hK hm1
  go_loopw [6] (fun v wr => FuRel w w.heap.size K m v wr) (fun v _ => K - (intOf v).toNat)
  case atStart => exact hS
  case round =>
    clear hS
    obtain ⟨i, hi, rfl, hg, hB⟩ := hrel
    by_cases hlt : i < K
    case neg =>
      obtain rfl : i = K := by omega
      rw [Nat.sub_self, List.replicate_zero, List.append_nil] at hg
      have HR := Lib.hid (And.intro hg hB)
      clear hg hB hi hlt
      go_wp2
      go_ret
      rw [← HK.out]
      exact ⟨_, rfl, HR.out.1, Nat.le_refl _, HR.out.2⟩
    have hlen : (List.replicate i m ++ List.replicate (K - i) (0 : UInt8)).length = K := by rw [List.length_append, List.length_replicate, List.length_replicate]; omega
    have dg := hg.at_ i (v := .int .u8 0) (by rw [List.getElem?_toArray, List.getElem?_map, List.getElem?_append_right (by rw [List.length_replicate]; exact Nat.le_refl _), List.length_replicate, Nat.sub_self, List.getElem?_replicate, if_pos (by omega)]; rfl)
    have fg := hg.frozen i
    have hu := (Upd.refl w.heap.size wr).set i (.int .u8 (iu8 m))
    have hF : FuRel w w.heap.size K m (.int .i64 ((i + 1 : Nat) : Int)) (wr.setCell ⟨w.heap.size, i, none⟩ (.int .u8 (iu8 m))) := by
      refine ⟨i + 1, by omega, rfl, ?_, hB.upd hu (Nat.le_refl _)⟩
      have h1 := (hg.set_ i (.int .u8 (iu8 m))).sub (cell_set (L := List.replicate i m ++ List.replicate (K - i) 0) m)
      rw [full_set K i m hlt] at h1
      exact h1
    have HF := Lib.hid hF
    clear hg hB hlen hu hF hi
    go_wp2
    go_roundw
    case rel => exact HF.out
    case measure => simp [intOf]; omega
theorem sector_any (m : UInt8) (w : World) : Calls Try.prog 40 #[.int .u8 (iu8 m)] w fun e w' => ∃ g, e = .returned (.slice (some ⟨g, 0, none⟩) 256 256) ∧
      Blk w' g 5 ((List.replicate 256 m).map u8v).toArray ∧ w.heap.size ≤ g ∧ Below w.heap.size w w' := by
  have hf := full_any 1 m w
  rw [show pickN 1 6 = 1 by decide, Nat.mul_one] at hf
  go_enter Try.func40, Try.ntmps40
  go_wp2_with fail
  refine hf.mono ?_
  rintro e w1 ⟨g, rfl, h1, h2, h3⟩
  have HR := Lib.hid (And.intro h1 (And.intro h2 h3))
  clear hf h1 h2 h3
  go_wp2
  go_ret
  exact ⟨g, rfl, HR.out⟩
def SiRel (w : World) (l l' : List Int) (v : Value) (wr : World) : Prop := ∃ i : Nat, i ≤ l.length ∧ v = .int .i64 (i : Int) ∧ Below w.heap.size w wr ∧ l.take i = l'.take i
theorem SiRel.drewN {w wr : World} {l l' : List Int} {v : Value} (h : SiRel w l l' v wr) (n : Nat) : SiRel w l l' v (wr.drewN n) := by
  obtain ⟨i, h1, h2, h3, h4⟩ := h
  exact ⟨i, h1, h2, below_drewN h3 n, h4⟩
set_option maxRecDepth 100000 in
set_option maxHeartbeats 1000000 in
theorem sameInts_any (A B : Option Addr) (c d : Nat) (l l' : List Int) (hl : l.length ≤ 65536) (w : World) (h : Reads w A (l.map iv)) (h' : Reads w B (l'.map iv)) :
    Calls Try.prog 70 #[.slice A l.length c, .slice B l'.length d] w fun e w' => e = .returned (.bool (decide (l = l'))) ∧ Below w.heap.size w w' := by
  have HH := Lib.hid (And.intro h h')
  clear h h'
  by_cases hne : l.length = l'.length
  case neg =>
    rw [show decide (l = l') = false by simp; exact fun e => hne (by rw [e])]
    have hc : ((l.length : Int) != (l'.length : Int)) = true := by simp; omega
    go_enter Try.func70, Try.ntmps70
    clear HH hl
    go_wp2
    go_ret
    exact ⟨rfl, Below.refl _ _⟩
  have hc : ((l.length : Int) != (l'.length : Int)) = false := by simp; omega
  have HE := Lib.hid hne
  obtain ⟨q, hq⟩ : ∃ q, q = decide (l = l') := ⟨_, rfl⟩
  rw [← hq]
  have HQ := Lib.hid hq
  clear hne hq
  go_enter Try.func70, Try.ntmps70
  go_wp2_with fail
  go_loopw [5] (fun v wr => SiRel w l l' v wr) (fun v _ => l.length - (intOf v).toNat)
  case atStart => exact ⟨0, Nat.zero_le _, rfl, Below.refl _ _, rfl⟩
  case round =>
    clear hc
    obtain ⟨i, hi, rfl, hB, ht⟩ := hrel
    by_cases hlt : i < l.length
    case neg =>
      have he : q = true := by
        rw [HQ.out, decide_eq_true_eq]
        have e1 : l.take i = l := List.take_of_length_le (by omega)
        have e2 : l'.take i = l' := List.take_of_length_le (by have := HE.out; omega)
        rw [← e1, ht, e2]
      subst he
      have HB := Lib.hid hB
      clear ht hi hB
      go_wp2
      go_ret
      exact ⟨rfl, HB.out⟩
    have hlt' : i < l'.length := by have := HE.out; omega
    obtain ⟨b, off, hAe, hcb⟩ := (HH.out.1.below hB) (by intro e; have e2 := congrArg List.length e; rw [List.length_map, List.length_nil] at e2; omega)
    obtain ⟨b', off', hBe, hcb'⟩ := (HH.out.2.below hB) (by intro e; have e2 := congrArg List.length e; rw [List.length_map, List.length_nil] at e2; omega)
    obtain ⟨x, hx⟩ : ∃ x, x = l[i] := ⟨_, rfl⟩
    obtain ⟨y, hy⟩ : ∃ y, y = l'[i] := ⟨_, rfl⟩
    have d1 : wr.cell? ⟨b, off + i, none⟩ = some (.int .i64 x) := hcb i _ (by rw [List.getElem?_map, List.getElem?_eq_getElem hlt, ← hx]; rfl)
    have d2 : wr.cell? ⟨b', off' + i, none⟩ = some (.int .i64 y) := hcb' i _ (by rw [List.getElem?_map, List.getElem?_eq_getElem hlt', ← hy]; rfl)
    have HX := Lib.hid (And.intro hx (And.intro hy (And.intro ht hB)))
    subst hAe hBe
    clear hcb hcb' hx hy ht hB
    by_cases hxy : x = y
    · subst hxy
      have HF := Lib.hid (show SiRel w l l' (.int .i64 ((i + 1 : Nat) : Int)) wr from ⟨i + 1, by omega, rfl, HX.out.2.2.2, by
        rw [List.take_succ_eq_append_getElem hlt, List.take_succ_eq_append_getElem hlt', HX.out.2.2.1, ← HX.out.1, ← HX.out.2.1]⟩)
      clear hi
      go_wp2_with fail
      go_quiet (fail)
      go_wp2
      go_roundw
      case rel => exact HF.out.drewN nq
      case measure => simp [intOf]; omega
    · have hf : q = false := by
        rw [HQ.out, decide_eq_false_iff_not]
        rintro rfl
        exact hxy (HX.out.1.trans HX.out.2.1.symm)
      subst hf
      have hxy2 : (x != y) = true := by simp [hxy]
      clear hi hxy
      go_wp2_with fail
      go_quiet (fail)
      go_wp2
      go_ret
      exact ⟨rfl, below_drewN HX.out.2.2.2 _⟩
end Go.Proofs.Ytmhfehhpfkjloaa
