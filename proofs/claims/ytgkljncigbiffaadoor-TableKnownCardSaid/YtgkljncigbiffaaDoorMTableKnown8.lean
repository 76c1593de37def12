/- A disk is made; is it ready, how many sectors has it, is it up. Conditions: the disk is one that was made, or none. -/
import Derived.Test.YtgkljncigbiffaaDoorMTableKnown7
namespace Go.Proofs.YtgkljncigbiffaaDoor
open Go.RowKit
def zeroSec : Array Value := arr 256 fun _ => .int .u8 0
theorem infoSec : (Tryd.prog.info? 145).map (fun i => (i.zero, i.size, i.bytes)) = some (some (.agg zeroSec), 256, 256) := by kernel_rfl
theorem zeroSec_size : zeroSec.size = 256 := arr_size _ _
theorem zeroSec_at (i : Nat) (h : i < zeroSec.size) : zeroSec[i]? = some (.int .u8 0) := arr_at _ (by rw [zeroSec_size] at h; exact h)
theorem new_no (n : Int) (h : n < 1 ∨ 65536 < n) (w : World) : Calls Tryd.prog 17 #[.int .i64 n] w fun e w' => e = .returned (.tuple #[.pointer none, .int .i64 5]) ∧ w' = w := by
  by_cases h1 : n < 1
  · go_enter Tryd.func17, Tryd.ntmps17
    go_wp2
    go_ret2
    exact ⟨rfl, rfl⟩
  · have h2 : 65536 < n := by omega
    clear h
    go_enter Tryd.func17, Tryd.ntmps17
    go_wp2
    go_ret2
    exact ⟨rfl, rfl⟩
set_option maxHeartbeats 1000000 in
theorem new_any (N : Nat) (h : 1 ≤ N ∧ N ≤ 65536) (w : World) : Calls Tryd.prog 17 #[.int .i64 (N : Int)] w fun e w' => ∃ gd gl gm, e = .returned (.tuple #[.pointer (some ⟨gd, 0, none⟩), .int .i64 0]) ∧
      DiskB w' gd gl gm N (List.replicate (N * 256) 0) #[] 0 false none 0 ∧ (w.heap.size ≤ gd ∧ w.heap.size ≤ gl ∧ w.heap.size ≤ gm ∧ gd ≠ gl ∧ gd ≠ gm ∧ gl ≠ gm) ∧ Below w.heap.size w w' := by
  have h1 : decide ((N : Int) < 1) = false := by rw [decide_eq_false_iff_not]; omega
  have h2 : decide ((N : Int) > 65536) = false := by rw [decide_eq_false_iff_not]; omega
  have HN := Lib.hid h
  clear h
  go_enter Tryd.func17, Tryd.ntmps17
  go_wp2_with (first
    | ((with_reducible show wpList _ _ _ ((⟨some 11, _, _, _, _, _⟩ : Oper) :: _) _ _); refine wpList_make_rows (o := ⟨some 11, _, _, _, _, _⟩) _ (by rfl) _ _ _ (by rfl) _ Tryd.underlying101 zeroSec 256 infoSec zeroSec_size (by omega) zeroSec_at .i64 .i64 N (by rfl) (by rfl) (by have := HN.out; omega) ?_; intro w1 hl1 hb1 hs1; clear hs1)
    | ((with_reducible show wpList _ _ _ ((⟨some 12, _, _, _, _, _⟩ : Oper) :: _) _ _); refine wpList_make_map (o := ⟨some 12, _, _, _, _, _⟩) _ (by rfl) _ (by rfl) ?_; intro w2 hm2 hb2 hs2; clear hs2)
    | fail)
  have hl2 := hl1.below hb2 hl1.lt
  have hgd := Blk.new w2 105 (dkc w.heap.size w1.heap.size N false none 0)
  have hbx := (Below.refl w2.heap.size w2).alloc (Nat.le_refl _) (.cells (dkc w.heap.size w1.heap.size N false none 0) 105)
  have hl3 := hl2.below hbx hl2.lt
  have hm3 := hm2.below hbx hm2.lt
  have hB := (hb1.trans (hb2.mono hb1.size)).trans (hbx.mono (by have := hb1.size; have := hb2.size; omega))
  go_ret2
  exact ⟨w2.heap.size, w.heap.size, w1.heap.size, rfl, ⟨hgd, hl3, hm3⟩, by have := hl1.lt; have := hm2.lt; omega, hB⟩
section
variable {gd gl gm N c : Nat} {L : List UInt8} {es : Array MapEntry} {out : Bool} {fz : Option Nat} {ops : Int}
theorem ready_nil (w : World) : Calls Tryd.prog 84 #[.pointer none] w fun e w' => e = .returned (.int .i64 1) ∧ w' = w := by
  go_enter Tryd.func84, Tryd.ntmps84
  go_wp2_with fail
  refine (none_nil w).mono ?_
  rintro e w1 ⟨rfl, rfl⟩
  go_wp2
  go_ret
  exact ⟨rfl, rfl⟩
theorem ready_zero (g : Nat) (w : World) (h : Blk w g 105 noDisk) : Calls Tryd.prog 84 #[.pointer (some ⟨g, 0, none⟩)] w fun e w' => e = .returned (.int .i64 1) ∧ w' = w := by
  go_enter Tryd.func84, Tryd.ntmps84
  go_wp2_with fail
  refine (none_zero g w h).mono ?_
  rintro e w1 ⟨rfl, rfl⟩
  clear h
  go_wp2
  go_ret
  exact ⟨rfl, rfl⟩
theorem ready_made (w : World) (q : Bool) (hq : ∀ w', w' = w → Calls Tryd.prog 123 #[.pointer (some ⟨gd, 0, none⟩)] w' fun e w'' => e = .returned (.bool q) ∧ w'' = w') (h : DiskB w gd gl gm N L es c out fz ops) :
    Calls Tryd.prog 84 #[.pointer (some ⟨gd, 0, none⟩)] w fun e w' => e = .returned (.int .i64 (if q = true then 11 else 0)) ∧ w' = w := by
  go_enter Tryd.func84, Tryd.ntmps84
  go_wp2_with fail
  refine (none_made w h).mono ?_
  rintro e w1 ⟨rfl, rfl⟩
  clear h
  go_wp2_with fail
  refine (hq _ rfl).mono ?_
  rintro e w2 ⟨rfl, rfl⟩
  clear hq
  cases q
  all_goals
    go_wp2
    go_ret
    exact ⟨rfl, rfl⟩
theorem ready_up (w : World) (h : DiskB w gd gl gm N L es c false none ops) : Calls Tryd.prog 84 #[.pointer (some ⟨gd, 0, none⟩)] w fun e w' => e = .returned (.int .i64 0) ∧ w' = w :=
  ready_made w false (fun w' hw => by rw [hw]; exact isOut_none w h) h
set_option maxRecDepth 100000 in
theorem sectors_made (w : World) (h : DiskB w gd gl gm N L es c out fz ops) : Calls Tryd.prog 114 #[.pointer (some ⟨gd, 0, none⟩)] w fun e w' => e = .returned (.int .i64 (N : Int)) ∧ w' = w := by
  have d0 := h.1.at_ 0 (v := .slice (some ⟨gl, 0, none⟩) N N) rfl
  go_enter Tryd.func114, Tryd.ntmps114
  go_wp2_with fail
  refine (none_made w h).mono ?_
  rintro e w1 ⟨rfl, rfl⟩
  clear h
  go_wp2
  go_ret
  exact ⟨rfl, rfl⟩
theorem sectors_nil (w : World) : Calls Tryd.prog 114 #[.pointer none] w fun e w' => e = .returned (.int .i64 0) ∧ w' = w := by
  go_enter Tryd.func114, Tryd.ntmps114
  go_wp2_with fail
  refine (none_nil w).mono ?_
  rintro e w1 ⟨rfl, rfl⟩
  go_wp2
  go_ret
  exact ⟨rfl, rfl⟩
theorem sectors_zero (g : Nat) (w : World) (h : Blk w g 105 noDisk) : Calls Tryd.prog 114 #[.pointer (some ⟨g, 0, none⟩)] w fun e w' => e = .returned (.int .i64 0) ∧ w' = w := by
  go_enter Tryd.func114, Tryd.ntmps114
  go_wp2_with fail
  refine (none_zero g w h).mono ?_
  rintro e w1 ⟨rfl, rfl⟩
  clear h
  go_wp2
  go_ret
  exact ⟨rfl, rfl⟩
theorem up_made (w : World) (q : Bool) (hq : ∀ w', w' = w → Calls Tryd.prog 123 #[.pointer (some ⟨gd, 0, none⟩)] w' fun e w'' => e = .returned (.bool q) ∧ w'' = w') (h : DiskB w gd gl gm N L es c out fz ops) :
    Calls Tryd.prog 115 #[.pointer (some ⟨gd, 0, none⟩)] w fun e w' => e = .returned (.bool (!q)) ∧ w' = w := by
  go_enter Tryd.func115, Tryd.ntmps115
  go_wp2_with fail
  refine (none_made w h).mono ?_
  rintro e w1 ⟨rfl, rfl⟩
  clear h
  go_wp2_with fail
  refine (hq _ rfl).mono ?_
  rintro e w2 ⟨rfl, rfl⟩
  clear hq
  go_wp2
  go_ret
  exact ⟨rfl, rfl⟩
end
end Go.Proofs.YtgkljncigbiffaaDoor

/- A change of a disk that is up, without a fuse: what is to be done is done, and counted. Conditions: the changes are fewer than 10^9; what is to be done keeps to its contract. -/
namespace Go.Proofs.YtgkljncigbiffaaDoor
open Go.RowKit
section
variable {gd gl gm N c : Nat} {L : List UInt8} {es : Array MapEntry} {out : Bool} {fz : Option Nat} {ops : Int}
theorem DiskB.ops_ {w : World} (h : DiskB w gd gl gm N L es c out fz ops) (hne : gd ≠ gl ∧ gd ≠ gm) (x : Int) : DiskB (w.setCell ⟨gd, 4, none⟩ (.int .i64 x)) gd gl gm N L es c out fz x :=
  ⟨(h.1.set_ 4 (.int .i64 x)).sub rfl, h.2.1.off (fun e => hne.1 e.symm) _, h.2.2.upd ((Upd.refl gd w).set 4 _) (fun e => hne.2 e.symm)⟩
set_option maxRecDepth 100000 in
set_option maxHeartbeats 1000000 in
theorem change_up (w : World) (h : DiskB w gd gl gm N L es c out none ops) (hne : gd ≠ gl ∧ gd ≠ gm) (hops : 0 ≤ ops ∧ ops < 1000000000) (k : Nat) (caps : Array Value) (Q : World → Prop) (hcall : ∀ (args : Array Value) (w : World), (callFunc k args).run Tryd.prog w = .ok (.enter k args) w)
    (hk : ∀ w', DiskB w' gd gl gm N L es c out none (ops + 1) → Upd gd w w' → Calls Tryd.prog k caps w' fun e w'' => e = .returned (.tuple #[]) ∧ Q w'') :
    Calls Tryd.prog 111 #[.pointer (some ⟨gd, 0, none⟩), .func (.func k) #[] caps] w fun e w' => e = .returned (.int .i64 0) ∧ Q w' := by
  have d3 := h.1.at_ 3 (v := .pointer none) rfl
  have d4 := h.1.at_ 4 (v := .int .i64 ops) rfl
  have f4 := h.1.frozen 4
  have hK := Lib.hid (hk _ (h.ops_ hne (ops + 1)) ((Upd.refl gd w).set 4 _))
  clear h hk
  go_enter Tryd.func111, Tryd.ntmps111
  go_wp2_with fail
  refine hK.out.mono ?_
  rintro e w2 ⟨rfl, hq⟩
  have HQ := Lib.hid hq
  clear hq hK d3 d4 f4
  go_wp2
  go_ret
  exact ⟨rfl, HQ.out⟩
end
end Go.Proofs.YtgkljncigbiffaaDoor

/- The loose sectors of a disk: a map's entries against a plain function. Plain facts. No condition. -/
namespace Go
open Go.RowKit Go.MapKept
theorem mfind_shift (a : Int) : ∀ (es : List MapEntry) (i : Nat), mfind es a (i + 1) = (mfind es a i).map fun p => (p.1 + 1, p.2)
  | [], _ => rfl
  | e :: es, i => by
    unfold mfind
    split
    · rename_i b hb
      by_cases hab : a = b
      · rw [if_pos hab, if_pos hab]; rfl
      · rw [if_neg hab, if_neg hab]; exact mfind_shift a es (i + 1)
    · exact mfind_shift a es (i + 1)
theorem mfind_none (a : Int) : ∀ (es : List MapEntry) (i : Nat), mfind es a i = none → ∀ e ∈ es, e.key ≠ .int .i64 a
  | [], _, _, e, he => by cases he
  | x :: es, i, h, e, he => by
    unfold mfind at h
    split at h
    · rename_i b hb
      by_cases hab : a = b
      · rw [if_pos hab] at h; cases h
      · rw [if_neg hab] at h
        cases he with
        | head => rw [hb]; intro e; injection e with _ e; exact hab e.symm
        | tail _ he => exact mfind_none a es _ h e he
    · rename_i hn
      cases he with
      | head => exact fun hk => hn a hk
      | tail _ he => exact mfind_none a es _ h e he
/-- The elements of a map of sectors. -/
def SecVals (es : List MapEntry) : Prop := ∀ e ∈ es, ∃ l : List UInt8, l.length = 256 ∧ e.val = .agg (l.map u8v).toArray
theorem SecVals.put {es : Array MapEntry} {c : Nat} {a : Int} {l : List UInt8} (h : SecVals es.toList) (hl : l.length = 256) : SecVals (mput es c a (.agg (l.map u8v).toArray)).1.toList := by
  unfold mput
  split
  · intro e he
    rw [Array.toList_modify] at he
    obtain ⟨k, hk, rfl⟩ := List.getElem_of_mem he
    rw [List.getElem_modify]
    split
    · exact ⟨l, hl, rfl⟩
    · exact h _ (List.getElem_mem _)
  · intro e he
    rw [Array.toList_push, List.mem_append, List.mem_singleton] at he
    rcases he with he | rfl
    · exact h e he
    · exact ⟨l, hl, rfl⟩
theorem SecVals.get {es : Array MapEntry} (h : SecVals es.toList) (a : Int) : ∃ l : List UInt8, l.length = 256 ∧ (mget es a).getD (.agg ((List.replicate 256 (0 : UInt8)).map u8v).toArray) = .agg (l.map u8v).toArray := by
  unfold mget
  cases hm : mfind es.toList a 0 with
  | none => exact ⟨List.replicate 256 0, List.length_replicate .., rfl⟩
  | some p =>
    obtain ⟨i, v⟩ := p
    obtain ⟨_, e, h1, _, h3⟩ := mfind_lt a es.toList 0 i v hm
    obtain ⟨l, h4, h5⟩ := h e (List.mem_of_getElem? h1)
    exact ⟨l, h4, by rw [← h5, h3]; rfl⟩
/-- A sector's bytes. -/
def sec (L : List UInt8) (i : Nat) : List UInt8 := (L.drop (256 * i)).take 256
/-- A map's entries are a function's values. -/
structure OldIs (es : Array MapEntry) (c : Nat) (old : Nat → Option (List UInt8)) : Prop where
  stamped : Stamped es c
  ent : ∀ e ∈ es.toList, ∃ (k : Nat) (l : List UInt8), e.key = .int .i64 (k : Int) ∧ old k = some l ∧ l.length = 256 ∧ e.val = .agg (l.map u8v).toArray
  all : ∀ k l, old k = some l → ∃ e ∈ es.toList, e.key = .int .i64 (k : Int)
section
variable {es : Array MapEntry} {c : Nat} {old : Nat → Option (List UInt8)}
theorem OldIs.nil (c : Nat) : OldIs #[] c fun _ => none := ⟨stamped_empty c, fun e he => by simp at he, fun k l h => by cases h⟩
theorem OldIs.keys (h : OldIs es c old) : IntKeys es.toList := fun e he => by
  obtain ⟨k, l, h1, _⟩ := h.ent e he
  exact ⟨k, h1⟩
theorem OldIs.vals (h : OldIs es c old) : SecVals es.toList := fun e he => by
  obtain ⟨k, l, _, _, h1, h2⟩ := h.ent e he
  exact ⟨l, h1, h2⟩
theorem OldIs.get (h : OldIs es c old) (k : Nat) : mget es (k : Int) = (old k).map fun l => .agg (l.map u8v).toArray := by
  unfold mget
  cases hm : mfind es.toList (k : Int) 0 with
  | none =>
    cases ho : old k with
    | none => rfl
    | some l =>
      obtain ⟨e, he, hk⟩ := h.all k l ho
      exact absurd hk (mfind_none _ _ _ hm e he)
  | some p =>
    obtain ⟨i, v⟩ := p
    obtain ⟨_, e, h1, h2, h3⟩ := mfind_lt _ es.toList 0 i v hm
    obtain ⟨k', l, h4, h5, _, h6⟩ := h.ent e (List.mem_of_getElem? h1)
    rw [h2] at h4
    injection h4 with _ h4
    obtain rfl : k = k' := by omega
    rw [h5, ← h3, h6]
    rfl
theorem OldIs.len (h : OldIs es c old) {k : Nat} {l : List UInt8} (hk : old k = some l) : l.length = 256 := by
  obtain ⟨e, he, h1⟩ := h.all k l hk
  obtain ⟨k', l', h2, h3, h4, _⟩ := h.ent e he
  rw [h1] at h2
  injection h2 with _ h2
  obtain rfl : k = k' := by omega
  rw [hk] at h3
  injection h3 with h3
  rw [h3, h4]
/-- One more. -/
def oldUp (old : Nat → Option (List UInt8)) (k : Nat) (l : List UInt8) : Nat → Option (List UInt8) := fun j => if j = k then some l else old j
theorem OldIs.put (h : OldIs es c old) {k : Nat} {l : List UInt8} (hk : old k = none) (hl : l.length = 256) :
    OldIs (mput es c (k : Int) (.agg (l.map u8v).toArray)).1 (mput es c (k : Int) (.agg (l.map u8v).toArray)).2 (oldUp old k l) := by
  have hm : mfind es.toList (k : Int) 0 = none := by
    have h1 := h.get k
    rw [hk] at h1
    unfold mget at h1
    cases hm : mfind es.toList (k : Int) 0 with
    | none => rfl
    | some p => rw [hm] at h1; cases h1
  have hno := mfind_none _ _ _ hm
  unfold mput
  rw [hm]
  refine ⟨stamped_push h.stamped hno, fun e he => ?_, fun j m hj => ?_⟩
  · rw [Array.toList_push, List.mem_append, List.mem_singleton] at he
    rcases he with he | rfl
    · obtain ⟨k', l', h1, h2, h3⟩ := h.ent e he
      refine ⟨k', l', h1, ?_, h3⟩
      unfold oldUp
      rw [if_neg (fun e1 => by rw [e1, hk] at h2; cases h2)]
      exact h2
    · exact ⟨k, l, rfl, by unfold oldUp; rw [if_pos rfl], hl, rfl⟩
  · rw [Array.toList_push]
    unfold oldUp at hj
    by_cases hjk : j = k
    · exact ⟨_, List.mem_append_right _ (List.mem_singleton.2 rfl), by rw [hjk]⟩
    · rw [if_neg hjk] at hj
      obtain ⟨e, he, h1⟩ := h.all j m hj
      exact ⟨e, List.mem_append_left _ he, h1⟩
/-- What is loose when n sectors from at on were written over the bytes L. -/
def oldW (old : Nat → Option (List UInt8)) (L : List UInt8) (at_ n : Nat) : Nat → Option (List UInt8) := fun k => if at_ ≤ k ∧ k < at_ + n then some ((old k).getD (sec L k)) else old k
theorem oldW_zero (L : List UInt8) (at_ : Nat) : oldW old L at_ 0 = old := by
  funext k; unfold oldW; rw [if_neg (by omega)]
theorem oldW_at {L : List UInt8} {at_ n : Nat} : oldW old L at_ n (at_ + n) = old (at_ + n) := by unfold oldW; rw [if_neg (by omega)]
theorem oldW_has {L : List UInt8} {at_ n : Nat} {l : List UInt8} (h : old (at_ + n) = some l) : oldW old L at_ (n + 1) = oldW old L at_ n := by
  funext k
  unfold oldW
  by_cases hk : k = at_ + n
  · subst hk; rw [if_pos (by omega), if_neg (by omega), h]; rfl
  · by_cases h1 : at_ ≤ k ∧ k < at_ + n
    · rw [if_pos h1, if_pos (by omega)]
    · rw [if_neg h1, if_neg (by omega)]
theorem oldW_new {L : List UInt8} {at_ n : Nat} (h : old (at_ + n) = none) : oldUp (oldW old L at_ n) (at_ + n) (sec L (at_ + n)) = oldW old L at_ (n + 1) := by
  funext k
  unfold oldUp oldW
  by_cases hk : k = at_ + n
  · subst hk; rw [if_pos rfl, if_pos (by omega), h]; rfl
  · rw [if_neg hk]
    by_cases h1 : at_ ≤ k ∧ k < at_ + n
    · rw [if_pos h1, if_pos (by omega)]
    · rw [if_neg h1, if_neg (by omega)]
theorem sec_wr_behind {L b : List UInt8} {at_ i : Nat} (h : 256 * at_ ≤ L.length) (hb : 256 * i ≤ b.length) : sec (wr L (256 * at_) (b.take (256 * i))) (at_ + i) = sec L (at_ + i) := by
  unfold sec
  have e : 256 * (at_ + i) = 256 * at_ + (b.take (256 * i)).length + 0 := by rw [List.length_take]; omega
  rw [e, wr_drop h]
end
end Go

/- A region that draws its order, by a plan that branches: some operations are taken first wherever they may come, of the others each that may come next is followed. Plain facts over any program. No condition. -/
namespace Go
/-- The plan: take i first; or one of several may come (opt i r more: i, then r; or one of more; no: none else). -/
inductive PlanT where
  | done
  | take (i : Nat) (r : PlanT)
  | opt (i : Nat) (r more : PlanT)
  | no
def PlanT.heads : PlanT → List Nat
  | .opt i _ m => i :: m.heads
  | _ => []
def Region.treeB (md : Region.Mode) (ops : Array Oper) (Z : List Nat) : PlanT → Bool → Nat → Array Bool → Bool
  | .done, _, n, s => decide (n = 0) && (Region.ready md ops s).isEmpty
  | .take i r, _, n, s => match n with
    | 0 => false
    | n + 1 => (Region.ready md ops s).contains i && Region.free md ops s i && (Z.all fun z => Region.waitsFor md ops z i) && Region.treeB md ops Z r true n (s.setIfInBounds i true)
  | .opt i r m, first, n, s => match n with
    | 0 => false
    | n + 1 => (!first || decide (Region.ready md ops s = i :: m.heads)) && Region.treeB md ops Z r true n (s.setIfInBounds i true) && Region.treeB md ops Z m false (n + 1) s
  | .no, first, _, _ => !first
def Region.treeZ (Z : List Nat) : PlanT → Bool → Bool
  | .done, _ => true
  | .take _ r, c => c && Region.treeZ Z r c
  | .opt i r m, c => Region.treeZ Z r (c && !Z.contains i) && Region.treeZ Z m c
  | .no, _ => true
section
variable {P : Program} {ops : Array Oper} {md : Region.Mode} {C : World → Prop} {Z : List Nat} {Q : Exit → Act → World → Prop}
def wpTree (P : Program) (ops : Array Oper) (C : World → Prop) (Z : List Nat) (Q : Exit → Act → World → Prop) : PlanT → Act → World → Prop
  | .done, a, w => Q .normal a w
  | .take i r, a, w => match ops[i]? with
    | some o => ∃ v, YieldsC P ops C o v a ∧ (C w → wpTree P ops C Z Q r (a.put o.dst v) w)
    | none => False
  | .opt i r m, a, w => wpOp P ops Q i (fun a' w' => (i ∈ Z ∨ C w') ∧ wpTree P ops C Z Q r a' w') a w ∧ wpTree P ops C Z Q m a w
  | .no, _, _ => True
theorem anyC_of_tree (hns : Region.noSelect ops = true) (hQ : ∀ c a a' w, a'.defers = a.defers → Q (.panic c) a' w → Q (.panic c) a w) :
    ∀ (t : PlanT) (c : Bool) (n : Nat) (s : Array Bool) (a : Act) (w : World), Region.treeZ Z t c = true → (c = true → C w) → wpTree P ops C Z Q t a w →
      (Region.treeB md ops Z t true n s = true → wpAnyC P md ops C Z Q n s a w) ∧
      (∀ m, n = m + 1 → Region.treeB md ops Z t false n s = true → ∀ i ∈ t.heads, wpOp P ops Q i (fun a' w' => (i ∈ Z ∨ C w') ∧ wpAnyC P md ops C Z Q m (s.setIfInBounds i true) a' w') a w) := by
  intro t
  induction t with
  | done =>
    intro c n s a w _ _ h
    refine ⟨fun hB => ?_, fun m _ _ i hi => by cases hi⟩
    simp only [Region.treeB, Bool.and_eq_true, decide_eq_true_eq] at hB
    obtain ⟨rfl, hB⟩ := hB
    exact ⟨by simpa using hB, h⟩
  | no =>
    intro c n s a w _ _ _
    exact ⟨fun hB => by simp [Region.treeB] at hB, fun m _ _ i hi => by cases hi⟩
  | take i r ih =>
    intro c n s a w hz hC h
    refine ⟨fun hB => ?_, fun m _ _ i hi => by cases hi⟩
    cases n with
    | zero => simp [Region.treeB] at hB
    | succ n =>
      simp only [Region.treeB, Bool.and_eq_true] at hB
      simp only [Region.treeZ, Bool.and_eq_true] at hz
      obtain ⟨⟨⟨h1, h2⟩, h3⟩, h4⟩ := hB
      have hr : i ∈ Region.ready md ops s := by simpa using h1
      obtain ⟨_, oi, hoi, _⟩ := mem_ready.1 hr
      simp only [wpTree, hoi] at h
      obtain ⟨v, hy, hn⟩ := h
      exact wpAnyC_first hoi hns hQ (fun z hz => List.all_eq_true.1 h3 z hz) n s a w (Region.free_spec hoi h2) hr hy (hC hz.1) ((ih c n _ _ _ hz.2 hC (hn (hC hz.1))).1 h4)
  | opt i r m ihr ihm =>
    intro c n s a w hz hC h
    simp only [Region.treeZ, Bool.and_eq_true] at hz
    obtain ⟨h1, h2⟩ := h
    have key : ∀ k first, n = k + 1 → Region.treeB md ops Z (.opt i r m) first n s = true → ∀ j ∈ (PlanT.opt i r m).heads, wpOp P ops Q j (fun a' w' => (j ∈ Z ∨ C w') ∧ wpAnyC P md ops C Z Q k (s.setIfInBounds j true) a' w') a w := by
      intro k first hn hB j hj
      subst hn
      simp only [Region.treeB, Bool.and_eq_true] at hB
      obtain ⟨⟨_, hr⟩, hm⟩ := hB
      simp only [PlanT.heads, List.mem_cons] at hj
      rcases hj with rfl | hj
      · refine wpOp_mono (fun a' w' h' => ⟨h'.1, (ihr (c && !Z.contains j) k _ a' w' hz.1 (fun hc => ?_) h'.2).1 hr⟩) h1
        simp only [Bool.and_eq_true, Bool.not_eq_true'] at hc
        refine h'.1.resolve_left fun hmm => ?_
        rw [List.contains_iff_mem.2 hmm] at hc
        cases hc.2
      · exact (ihm c (k + 1) s a w hz.2 hC h2).2 k rfl hm j hj
    refine ⟨fun hB => ?_, fun k hk hB => key k false hk hB⟩
    cases n with
    | zero => simp [Region.treeB] at hB
    | succ n =>
      have hk := key n true rfl hB
      simp only [Region.treeB, Bool.and_eq_true, Bool.not_true, Bool.false_or, decide_eq_true_eq] at hB
      refine ⟨fun h0 => (by rw [hB.1.1] at h0; cases h0), fun j hj => ?_⟩
      rw [hB.1.1] at hj
      exact hk j hj
/-- **THE REGION, BY A PLAN THAT BRANCHES.** -/
theorem wp_region_tree {id : Nat} {a : Act} {w : World} {l : List Oper} {Q : Exit → Act → World → Prop} (C : World → Prop) (Z : List Nat) (t : PlanT) (hm : P.follows .mixedOrders = true)
    (hB : (Region.noSelect l.toArray && Region.treeB .any l.toArray Z t true l.toArray.size (Array.replicate l.toArray.size false) && Region.treeZ Z t true) = true)
    (hC : C w.drew) (h : wpTree P l.toArray C Z (tidy Q) t a w.drew) : (Code.region id l.toArray true).wp P Q a w := by
  simp only [Bool.and_eq_true] at hB
  refine wp_mono (Q := tidy Q) ?_ (tidy_le Q)
  refine wp_region_any hm ?_
  exact wpAny_of_C _ _ _ _ ((anyC_of_tree hB.1.1 (fun _ _ _ _ _ q => q.elim) t true _ _ a w.drew hB.2 (fun _ => hC) h).1 hB.1.2)
theorem wpIn_region_tree {F : Fence} {n : Nat} {id : Nat} {a : Act} {w : World} {l : List Oper} {Q : Exit → Act → World → Prop} (C : World → Prop) (Z : List Nat) (t : PlanT) (hm : P.follows .mixedOrders = true)
    (hB : (Region.noSelect l.toArray && Region.treeB .any l.toArray Z t true l.toArray.size (Array.replicate l.toArray.size false) && Region.treeZ Z t true) = true)
    (hc : (l.toArray.all fun o => o.op.calmB) = true)
    (hC : C w.drew) (h : wpTree P l.toArray C Z (tidy Q) t a w.drew) : (Code.region id l.toArray true).wpIn F n P Q a w := by
  simp only [Bool.and_eq_true] at hB
  refine wpIn_mono (wpIn_region_any (Q := tidy Q) hm (anyIn_of_any hc _ _ _ _ ?_)) (tidy_le Q)
  rw [strict_tidy]
  exact wpAny_of_C _ _ _ _ ((anyC_of_tree hB.1.1 (fun _ _ _ _ _ q => q.elim) t true _ _ a w.drew hB.2 (fun _ => hC) h).1 hB.1.2)
def PlanT.takes : List Nat → PlanT → PlanT
  | [], r => r
  | i :: is, r => .take i (PlanT.takes is r)
theorem wpTree_take {w : World} (is : List Nat) (r : PlanT) : ∀ (a : Act), ((is.filterMap fun i => ops[i]?).all fun o => o.op.stillB) = true → (is.all fun i => decide (i < ops.size)) = true →
    C w → wpQuiet P ops C (fun a' => wpTree P ops C Z Q r a' w) (is.filterMap fun i => ops[i]?) a → wpTree P ops C Z Q (PlanT.takes is r) a w := by
  induction is with
  | nil => intro a _ _ _ h; exact h
  | cons i is ih =>
    intro a hs hlt hC h
    simp only [List.all_cons, Bool.and_eq_true, decide_eq_true_eq] at hlt
    have hi : ops[i]? = some ops[i] := Array.getElem?_eq_getElem hlt.1
    simp only [List.filterMap_cons, hi, List.all_cons, Bool.and_eq_true] at hs h
    have hq : qOp P ops C i (wpQuiet P ops C (fun a' => wpTree P ops C Z Q r a' w) (is.filterMap fun i => ops[i]?)) a := by unfold qOp; simp only [hi]; exact h
    obtain ⟨v, hy, hK⟩ := yieldsIn_of_qOp hi hq
    simp only [PlanT.takes, wpTree, hi]
    exact ⟨v, yieldsC_of hs.1 hy, fun _ => ih _ hs.2 hlt.2 hC hK⟩
/-- Operations that are taken first, read in a class of worlds. -/
theorem wpTree_takeL {l : List Oper} {w : World} (is : List Nat) (r : PlanT) (a : Act) (hs : ((is.filterMap fun i => l[i]?).all fun o => o.op.stillB) = true) (hlt : (is.all fun i => decide (i < l.length)) = true)
    (hC : C w) (h : wpQuiet P l.toArray C (fun a' => wpTree P l.toArray C Z Q r a' w) (is.filterMap fun i => l[i]?) a) : wpTree P l.toArray C Z Q (PlanT.takes is r) a w := by
  have e : (is.filterMap fun i => l.toArray[i]?) = is.filterMap fun i => l[i]? := by congr 1; funext i; exact List.getElem?_toArray ..
  exact wpTree_take is r a (by rw [e]; exact hs) (by simpa using hlt) hC (by rw [e]; exact h)
theorem wpTree_pure {l : List Oper} {w : World} (is : List Nat) (r : PlanT) : ∀ (a : Act), ((is.filterMap fun i => l[i]?).all fun o => o.op.stillB) = true → (is.all fun i => decide (i < l.length)) = true →
    wpQuiet P l.toArray (fun _ => True) (fun a' => wpTree P l.toArray C Z Q r a' w) (is.filterMap fun i => l[i]?) a → wpTree P l.toArray C Z Q (PlanT.takes is r) a w := by
  induction is with
  | nil => intro a _ _ h; exact h
  | cons i is ih =>
    intro a hs hlt h
    simp only [List.all_cons, Bool.and_eq_true, decide_eq_true_eq] at hlt
    have hi : l[i]? = some l[i] := List.getElem?_eq_getElem hlt.1
    have hi' : l.toArray[i]? = some l[i] := by rw [List.getElem?_toArray]; exact hi
    simp only [List.filterMap_cons, hi, List.all_cons, Bool.and_eq_true] at hs h
    have hq : qOp P l.toArray (fun _ => True) i (wpQuiet P l.toArray (fun _ => True) (fun a' => wpTree P l.toArray C Z Q r a' w) (is.filterMap fun i => l[i]?)) a := by unfold qOp; simp only [hi']; exact h
    obtain ⟨v, hy, hK⟩ := yieldsIn_of_qOp hi' hq
    have hy' := yieldsC_of hs.1 hy
    simp only [PlanT.takes, wpTree, hi']
    refine ⟨v, ?_, fun _ => ih _ hs.2 hlt.2 hK⟩
    rcases hy' with ⟨h1, h2⟩ | h1
    · exact .inl ⟨h1, fun w _ => h2 w trivial⟩
    · exact .inr h1
/-- What is asked behind an operation that came. -/
def TreeQ (P : Program) (ops : Array Oper) (C : World → Prop) (Z : List Nat) (Q : Exit → Act → World → Prop) (i : Nat) (r : PlanT) : Exit → Act → World → Prop
  | .normal, a, w => (i ∈ Z ∨ C w) ∧ wpTree P ops C Z Q r a w
  | e, a, w => Q e a w
theorem wpTree_opt {l : List Oper} {a : Act} {w : World} {i : Nat} {r m : PlanT} (o : Oper) (ho : l[i]? = some o) (h : wpList P l.toArray (TreeQ P l.toArray C Z Q i r) [o] a w) (hm : wpTree P l.toArray C Z Q m a w) : wpTree P l.toArray C Z Q (.opt i r m) a w := by
  refine ⟨?_, hm⟩
  have ho' : l.toArray[i]? = some o := by rw [List.getElem?_toArray]; exact ho
  unfold wpOp
  simp only [ho']
  unfold wpList at h
  have hmono : ∀ {a : Act} {w : World}, o.wp P a w (wpList P l.toArray (TreeQ P l.toArray C Z Q i r) []) (TreeQ P l.toArray C Z Q i r) → o.wp P a w (fun a' w' => (i ∈ Z ∨ C w') ∧ wpTree P l.toArray C Z Q r a' w') Q := by
    intro a w h
    unfold Oper.wp at h ⊢
    generalize (execOp a.eval o).run P w = rr at *
    cases rr with
    | ok n w' =>
      cases n <;> simp only [Oper.upon] at h ⊢
      case value u => exact h
      case skip => exact h
      case defer d => exact h
      case enter f args =>
        refine Calls.mono h fun e w'' he => ?_
        cases e <;> exact he
      case row row args => exact Rows.mono h fun u w'' he => he
    | halt x w' => cases x <;> simp only [Oper.upon] at h ⊢; exact h
  split
  · rename_i hw
    rw [if_pos hw] at h
    rcases h with h | ⟨h1, h2⟩
    · exact .inl (hmono h)
    · exact .inr ⟨h1, h2⟩
  · rename_i hw
    rw [if_neg hw] at h
    exact h
/-- The only one that may come. -/
theorem wpTree_one {l : List Oper} {a : Act} {w : World} {i : Nat} {r : PlanT} (o : Oper) (ho : l[i]? = some o) (h : wpList P l.toArray (TreeQ P l.toArray C Z Q i r) [o] a w) : wpTree P l.toArray C Z Q (.opt i r .no) a w :=
  wpTree_opt o ho h trivial
theorem wpTree_done {a : Act} {w : World} (h : Q .normal a w) : wpTree P ops C Z (tidy Q) .done a w := h
theorem TreeQ.in_ {a : Act} {w : World} {i : Nat} {r : PlanT} (hC : C w) (h : wpTree P ops C Z Q r a w) : TreeQ P ops C Z Q i r .normal a w := ⟨.inr hC, h⟩
theorem TreeQ.out {a : Act} {w : World} {i : Nat} {r : PlanT} (hz : Z.contains i = true) (h : wpTree P ops C Z Q r a w) : TreeQ P ops C Z Q i r .normal a w := ⟨.inl (by simpa using hz), h⟩
/-- What branches share: the rest is shown once. (By 'apply': G is found in the first branch.) -/
theorem share {α : Type} {F G : α → World → Prop} {goal : Prop} (main : (∀ x w, F x w → G x w) → goal) (tail : ∀ x w, F x w → G x w) : goal := main tail
end
end Go
