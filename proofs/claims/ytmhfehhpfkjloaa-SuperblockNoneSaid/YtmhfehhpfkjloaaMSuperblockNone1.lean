/- The room of a superblock's heads, where the superblock is an argument of a row: at most what a row can reach. Plain facts of this program. No condition. -/
import Derived.Test.YtmhfehhpfkjloaaM616
import Derived.SizedLaws
import Derived.ChangeArms
import Derived.Deep.Slices
namespace Go.Proofs.Ytmhfehhpfkjloaa
open Go.RowKit
theorem superRoom {H : Type} {enc : TypeId × Value → H} {W : World} {cs : List Value} {d : DataW H} {p : List MemPlace} (h : DataW.Trod enc Try.prog W 0 (fun _ => true) true 26 (.agg cs.toArray) d p)
    {ts : List TypeId} {ds : List (DataW H)} (hsz : (DataW.weightsEach Try.prog ts ds).all (· ≤ reachBytes) = true) (ht : ts[0]? = some 26) (hd : ds[0]? = some d) {A : Option Addr} {n c : Nat} (hcs : cs[10]? = some (.slice A n c)) : c * 16 ≤ 140737488351232 := by
  obtain ⟨fuel, h⟩ := h
  obtain ⟨xs, m, rfl, hx, hl, hxl, hf⟩ := DataW.trod_struct Try.underlying26 h
  have hd' : d = .agg (xs.map (·.1)) := congrArg Prod.fst hx
  have h9 := hf 9 _ (by rfl)
  have hlen : cs.length = 11 := by
    have : ((Value.agg cs.toArray).cells.toList).length = 11 := by rw [hl]; kernel_rfl
    simpa [Value.cells] using this
  have e : (((Value.agg cs.toArray).cells.toList).drop 10).take (Try.prog.cellsOf 24) = [.slice A n c] := by
    rw [show Try.prog.cellsOf 24 = 1 by kernel_rfl]
    show (cs.drop 10).take 1 = _
    rw [List.drop_eq_getElem_cons (by omega)]
    have h10 : cs[10] = .slice A n c := by
      rw [List.getElem?_eq_getElem (by omega)] at hcs
      exact Option.some.inj hcs
    rw [h10]; rfl
  replace h9 : DataW.trod enc Try.prog W 0 (fun _ => true) true m 24 ((((Value.agg cs.toArray).cells.toList).drop 10).take (Try.prog.cellsOf 24)) = xs[9]? := h9
  rw [e] at h9
  have hx9 : 9 < xs.length := by rw [hxl]; decide
  rw [List.getElem?_eq_getElem hx9] at h9
  obtain ⟨x9, hx9e⟩ : ∃ x, x = xs[9] := ⟨_, rfl⟩
  rw [← hx9e] at h9
  rcases Go.Deep.open_slice Try.underlying24 h9 with ⟨h1, -⟩ | ⟨a, len, cap, q, k, D, Pl, h1, -, hle, -, hq, hx2, -⟩
  · injection h1 with h1 _
    injection h1 with _ _ h1
    subst h1
    omega
  · injection h1 with h1 _
    injection h1 with _ _ h1
    subst h1
    rw [if_pos rfl] at hq
    have hw9 : (len + (q - len)) * Try.prog.bytesOf 102 ∈ x9.1.weights Try.prog 24 := by
      rw [hx2]
      simp [DataW.weights, Try.underlying24]
    have hin : (len + (q - len)) * Try.prog.bytesOf 102 ∈ d.weights Try.prog 26 := by
      rw [hd']
      unfold DataW.weights
      rw [Try.underlying26]
      refine DataW.weights_mem_each (j := 9) (t := 24) (d := x9.1) (by rfl) ?_ _ hw9
      rw [List.getElem?_map, List.getElem?_eq_getElem hx9, ← hx9e]; rfl
    have hall := List.all_eq_true.1 hsz _ (DataW.weights_mem_each ht hd _ hin)
    have hall := of_decide_eq_true hall
    rw [show Try.prog.bytesOf 102 = 16 by kernel_rfl] at hall
    simp only [reachBytes] at hall
    omega
end Go.Proofs.Ytmhfehhpfkjloaa

/- Why a disk has no copies: the superblock's ready; what Open and Format answer of no disk. Conditions: the disk is up and has no fuse, or is none. -/
namespace Go.Proofs.Ytmhfehhpfkjloaa
open Go.RowKit
theorem spReady_no (D : Option Addr) (w : World) (h : NoDisk D w) : Calls Try.prog 54 #[.pointer D] w fun e w' => e = .returned (.int .i64 1) ∧ w' = w := by
  go_enter Try.func54, Try.ntmps54
  go_wp2_with fail
  refine (sectors_no D w h).mono ?_
  rintro e w1 ⟨rfl, hw⟩
  obtain rfl := hw.symm
  clear h hw
  go_wp2
  go_ret
  exact ⟨rfl, rfl⟩
theorem spFormat_no (D : Option Addr) (f : HdF) (fe : Bool) (hv : Value) (w : World) (h : NoDisk D w) : Calls Try.prog 17 #[.pointer D, .agg (spc f fe hv)] w fun e w' => e = .returned (.int .i64 1) ∧ Near [] w w' := by
  have hnr := Near.below (X := []) ((Below.refl w.heap.size w).alloc (Nat.le_refl _) (.cells (spc f fe hv) 26))
  have HD := Lib.hid (And.intro (h.near hnr) hnr)
  clear h hnr
  unfold spc at HD ⊢
  go_enter Try.func17, Try.ntmps17
  go_wp2_with fail
  refine (sectors_no D _ HD.out.1).mono ?_
  rintro e w1 ⟨rfl, hw⟩
  obtain rfl := hw.symm
  clear hw
  go_wp2
  go_ret
  exact ⟨rfl, HD.out.2⟩
section
variable {gd gl gm N c : Nat} {L : List UInt8} {es : Array MapEntry} {ops : Int}
theorem up_up (w : World) (h : DiskB w gd gl gm N L es c false none ops) : Calls Try.prog 44 #[.pointer (some ⟨gd, 0, none⟩)] w fun e w' => e = .returned (.bool true) ∧ w' = w :=
  up_made w false (fun w' hw => by rw [hw]; exact isOut_none w h) h
theorem spReady_up (w : World) (h : DiskB w gd gl gm N L es c false none ops) (hN : 1 ≤ N) : Calls Try.prog 54 #[.pointer (some ⟨gd, 0, none⟩)] w fun e w' => e = .returned (.int .i64 (if N < 8 then 5 else 0)) ∧ w' = w := by
  have HD := Lib.hid h
  have h0 : ((N : Int) == 0) = false := by simp; omega
  have h1 : ¬ N = 0 := by omega
  have HN := Lib.hid hN
  clear h hN
  by_cases h8 : N < 8
  · rw [if_pos h8]
    go_enter Try.func54, Try.ntmps54
    go_wp2_with fail
    refine (sectors_made w HD.out).mono ?_
    rintro e w1 ⟨rfl, hw⟩
    obtain rfl := hw.symm
    clear hw
    go_wp2_with fail
    refine (up_up w HD.out).mono ?_
    rintro e w1 ⟨rfl, hw⟩
    obtain rfl := hw.symm
    clear hw
    go_wp2_with fail
    refine (sectors_made w HD.out).mono ?_
    rintro e w1 ⟨rfl, hw⟩
    obtain rfl := hw.symm
    clear hw
    go_wp2
    go_ret
    exact ⟨rfl, rfl⟩
  · rw [if_neg h8]
    go_enter Try.func54, Try.ntmps54
    go_wp2_with fail
    refine (sectors_made w HD.out).mono ?_
    rintro e w1 ⟨rfl, hw⟩
    obtain rfl := hw.symm
    clear hw
    go_wp2_with fail
    refine (up_up w HD.out).mono ?_
    rintro e w1 ⟨rfl, hw⟩
    obtain rfl := hw.symm
    clear hw
    go_wp2_with fail
    refine (sectors_made w HD.out).mono ?_
    rintro e w1 ⟨rfl, hw⟩
    obtain rfl := hw.symm
    clear hw
    go_wp2
    go_ret
    exact ⟨rfl, rfl⟩
end
end Go.Proofs.Ytmhfehhpfkjloaa

/- A disk that is nil, or that nobody made: the program's Open and Write; and a copy of a superblock of any size. Conditions: the heads can be read; their room is at most 2^47 - 4096 bytes. -/
namespace Go.Proofs.Ytmhfehhpfkjloaa
open Go.RowKit
set_option maxRecDepth 100000 in
set_option maxHeartbeats 2000000 in
theorem spOpen_no (D : Option Addr) (w : World) (h : NoDisk D w) : Calls Try.prog 13 #[.pointer D] w fun e w' => e = .returned (.tuple #[.agg spz, .int .i64 1]) ∧ Near [] w w' := by
  have hz := zeroSuper
  have hB := (Below.refl w.heap.size w).alloc (Nat.le_refl _) (.cells spz 26)
  have hx := Blk.new w 26 spz
  have hrd := spReady_no D _ (h.near (Near.below hB))
  have H0 := Lib.hid (And.intro hB (And.intro hx hrd))
  clear hB hx h hrd
  go_enter Try.func13, Try.ntmps13
  go_wp2_with fail
  refine H0.out.2.2.mono ?_
  rintro e w1 ⟨rfl, hw⟩
  obtain rfl := hw.symm
  clear hw
  go_wp2_with (first
    | ((with_reducible show wpList _ _ _ ((⟨none, _, _, _, _, _⟩ : Oper) :: _) _ _); refine wpList_store_blk (o := ⟨none, _, _, _, _, _⟩) (H0.out.2.1) (by rfl) _ _ _ (by rfl) (by rfl) (spz) (by rfl) (sizeSuper) (spc_size _ _ _) (spc_size _ _ _) (spc_one _ _ _ rfl) ?_; intro w2 h2 hu2)
    | fail)
  refine bodyPost_ret (results_row_tmp (by rfl) _ _ _ _ _ _ (by rfl) h2 Try.underlying26 (by rfl) sizeSuper) rfl ?_
  exact ⟨rfl, Near.below (H0.out.1.upd hu2 (Nat.le_refl _))⟩
set_option maxRecDepth 100000 in
set_option maxHeartbeats 2000000 in
theorem spWrite_no (D : Option Addr) (f0 : HdF) (fe : Bool) (hv : Value) (w : World) (h : NoDisk D w) : Calls Try.prog 14 #[.pointer D, .agg (spc f0 fe hv)] w fun e w' => e = .returned (.tuple #[.agg spz, .int .i64 1]) ∧ Near [] w w' := by
  have hz := zeroSuper
  obtain ⟨w0, hw0⟩ : ∃ w0, w0 = (w.alloc (.cells (spc f0 fe hv) 26)).alloc (.cells spz 26) := ⟨_, rfl⟩
  have hy : Blk w0 (w.heap.size + 1) 26 spz := hw0 ▸ Blk.new' _ _ _ (by simp)
  have hb0 : Below w.heap.size w w0 := hw0 ▸ ((Below.refl w.heap.size w).alloc (Nat.le_refl _) _).alloc (by simp) _
  have hrd := spReady_no D _ (h.near (Near.below hb0))
  have H0 := Lib.hid (And.intro hb0 (And.intro hy hrd))
  clear hb0 hy h hrd
  unfold spc
  go_enter Try.func14, Try.ntmps14
  go_wp2_with fail
  change Calls _ _ _ ((w.alloc (.cells (spc f0 fe hv) 26)).alloc (.cells spz 26)) _
  rw [← hw0]
  clear hw0
  refine H0.out.2.2.mono ?_
  rintro e w1 ⟨rfl, hw⟩
  obtain rfl := hw.symm
  clear hw
  go_wp2_with (first
    | ((with_reducible show wpList _ _ _ ((⟨none, _, _, _, _, _⟩ : Oper) :: _) _ _); refine wpList_store_blk (o := ⟨none, _, _, _, _, _⟩) (H0.out.2.1) (by rfl) _ _ _ (by rfl) (by rfl) (spz) (by rfl) (sizeSuper) (spc_size _ _ _) (spc_size _ _ _) (spc_one _ _ _ rfl) ?_; intro w2 h2 hu2)
    | fail)
  refine bodyPost_ret (results_row_tmp (by rfl) _ _ _ _ _ _ (by rfl) h2 Try.underlying26 (by rfl) sizeSuper) rfl ?_
  exact ⟨rfl, Near.below (H0.out.1.upd hu2 (Nat.le_succ _))⟩
set_option maxRecDepth 100000 in
set_option maxHeartbeats 4000000 in
/-- A copy of a superblock, of any size. -/
theorem copySuper_big (f : HdF) (fe : Bool) (A : Option Addr) (n c : Nat) (hs : List (Int × Int)) (w : World) (hn : n = hs.length) (hc : n ≤ c) (hlen : hs.length * 16 ≤ 140737488351232) (hh : Heads w A hs) :
    Calls Try.prog 15 #[.agg (spc f fe (.slice A n c))] w fun e w' => ∃ B d, e = .returned (.agg (spc f fe (.slice B hs.length d))) ∧ Heads w' B hs ∧ hs.length ≤ d ∧ (∀ ad, B = some ad → w.heap.size ≤ ad.block) ∧ Below w.heap.size w w' := by
  subst hn
  have hz := zeroSuper
  have hB := ((Below.refl w.heap.size w).alloc (Nat.le_refl _) (.cells (spc f fe (.slice A hs.length c)) 26)).alloc (by simp) (.cells spz 26)
  have hx : Blk ((w.alloc (.cells (spc f fe (.slice A hs.length c)) 26)).alloc (.cells spz 26)) w.heap.size 26 (spc f fe (.slice A hs.length c)) := (Blk.new w _ _).alloc _
  have hy : Blk ((w.alloc (.cells (spc f fe (.slice A hs.length c)) 26)).alloc (.cells spz 26)) (w.heap.size + 1) 26 spz := Blk.new' _ _ _ (by simp)
  have hh0 := hh.below hB
  generalize hw1 : (w.alloc (.cells (spc f fe (.slice A hs.length c)) 26)).alloc (.cells spz 26) = w1 at hB hx hy hh0
  have d10 := hx.at_ 10 (v := .slice A hs.length c) rfl
  have f10 := hx.frozen 10
  have H0 := Lib.hid (And.intro hB (And.intro hx (And.intro hy (And.intro hh0 (And.intro hlen hc)))))
  clear hB hx hy hh0 hlen hc hh
  have ho2 : OwnsC 102 2 (w1.alloc (.cells #[] 102)) w1.heap.size (.slice (some ⟨w1.heap.size, 0, none⟩) 0 0) 0 [] [] := OwnsC.lit (e := 102) (size := 2) (base := w1.heap.size) w1 #[] 0 (Nat.le_refl _) (by simp) (by simp)
  have hb2 := (Below.refl w1.heap.size w1).alloc (Nat.le_refl _) (.cells #[] 102)
  have hz2 : (w1.alloc (.cells #[] 102)).heap.size = w1.heap.size + 1 := by simp
  have hrd := Heads.reads (H0.out.2.2.2.1.below hb2)
  have d10' := (H0.out.2.1.below hb2 H0.out.2.1.lt).at_ 10 (v := .slice A hs.length c) rfl
  have HZ := Lib.hid (And.intro ho2 (And.intro hb2 (And.intro hz2 hrd)))
  clear ho2 hb2 hz2 hrd
  go_enter Try.func15, Try.ntmps15
  go_wp2_with (first
    | (((with_reducible show wpList _ _ _ ((⟨some 6, _, _, _, _, _⟩ : Oper) :: _) _ _); skip); refine wpList_append_vals (o := ⟨some 6, _, _, _, _, _⟩) (by rfl) _ _ _ (by rfl) w1.heap.size 102 (.agg #[.int .i64 0, .int .i64 0]) 2 16 Try.underlying24 headInfo (by rfl) (by omega) (.slice (some ⟨w1.heap.size, 0, none⟩) 0 0) 0 [] [] (by rfl) HZ.out.1 A hs.length c (hdCells hs) (by rfl) (hdCells_length hs) HZ.out.2.2.2 (hdCells_one hs) (by have := H0.out.2.2.2.2.1; simp only [maxLen]; omega) (by have := H0.out.2.2.2.2.1; omega) (by have := HZ.out.2.2.1; omega) ?_; intro v3 w3 sp3 ho3 hg3 hv3 hn3; rw [Nat.zero_add, List.nil_append] at ho3; have hlo := OwnsC.lt ho3; obtain ⟨B3, d3, rfl, hle3, -, hrd3, -⟩ := OwnsC.reads ho3; have hn1 : Near [] w1 w3 := (Near.below HZ.out.2.1).high (Near.grown (X := [w1.heap.size]) hg3 (fun x hx => by simp [Value.ownBlock] at hx; simp [hx])) (by simp); have H3 := Lib.hid (And.intro (H0.out.2.1.near hn1 (by simp)) (And.intro (H0.out.2.2.1.near hn1 (by simp)) (And.intro hn1 (And.intro hle3 (And.intro hrd3 hlo))))); have e10 := H3.out.1.at_ 10 (v := .slice A hs.length c) rfl; have g10 := H3.out.1.frozen 10; clear ho3 hg3 hv3 hn3 hlo hle3 hrd3 hn1 d10 f10 d10')
    | ((with_reducible show wpList _ _ _ ((⟨some 8, _, _, _, _, _⟩ : Oper) :: _) _ _); refine wpList_load_blk (o := ⟨some 8, _, _, _, _, _⟩) ((show Blk (w3.setCell ⟨w.heap.size, 10, none⟩ (.slice B3 hs.length d3)) w.heap.size 26 (spc f fe (.slice B3 hs.length d3)) from H3.out.1.set_ 10 (.slice B3 hs.length d3))) (by rfl) _ _ (by rfl) (by rfl) _ Try.underlying26 (by rfl) (sizeSuper) (by exact spc_size _ _ _) ?_)
    | ((with_reducible show wpList _ _ _ ((⟨none, _, _, _, _, _⟩ : Oper) :: _) _ _); refine wpList_store_blk (o := ⟨none, _, _, _, _, _⟩) ((H3.out.2.1.off (c := w.heap.size) (i := 10) (by omega) (.slice B3 hs.length d3))) (by rfl) _ _ _ (by rfl) (by rfl) (spc f fe (.slice B3 hs.length d3)) (by rfl) (sizeSuper) (spc_size _ _ _) (spc_size _ _ _) (spc_one _ _ _ rfl) ?_; intro w4 h4 hu4)
    | fail)
  refine bodyPost_ret (results_row1 (by rfl) _ _ _ _ _ _ (by rfl) h4 Try.underlying26 (by rfl) sizeSuper) rfl ?_
  have hl1 : w.heap.size + 2 ≤ w1.heap.size := by have := H0.out.2.2.1.lt; omega
  have hk1 : Near [w.heap.size] w3 (w3.setCell ⟨w.heap.size, 10, none⟩ (.slice B3 hs.length d3)) := Near.upd ((Upd.refl _ _).set 10 _) (by simp)
  have hk2 : Near [w.heap.size + 1] (w3.setCell ⟨w.heap.size, 10, none⟩ (.slice B3 hs.length d3)) w4 := Near.upd hu4 (by simp)
  have hfr : ∀ ad, B3 = some ad → w.heap.size + 2 ≤ ad.block := fun ad e => by have h1 := (H3.out.2.2.2.2.2 ad.block (by rw [e]; rfl)).1; omega
  refine ⟨B3, d3, rfl, ((Heads.of_reads H3.out.2.2.2.2.1).near hk1 (fun ad e => by have := hfr ad e; simp; omega)).near hk2 (fun ad e => by have := hfr ad e; simp; omega), H3.out.2.2.2.1, fun ad e => by have := hfr ad e; omega, ?_⟩
  exact below_near (below_near (below_near H0.out.1 H3.out.2.2.1 (by simp) (by omega)) hk1 (by simp) (by have := H3.out.1.lt; omega)) hk2 (by simp) (by have := H3.out.1.lt; simp [World.setCell]; omega)
end Go.Proofs.Ytmhfehhpfkjloaa

/- SuperblockNone's walk. Conditions: the heads can be read; their room is at most 2^47 - 4096 bytes. -/
namespace Go.Proofs.Ytmhfehhpfkjloaa
open Go.RowKit
def NoRel (w : World) (v : Value) (wr : World) : Prop := ∃ i : Nat, i ≤ 2 ∧ v = .int .i64 (i : Int) ∧ Near [] w wr
theorem sameSuper_no (w : World) : Calls Try.prog 16 #[.agg spz, .agg spz] w fun e w' => e = .returned (.bool true) ∧ Below w.heap.size w w' :=
  (sameSuper_any (fun _ => 0) (fun _ => 0) false false none none 0 0 0 0 [] [] w rfl rfl (by simp) (fun h => absurd h (by simp)) (fun h => absurd h (by simp))).mono fun e w' ⟨h1, h2⟩ =>
    ⟨by rw [h1, Sp.sameB_iff.2 ⟨fun _ _ => rfl, rfl, rfl⟩], h2⟩
set_option maxRecDepth 100000 in
set_option maxHeartbeats 8000000 in
theorem none06_any (f : HdF) (fe : Bool) (A : Option Addr) (n c : Nat) (hs : List (Int × Int)) (w : World) (hn : n = hs.length) (hc : n ≤ c) (hlen : hs.length * 16 ≤ 140737488351232) (hA : Heads w A hs) :
    Calls Try.prog 3 #[.agg (spc f fe (.slice A n c))] w fun e w' => e = .returned (.bool true) ∧ Below w.heap.size w w' := by
  have hz := zeroSuper
  obtain ⟨w0, hw0⟩ : ∃ w0, w0 = w.alloc (.cells (spc f fe (.slice A n c)) 26) := ⟨_, rfl⟩
  have hx : Blk w0 w.heap.size 26 (spc f fe (.slice A n c)) := hw0 ▸ Blk.new w _ _
  have hb0 : Below w.heap.size w w0 := hw0 ▸ (Below.refl w.heap.size w).alloc (Nat.le_refl _) _
  have H0 := Lib.hid (And.intro hx (And.intro hb0 (hA.below hb0)))
  have HN := Lib.hid (And.intro hn (And.intro hc hlen))
  clear hx hb0 hA hn hc hlen
  go_enter Try.func3, Try.ntmps3
  go_wp2_with fail
  have hzd := Blk.new w0 32 noDisk
  have hb1 := (Below.refl w0.heap.size w0).alloc (Nat.le_refl _) (.cells noDisk 32)
  have hs1 : (w0.alloc (.cells noDisk 32)).heap.size = w0.heap.size + 1 := World.size_alloc _ _
  have hr := reads_new (w0.alloc (.cells noDisk 32)) 27 [.pointer none, .pointer (some ⟨w0.heap.size, 0, none⟩)]
  have hb2 := (Below.refl (w0.alloc (.cells noDisk 32)).heap.size (w0.alloc (.cells noDisk 32))).alloc (Nat.le_refl _) (.cells #[.pointer none, .pointer (some ⟨w0.heap.size, 0, none⟩)] 27)
  rw [hs1] at hr
  have HD : ∀ i : Nat, i < 2 → ∃ D, NoDisk D ((w0.alloc (.cells noDisk 32)).alloc (.cells #[.pointer none, .pointer (some ⟨w0.heap.size, 0, none⟩)] 27)) ∧ ((w0.alloc (.cells noDisk 32)).alloc (.cells #[.pointer none, .pointer (some ⟨w0.heap.size, 0, none⟩)] 27)).cell? ⟨w0.heap.size + 1, i, none⟩ = some (.pointer D) := by
    intro i hi
    obtain ⟨b, off, e, hc⟩ := hr (by simp)
    simp only [Option.some.injEq, Addr.mk.injEq, and_true] at e
    obtain ⟨rfl, rfl⟩ := e
    have h := hc i
    rw [Nat.zero_add] at h
    match i, hi with
    | 0, _ => exact ⟨none, .inl rfl, h _ rfl⟩
    | 1, _ => exact ⟨_, .inr ⟨_, rfl, hzd.below hb2 hzd.lt⟩, h _ rfl⟩
  have hB := hb1.trans (hb2.mono hb1.size)
  have hsz : w0.heap.size = w.heap.size + 1 := by rw [hw0]; simp
  simp only [hsz] at HD hB
  change Code.wp _ _ _ _ (((w.alloc (.cells (spc f fe (.slice A n c)) 26)).alloc (.cells noDisk 32)).alloc (.cells #[.pointer none, .pointer (some ⟨w.heap.size + 1, 0, none⟩)] 27))
  rw [← hw0]
  generalize (w0.alloc (.cells noDisk 32)).alloc (.cells #[.pointer none, .pointer (some ⟨w.heap.size + 1, 0, none⟩)] 27) = w2 at HD hB ⊢
  have HH := Lib.hid (And.intro HD (And.intro (H0.out.2.1.trans (hB.mono (Nat.le_succ _))) (And.intro (H0.out.1.below hB (Nat.lt_succ_self _)) (H0.out.2.2.below (by rw [hsz]; exact hB)))))
  clear hzd hb1 hs1 hr hb2 HD hB hsz hw0 H0
  go_loopw [4] (fun v wr => NoRel w2 v wr) (fun v _ => 2 - (intOf v).toNat)
  case atStart => exact ⟨0, by omega, rfl, Near.refl _ _⟩
  case round =>
    obtain ⟨i, hi, rfl, hnr⟩ := hrel
    by_cases hlt : i < 2
    case neg =>
      have HR0 := Lib.hid hnr
      obtain rfl : i = 2 := by omega
      clear hnr hi hlt
      go_wp2_with fail
      refine (awake06_any wr).mono ?_
      rintro e w1 ⟨rfl, hb⟩
      have HR := Lib.hid (HH.out.2.1.trans ((HR0.out.toBelow (B := w.heap.size) (fun x hx => by cases hx) HH.out.2.1.size).trans (hb.mono (Nat.le_trans HH.out.2.1.size HR0.out.size))))
      clear hb
      go_wp2
      go_ret
      exact ⟨rfl, HR.out⟩
    obtain ⟨D, hD, hcD⟩ := HH.out.1 i hlt
    have hlt2 := World.block_lt_of_cell? w2 _ hcD
    have dD := (hnr.cell hlt2 (by simp)).trans hcD
    have h0 := hD.near hnr
    have HN0 := Lib.hid (And.intro hnr (And.intro hD (And.intro hcD hlt2)))
    clear hD hcD hlt2 hnr
    go_wp2_with fail
    refine (spOpen_no D _ h0).mono ?_
    rintro e w3 ⟨rfl, hn3⟩
    have HN3 := Lib.hid (HN0.out.1.trans hn3)
    clear hn3 h0 dD
    go_wp2_with (first
      | ((with_reducible show wpList _ _ _ ((⟨none, _, _, _, _, _⟩ : Oper) :: _) _ _); refine wpList_store_blk (o := ⟨none, _, _, _, _, _⟩) ((Blk.new w3 26 spz)) (by rfl) _ _ _ (by rfl) (by rfl) (spz) (by rfl) (sizeSuper) (spc_size _ _ _) (spc_size _ _ _) (spc_one _ _ _ rfl) ?_; intro w4 h4 hu4)
      | fail)
    have hb4 := ((Below.refl w3.heap.size w3).alloc (Nat.le_refl _) (.cells spz 26)).upd hu4 (Nat.le_refl _)
    have H4 := Lib.hid (And.intro (HN3.out.trans (Near.below hb4)) h4)
    clear h4 hu4 hb4 HN3
    generalize w3.heap.size = g5 at H4 ⊢
    clear w3
    have HP := Lib.hid (show ∀ w', Near [] w4 w' → w'.cell? ⟨w.heap.size + 1 + 1, i, none⟩ = some (.pointer D) from fun w' hw' => ((H4.out.1.trans hw').cell HN0.out.2.2.2 (by simp)).trans HN0.out.2.2.1)
    have HS := Lib.hid (show ∀ w', Near [] w4 w' → Blk w' w.heap.size 26 (spc f fe (.slice A n c)) from fun w' hw' => HH.out.2.2.1.near (H4.out.1.trans hw') (by simp))
    have HA := Lib.hid (show ∀ w', Near [] w4 w' → Heads w' A hs ∧ NoDisk D w' from fun w' hw' => ⟨HH.out.2.2.2.near (H4.out.1.trans hw') (fun _ _ => by simp), HN0.out.2.1.near (H4.out.1.trans hw')⟩)
    have hC0 := (Near.refl [] w4).drew
    refine wp_region_tree (Near [] w4) [] (PlanT.takes [0, 1, 2] (PlanT.takes [3, 4] (.opt 5 (.opt 6 (PlanT.takes [7, 8, 9] (.opt 10 (.opt 11 (PlanT.takes [12] .done) .no) .no)) (.opt 10 (.opt 6 (PlanT.takes [7, 8, 9] (.opt 11 (PlanT.takes [12] .done) .no)) .no) .no)) (.opt 10 (.opt 5 (.opt 6 (PlanT.takes [7, 8, 9] (.opt 11 (PlanT.takes [12] .done) .no)) .no) .no) .no)))) (by kernel_rfl) (by kernel_rfl) (hC0) ?_
    refine wpTree_pure _ _ _ (by rfl) (by rfl) ?_
    dsimp only [List.filterMap, List.getElem?_cons_zero, List.getElem?_cons_succ]
    repeat (go_big_quiet_step (fail))
    refine wpQuiet_nil ?_
    refine wpTree_takeL _ _ _ (by rfl) (by rfl) (hC0) ?_
    dsimp only [List.filterMap, List.getElem?_cons_zero, List.getElem?_cons_succ]
    (refine wpQuiet_load_cell (fun w' hw' => HP.out w' hw') (by rfl) _ _ (by rfl) (by rfl) _ Try.underlying27 (by rfl) ?_; simp only [Act.put, List.setIfInBounds_toArray, List.set_cons_zero, List.set_cons_succ])
    (refine wpQuiet_load_blk (fun w' hw' => HS.out w' hw') (by rfl) _ _ (by rfl) (by rfl) _ Try.underlying26 (by rfl) (sizeSuper) (by rfl) ?_; simp only [Act.put, List.setIfInBounds_toArray, List.set_cons_zero, List.set_cons_succ])
    refine wpQuiet_nil ?_
    refine wpTree_opt _ rfl ?_ (wpTree_opt _ rfl ?_ trivial)
    · go_wp2_with fail
      refine (copySuper_big f fe A n c hs _ HN.out.1 HN.out.2.1 HN.out.2.2 (HA.out _ hC0).1).mono ?_
      rintro e w5 ⟨B, d, rfl, -, -, -, hb⟩
      have hC5 := hC0.trans (Near.below (X := []) hb)
      clear hb
      go_wp2_with fail
      refine TreeQ.in_ hC5 ?_
      refine wpTree_opt _ rfl ?_ (wpTree_opt _ rfl ?_ trivial)
      · go_wp2_with fail
        refine (spWrite_no D f fe _ _ (HA.out _ hC5).2).mono ?_
        rintro e w6 ⟨rfl, hn6⟩
        have hC6 := hC5.trans hn6
        clear hn6
        go_wp2_with fail
        refine TreeQ.in_ hC6 ?_
        refine wpTree_pure _ _ _ (by rfl) (by rfl) ?_
        dsimp only [List.filterMap, List.getElem?_cons_zero, List.getElem?_cons_succ]
        repeat (go_big_quiet_step (fail))
        refine wpQuiet_nil ?_
        refine wpTree_one _ rfl ?_
        have hg6 := hC6.size
        go_wp2_with fail
        have hb7 := Blk.new w6 26 spz
        have hC7 := hC6.trans (Near.below (X := []) ((Below.refl _ _).alloc (Nat.le_refl _) (.cells spz 26)))
        obtain ⟨g7, hg7⟩ : ∃ g, g = w6.heap.size := ⟨_, rfl⟩
        rw [← hg7] at hb7 hg6 ⊢
        generalize w6.alloc (.cells spz 26) = w7 at hb7 hC7 ⊢
        clear hg7
        refine TreeQ.in_ hC7 ?_
        refine wpTree_one _ rfl ?_
        go_wp2_with (first
          | ((with_reducible show wpList _ _ _ ((⟨none, _, _, _, _, _⟩ : Oper) :: _) _ _); refine wpList_store_blk (o := ⟨none, _, _, _, _, _⟩) (hb7) (by rfl) _ _ _ (by rfl) (by rfl) (spz) (by rfl) (sizeSuper) (spc_size _ _ _) (spc_size _ _ _) (spc_one _ _ _ rfl) ?_; intro w8 h8 hu8)
          | fail)
        have hg7 : w4.heap.size ≤ g7 := by exact hg6
        have hC8 := ((hC7.high (Near.upd (X := [g7]) hu8 (by simp)) (by simpa using hg7)))
        refine TreeQ.in_ hC8 ?_
        refine wpTree_pure _ _ _ (by rfl) (by rfl) ?_
        dsimp only [List.filterMap, List.getElem?_cons_zero, List.getElem?_cons_succ]
        repeat (go_big_quiet_step (fail))
        refine wpQuiet_nil ?_
        refine wpTree_done ?_
        have H8 := Lib.hid (And.intro (H4.out.1.trans hC8) (And.intro (H4.out.2.near hC8 (by simp)) h8))
        have HP8 := Lib.hid (show ∀ w', Near [] w8 w' → w'.cell? ⟨w.heap.size + 1 + 1, i, none⟩ = some (.pointer D) from fun w' hw' => HP.out w' (hC8.trans hw'))
        have HS8 := Lib.hid (show ∀ w', Near [] w8 w' → Blk w' w.heap.size 26 (spc f fe (.slice A n c)) from fun w' hw' => HS.out w' (hC8.trans hw'))
        have HA8 := Lib.hid (show ∀ w', Near [] w8 w' → Heads w' A hs ∧ NoDisk D w' from fun w' hw' => HA.out w' (hC8.trans hw'))
        have hD0 := (Near.refl [] w8).drew
        clear hC8 h8 hu8 hg7
        go_wp2_with fail
        refine wp_region_tree (Near [] w8) [] (PlanT.takes [0, 1, 2, 3, 4, 5, 6, 8] (PlanT.takes [7] (.opt 9 (PlanT.takes [10, 11, 12, 14] (PlanT.takes [13] (.opt 15 (PlanT.takes [16, 17, 18, 19, 20, 21] (PlanT.takes [22, 23] (.opt 24 (.opt 25 (PlanT.takes [26, 27] .done) .no) .no))) .no))) .no))) (by kernel_rfl) (by kernel_rfl) (hD0) ?_
        refine wpTree_pure _ _ _ (by rfl) (by rfl) ?_
        dsimp only [List.filterMap, List.getElem?_cons_zero, List.getElem?_cons_succ]
        repeat (go_big_quiet_step (fail))
        refine wpQuiet_nil ?_
        refine wpTree_takeL _ _ _ (by rfl) (by rfl) (hD0) ?_
        dsimp only [List.filterMap, List.getElem?_cons_zero, List.getElem?_cons_succ]
        (refine wpQuiet_want' (by rfl) ?_; refine wpQuiet_load_blk (fun w' hw' => Blk.near H8.out.2.1 hw' (by simp)) (by rfl) _ _ (by rfl) (by rfl) _ Try.underlying26 (by rfl) (sizeSuper) (by rfl) ?_; simp only [Act.put, List.setIfInBounds_toArray, List.set_cons_zero, List.set_cons_succ])
        refine wpQuiet_nil ?_
        refine wpTree_one _ rfl ?_
        go_wp2_with fail
        refine (sameSuper_no _).mono ?_
        rintro e w9 ⟨rfl, hb⟩
        have hD1 := hD0.trans (Near.below (X := []) hb)
        clear hb hD0
        go_wp2_with fail
        refine TreeQ.in_ hD1 ?_
        refine wpTree_pure _ _ _ (by rfl) (by rfl) ?_
        dsimp only [List.filterMap, List.getElem?_cons_zero, List.getElem?_cons_succ]
        repeat (go_big_quiet_step (fail))
        refine wpQuiet_nil ?_
        refine wpTree_takeL _ _ _ (by rfl) (by rfl) (hD1) ?_
        dsimp only [List.filterMap, List.getElem?_cons_zero, List.getElem?_cons_succ]
        (refine wpQuiet_want' (by rfl) ?_; refine wpQuiet_load_blk (fun w' hw' => Blk.near H8.out.2.2 hw' (by simp)) (by rfl) _ _ (by rfl) (by rfl) _ Try.underlying26 (by rfl) (sizeSuper) (by rfl) ?_; simp only [Act.put, List.setIfInBounds_toArray, List.set_cons_zero, List.set_cons_succ])
        refine wpQuiet_nil ?_
        refine wpTree_one _ rfl ?_
        go_wp2_with fail
        refine (sameSuper_no _).mono ?_
        rintro e w10 ⟨rfl, hb⟩
        have hD2 := hD1.trans (Near.below (X := []) hb)
        clear hb hD1
        go_wp2_with fail
        refine TreeQ.in_ hD2 ?_
        refine wpTree_pure _ _ _ (by rfl) (by rfl) ?_
        dsimp only [List.filterMap, List.getElem?_cons_zero, List.getElem?_cons_succ]
        repeat (go_big_quiet_step (fail))
        refine wpQuiet_nil ?_
        refine wpTree_takeL _ _ _ (by rfl) (by rfl) (hD2) ?_
        dsimp only [List.filterMap, List.getElem?_cons_zero, List.getElem?_cons_succ]
        (refine wpQuiet_want' (by rfl) ?_; refine wpQuiet_load_cell (fun w' hw' => HP8.out w' hw') (by rfl) _ _ (by rfl) (by rfl) _ Try.underlying27 (by rfl) ?_; simp only [Act.put, List.setIfInBounds_toArray, List.set_cons_zero, List.set_cons_succ])
        (refine wpQuiet_want' (by rfl) ?_; refine wpQuiet_load_blk (fun w' hw' => HS8.out w' hw') (by rfl) _ _ (by rfl) (by rfl) _ Try.underlying26 (by rfl) (sizeSuper) (by rfl) ?_; simp only [Act.put, List.setIfInBounds_toArray, List.set_cons_zero, List.set_cons_succ])
        refine wpQuiet_nil ?_
        refine wpTree_one _ rfl ?_
        go_wp2_with fail
        refine (copySuper_big f fe A n c hs _ HN.out.1 HN.out.2.1 HN.out.2.2 (HA8.out _ hD2).1).mono ?_
        rintro e w11 ⟨B', d', rfl, -, -, -, hb⟩
        have hD3 := hD2.trans (Near.below (X := []) hb)
        clear hb hD2
        go_wp2_with fail
        refine TreeQ.in_ hD3 ?_
        refine wpTree_one _ rfl ?_
        go_wp2_with fail
        refine (spFormat_no D f fe _ _ (HA8.out _ hD3).2).mono ?_
        rintro e w12 ⟨rfl, hb⟩
        have hD4 := hD3.trans hb
        clear hb hD3
        go_wp2_with fail
        refine TreeQ.in_ hD4 ?_
        refine wpTree_pure _ _ _ (by rfl) (by rfl) ?_
        dsimp only [List.filterMap, List.getElem?_cons_zero, List.getElem?_cons_succ]
        repeat (go_big_quiet_step (fail))
        refine wpQuiet_nil ?_
        refine wpTree_done ?_
        have HF := Lib.hid (show NoRel w2 (.int .i64 ((i + 1 : Nat) : Int)) w12 from ⟨i + 1, by omega, rfl, H8.out.1.trans hD4⟩)
        clear hD4 hi
        go_wp2
        go_roundw
        case rel => exact HF.out
        case measure => simp [intOf]; omega
      · have hg6 := hC5.size
        go_wp2_with fail
        have hb6 := Blk.new w5 26 spz
        have hC6 := hC5.trans (Near.below (X := []) ((Below.refl _ _).alloc (Nat.le_refl _) (.cells spz 26)))
        obtain ⟨g7, hg7⟩ : ∃ g, g = w5.heap.size := ⟨_, rfl⟩
        rw [← hg7] at hb6 hg6 ⊢
        generalize w5.alloc (.cells spz 26) = w6 at hb6 hC6 ⊢
        clear hg7
        refine TreeQ.in_ hC6 ?_
        refine wpTree_one _ rfl ?_
        go_wp2_with fail
        refine (spWrite_no D f fe _ _ (HA.out _ hC6).2).mono ?_
        rintro e w7 ⟨rfl, hn6⟩
        have hC7 := hC6.trans hn6
        have hb7 := hb6.near hn6 (by simp)
        clear hn6 hb6
        go_wp2_with fail
        refine TreeQ.in_ hC7 ?_
        refine wpTree_pure _ _ _ (by rfl) (by rfl) ?_
        dsimp only [List.filterMap, List.getElem?_cons_zero, List.getElem?_cons_succ]
        repeat (go_big_quiet_step (fail))
        refine wpQuiet_nil ?_
        refine wpTree_one _ rfl ?_
        go_wp2_with (first
          | ((with_reducible show wpList _ _ _ ((⟨none, _, _, _, _, _⟩ : Oper) :: _) _ _); refine wpList_store_blk (o := ⟨none, _, _, _, _, _⟩) (hb7) (by rfl) _ _ _ (by rfl) (by rfl) (spz) (by rfl) (sizeSuper) (spc_size _ _ _) (spc_size _ _ _) (spc_one _ _ _ rfl) ?_; intro w8 h8 hu8)
          | fail)
        have hg7 : w4.heap.size ≤ g7 := by exact hg6
        have hC8 := ((hC7.high (Near.upd (X := [g7]) hu8 (by simp)) (by simpa using hg7)))
        refine TreeQ.in_ hC8 ?_
        refine wpTree_pure _ _ _ (by rfl) (by rfl) ?_
        dsimp only [List.filterMap, List.getElem?_cons_zero, List.getElem?_cons_succ]
        repeat (go_big_quiet_step (fail))
        refine wpQuiet_nil ?_
        refine wpTree_done ?_
        have H8 := Lib.hid (And.intro (H4.out.1.trans hC8) (And.intro (H4.out.2.near hC8 (by simp)) h8))
        have HP8 := Lib.hid (show ∀ w', Near [] w8 w' → w'.cell? ⟨w.heap.size + 1 + 1, i, none⟩ = some (.pointer D) from fun w' hw' => HP.out w' (hC8.trans hw'))
        have HS8 := Lib.hid (show ∀ w', Near [] w8 w' → Blk w' w.heap.size 26 (spc f fe (.slice A n c)) from fun w' hw' => HS.out w' (hC8.trans hw'))
        have HA8 := Lib.hid (show ∀ w', Near [] w8 w' → Heads w' A hs ∧ NoDisk D w' from fun w' hw' => HA.out w' (hC8.trans hw'))
        have hD0 := (Near.refl [] w8).drew
        clear hC8 h8 hu8 hg7
        go_wp2_with fail
        refine wp_region_tree (Near [] w8) [] (PlanT.takes [0, 1, 2, 3, 4, 5, 6, 8] (PlanT.takes [7] (.opt 9 (PlanT.takes [10, 11, 12, 14] (PlanT.takes [13] (.opt 15 (PlanT.takes [16, 17, 18, 19, 20, 21] (PlanT.takes [22, 23] (.opt 24 (.opt 25 (PlanT.takes [26, 27] .done) .no) .no))) .no))) .no))) (by kernel_rfl) (by kernel_rfl) (hD0) ?_
        refine wpTree_pure _ _ _ (by rfl) (by rfl) ?_
        dsimp only [List.filterMap, List.getElem?_cons_zero, List.getElem?_cons_succ]
        repeat (go_big_quiet_step (fail))
        refine wpQuiet_nil ?_
        refine wpTree_takeL _ _ _ (by rfl) (by rfl) (hD0) ?_
        dsimp only [List.filterMap, List.getElem?_cons_zero, List.getElem?_cons_succ]
        (refine wpQuiet_want' (by rfl) ?_; refine wpQuiet_load_blk (fun w' hw' => Blk.near H8.out.2.1 hw' (by simp)) (by rfl) _ _ (by rfl) (by rfl) _ Try.underlying26 (by rfl) (sizeSuper) (by rfl) ?_; simp only [Act.put, List.setIfInBounds_toArray, List.set_cons_zero, List.set_cons_succ])
        refine wpQuiet_nil ?_
        refine wpTree_one _ rfl ?_
        go_wp2_with fail
        refine (sameSuper_no _).mono ?_
        rintro e w9 ⟨rfl, hb⟩
        have hD1 := hD0.trans (Near.below (X := []) hb)
        clear hb hD0
        go_wp2_with fail
        refine TreeQ.in_ hD1 ?_
        refine wpTree_pure _ _ _ (by rfl) (by rfl) ?_
        dsimp only [List.filterMap, List.getElem?_cons_zero, List.getElem?_cons_succ]
        repeat (go_big_quiet_step (fail))
        refine wpQuiet_nil ?_
        refine wpTree_takeL _ _ _ (by rfl) (by rfl) (hD1) ?_
        dsimp only [List.filterMap, List.getElem?_cons_zero, List.getElem?_cons_succ]
        (refine wpQuiet_want' (by rfl) ?_; refine wpQuiet_load_blk (fun w' hw' => Blk.near H8.out.2.2 hw' (by simp)) (by rfl) _ _ (by rfl) (by rfl) _ Try.underlying26 (by rfl) (sizeSuper) (by rfl) ?_; simp only [Act.put, List.setIfInBounds_toArray, List.set_cons_zero, List.set_cons_succ])
        refine wpQuiet_nil ?_
        refine wpTree_one _ rfl ?_
        go_wp2_with fail
        refine (sameSuper_no _).mono ?_
        rintro e w10 ⟨rfl, hb⟩
        have hD2 := hD1.trans (Near.below (X := []) hb)
        clear hb hD1
        go_wp2_with fail
        refine TreeQ.in_ hD2 ?_
        refine wpTree_pure _ _ _ (by rfl) (by rfl) ?_
        dsimp only [List.filterMap, List.getElem?_cons_zero, List.getElem?_cons_succ]
        repeat (go_big_quiet_step (fail))
        refine wpQuiet_nil ?_
        refine wpTree_takeL _ _ _ (by rfl) (by rfl) (hD2) ?_
        dsimp only [List.filterMap, List.getElem?_cons_zero, List.getElem?_cons_succ]
        (refine wpQuiet_want' (by rfl) ?_; refine wpQuiet_load_cell (fun w' hw' => HP8.out w' hw') (by rfl) _ _ (by rfl) (by rfl) _ Try.underlying27 (by rfl) ?_; simp only [Act.put, List.setIfInBounds_toArray, List.set_cons_zero, List.set_cons_succ])
        (refine wpQuiet_want' (by rfl) ?_; refine wpQuiet_load_blk (fun w' hw' => HS8.out w' hw') (by rfl) _ _ (by rfl) (by rfl) _ Try.underlying26 (by rfl) (sizeSuper) (by rfl) ?_; simp only [Act.put, List.setIfInBounds_toArray, List.set_cons_zero, List.set_cons_succ])
        refine wpQuiet_nil ?_
        refine wpTree_one _ rfl ?_
        go_wp2_with fail
        refine (copySuper_big f fe A n c hs _ HN.out.1 HN.out.2.1 HN.out.2.2 (HA8.out _ hD2).1).mono ?_
        rintro e w11 ⟨B', d', rfl, -, -, -, hb⟩
        have hD3 := hD2.trans (Near.below (X := []) hb)
        clear hb hD2
        go_wp2_with fail
        refine TreeQ.in_ hD3 ?_
        refine wpTree_one _ rfl ?_
        go_wp2_with fail
        refine (spFormat_no D f fe _ _ (HA8.out _ hD3).2).mono ?_
        rintro e w12 ⟨rfl, hb⟩
        have hD4 := hD3.trans hb
        clear hb hD3
        go_wp2_with fail
        refine TreeQ.in_ hD4 ?_
        refine wpTree_pure _ _ _ (by rfl) (by rfl) ?_
        dsimp only [List.filterMap, List.getElem?_cons_zero, List.getElem?_cons_succ]
        repeat (go_big_quiet_step (fail))
        refine wpQuiet_nil ?_
        refine wpTree_done ?_
        have HF := Lib.hid (show NoRel w2 (.int .i64 ((i + 1 : Nat) : Int)) w12 from ⟨i + 1, by omega, rfl, H8.out.1.trans hD4⟩)
        clear hD4 hi
        go_wp2
        go_roundw
        case rel => exact HF.out
        case measure => simp [intOf]; omega
    · go_wp2_with fail
      have hb5 : Blk (w4.alloc (.cells spz 26)).drew w4.heap.size 26 spz := Blk.new w4 26 spz
      have hC5 : Near [] w4 (w4.alloc (.cells spz 26)).drew := Near.below (X := []) ((Below.refl _ _).alloc (Nat.le_refl _) (.cells spz 26)).drew
      obtain ⟨g7, hg7⟩ : ∃ g, g = w4.heap.size := ⟨_, rfl⟩
      rw [← hg7] at hb5 ⊢
      generalize (w4.alloc (.cells spz 26)).drew = w5 at hb5 hC5 ⊢
      have hg6 : w4.heap.size ≤ g7 := by omega
      clear hg7
      refine TreeQ.in_ hC5 ?_
      refine wpTree_one _ rfl ?_
      go_wp2_with fail
      refine (copySuper_big f fe A n c hs _ HN.out.1 HN.out.2.1 HN.out.2.2 (HA.out _ hC5).1).mono ?_
      rintro e w6 ⟨B, d, rfl, -, -, -, hb⟩
      have hC6 := hC5.trans (Near.below (X := []) hb)
      have hb6 := hb5.below hb hb5.lt
      clear hb hb5
      go_wp2_with fail
      refine TreeQ.in_ hC6 ?_
      refine wpTree_one _ rfl ?_
      go_wp2_with fail
      refine (spWrite_no D f fe _ _ (HA.out _ hC6).2).mono ?_
      rintro e w7 ⟨rfl, hn6⟩
      have hC7 := hC6.trans hn6
      have hb7 := hb6.near hn6 (by simp)
      clear hn6 hb6
      go_wp2_with fail
      refine TreeQ.in_ hC7 ?_
      refine wpTree_pure _ _ _ (by rfl) (by rfl) ?_
      dsimp only [List.filterMap, List.getElem?_cons_zero, List.getElem?_cons_succ]
      repeat (go_big_quiet_step (fail))
      refine wpQuiet_nil ?_
      refine wpTree_one _ rfl ?_
      go_wp2_with (first
        | ((with_reducible show wpList _ _ _ ((⟨none, _, _, _, _, _⟩ : Oper) :: _) _ _); refine wpList_store_blk (o := ⟨none, _, _, _, _, _⟩) (hb7) (by rfl) _ _ _ (by rfl) (by rfl) (spz) (by rfl) (sizeSuper) (spc_size _ _ _) (spc_size _ _ _) (spc_one _ _ _ rfl) ?_; intro w8 h8 hu8)
        | fail)
      have hg7 : w4.heap.size ≤ g7 := by exact hg6
      have hC8 := ((hC7.high (Near.upd (X := [g7]) hu8 (by simp)) (by simpa using hg7)))
      refine TreeQ.in_ hC8 ?_
      refine wpTree_pure _ _ _ (by rfl) (by rfl) ?_
      dsimp only [List.filterMap, List.getElem?_cons_zero, List.getElem?_cons_succ]
      repeat (go_big_quiet_step (fail))
      refine wpQuiet_nil ?_
      refine wpTree_done ?_
      have H8 := Lib.hid (And.intro (H4.out.1.trans hC8) (And.intro (H4.out.2.near hC8 (by simp)) h8))
      have HP8 := Lib.hid (show ∀ w', Near [] w8 w' → w'.cell? ⟨w.heap.size + 1 + 1, i, none⟩ = some (.pointer D) from fun w' hw' => HP.out w' (hC8.trans hw'))
      have HS8 := Lib.hid (show ∀ w', Near [] w8 w' → Blk w' w.heap.size 26 (spc f fe (.slice A n c)) from fun w' hw' => HS.out w' (hC8.trans hw'))
      have HA8 := Lib.hid (show ∀ w', Near [] w8 w' → Heads w' A hs ∧ NoDisk D w' from fun w' hw' => HA.out w' (hC8.trans hw'))
      have hD0 := (Near.refl [] w8).drew
      clear hC8 h8 hu8 hg7
      go_wp2_with fail
      refine wp_region_tree (Near [] w8) [] (PlanT.takes [0, 1, 2, 3, 4, 5, 6, 8] (PlanT.takes [7] (.opt 9 (PlanT.takes [10, 11, 12, 14] (PlanT.takes [13] (.opt 15 (PlanT.takes [16, 17, 18, 19, 20, 21] (PlanT.takes [22, 23] (.opt 24 (.opt 25 (PlanT.takes [26, 27] .done) .no) .no))) .no))) .no))) (by kernel_rfl) (by kernel_rfl) (hD0) ?_
      refine wpTree_pure _ _ _ (by rfl) (by rfl) ?_
      dsimp only [List.filterMap, List.getElem?_cons_zero, List.getElem?_cons_succ]
      repeat (go_big_quiet_step (fail))
      refine wpQuiet_nil ?_
      refine wpTree_takeL _ _ _ (by rfl) (by rfl) (hD0) ?_
      dsimp only [List.filterMap, List.getElem?_cons_zero, List.getElem?_cons_succ]
      (refine wpQuiet_want' (by rfl) ?_; refine wpQuiet_load_blk (fun w' hw' => Blk.near H8.out.2.1 hw' (by simp)) (by rfl) _ _ (by rfl) (by rfl) _ Try.underlying26 (by rfl) (sizeSuper) (by rfl) ?_; simp only [Act.put, List.setIfInBounds_toArray, List.set_cons_zero, List.set_cons_succ])
      refine wpQuiet_nil ?_
      refine wpTree_one _ rfl ?_
      go_wp2_with fail
      refine (sameSuper_no _).mono ?_
      rintro e w9 ⟨rfl, hb⟩
      have hD1 := hD0.trans (Near.below (X := []) hb)
      clear hb hD0
      go_wp2_with fail
      refine TreeQ.in_ hD1 ?_
      refine wpTree_pure _ _ _ (by rfl) (by rfl) ?_
      dsimp only [List.filterMap, List.getElem?_cons_zero, List.getElem?_cons_succ]
      repeat (go_big_quiet_step (fail))
      refine wpQuiet_nil ?_
      refine wpTree_takeL _ _ _ (by rfl) (by rfl) (hD1) ?_
      dsimp only [List.filterMap, List.getElem?_cons_zero, List.getElem?_cons_succ]
      (refine wpQuiet_want' (by rfl) ?_; refine wpQuiet_load_blk (fun w' hw' => Blk.near H8.out.2.2 hw' (by simp)) (by rfl) _ _ (by rfl) (by rfl) _ Try.underlying26 (by rfl) (sizeSuper) (by rfl) ?_; simp only [Act.put, List.setIfInBounds_toArray, List.set_cons_zero, List.set_cons_succ])
      refine wpQuiet_nil ?_
      refine wpTree_one _ rfl ?_
      go_wp2_with fail
      refine (sameSuper_no _).mono ?_
      rintro e w10 ⟨rfl, hb⟩
      have hD2 := hD1.trans (Near.below (X := []) hb)
      clear hb hD1
      go_wp2_with fail
      refine TreeQ.in_ hD2 ?_
      refine wpTree_pure _ _ _ (by rfl) (by rfl) ?_
      dsimp only [List.filterMap, List.getElem?_cons_zero, List.getElem?_cons_succ]
      repeat (go_big_quiet_step (fail))
      refine wpQuiet_nil ?_
      refine wpTree_takeL _ _ _ (by rfl) (by rfl) (hD2) ?_
      dsimp only [List.filterMap, List.getElem?_cons_zero, List.getElem?_cons_succ]
      (refine wpQuiet_want' (by rfl) ?_; refine wpQuiet_load_cell (fun w' hw' => HP8.out w' hw') (by rfl) _ _ (by rfl) (by rfl) _ Try.underlying27 (by rfl) ?_; simp only [Act.put, List.setIfInBounds_toArray, List.set_cons_zero, List.set_cons_succ])
      (refine wpQuiet_want' (by rfl) ?_; refine wpQuiet_load_blk (fun w' hw' => HS8.out w' hw') (by rfl) _ _ (by rfl) (by rfl) _ Try.underlying26 (by rfl) (sizeSuper) (by rfl) ?_; simp only [Act.put, List.setIfInBounds_toArray, List.set_cons_zero, List.set_cons_succ])
      refine wpQuiet_nil ?_
      refine wpTree_one _ rfl ?_
      go_wp2_with fail
      refine (copySuper_big f fe A n c hs _ HN.out.1 HN.out.2.1 HN.out.2.2 (HA8.out _ hD2).1).mono ?_
      rintro e w11 ⟨B', d', rfl, -, -, -, hb⟩
      have hD3 := hD2.trans (Near.below (X := []) hb)
      clear hb hD2
      go_wp2_with fail
      refine TreeQ.in_ hD3 ?_
      refine wpTree_one _ rfl ?_
      go_wp2_with fail
      refine (spFormat_no D f fe _ _ (HA8.out _ hD3).2).mono ?_
      rintro e w12 ⟨rfl, hb⟩
      have hD4 := hD3.trans hb
      clear hb hD3
      go_wp2_with fail
      refine TreeQ.in_ hD4 ?_
      refine wpTree_pure _ _ _ (by rfl) (by rfl) ?_
      dsimp only [List.filterMap, List.getElem?_cons_zero, List.getElem?_cons_succ]
      repeat (go_big_quiet_step (fail))
      refine wpQuiet_nil ?_
      refine wpTree_done ?_
      have HF := Lib.hid (show NoRel w2 (.int .i64 ((i + 1 : Nat) : Int)) w12 from ⟨i + 1, by omega, rfl, H8.out.1.trans hD4⟩)
      clear hD4 hi
      go_wp2
      go_roundw
      case rel => exact HF.out
      case measure => simp [intOf]; omega
end Go.Proofs.Ytmhfehhpfkjloaa

/- SuperblockNone: for every input the law answers true and the argument reads as it did. No condition. -/
namespace Go.Proofs.Ytmhfehhpfkjloaa
open Go.ChangeShapes Go.WideShapes Go.ChangeAt Go.RowKit
theorem none06_args (cs : List Value) (x : spSh.T) (W : World) (h : Sh.Is W spSh x cs) (hlen : ∀ A n c, cs[10]? = some (.slice A n c) → c * 16 ≤ 140737488351232) :
    Calls Try.prog 3 #[.agg cs.toArray] W fun e w' => e = .returned (.bool true) ∧ Below W.heap.size W w' := by
  obtain ⟨f, fe, A, c, hs, rfl, hc, _, hh⟩ := spSh_is h
  have hl := hlen A hs.length c rfl
  exact none06_any f fe A hs.length c hs W rfl hc (by omega) hh
set_option maxRecDepth 100000 in
theorem superblockNone_lifted (os : Os) (started : os.Started) (H : Type) (enc : TypeId × Value → H) :
    ReturnsInHanded {} Try.checked os 3 .any (Rows.superblockNoneSpec.pre6 enc Try.prog Try.f3 Rows.superblockNoneRow.domain false) (Rows.superblockNoneSpec.post enc Try.prog Try.f3 false true false false) := by
  refine returnsInHanded_of_change_sized (C := Try.checked) Try.own started (by kernel_rfl) Try.func3
    (ChangeSpec.witness6 (enc := enc) (C := Try.checked) false ⟨#[], #[.agg #[.int .i64 0, .int .i64 0, .int .i64 0, .int .i64 0, .int .i64 0, .int .i64 0, .int .i64 0, .int .i64 0, .int .i64 0, .bool false, .slice none 0 0]], []⟩ 8 (by kernel_rfl) (by kernel_rfl) (by kernel_rfl) (by kernel_rfl)) ?_
  intro W base args ds gs before hval0 hW hcnd hsz0 _
  have hval : ∀ (j : Nat) t v, Try.f3.params[j]? = some t → args[j]? = some v → Value.okWide Try.prog W .any base t v := hval0
  have hW' := hW
  obtain ⟨p, q, hA0, hV, rfl, hfz, hnd⟩ := hW
  have hA : DataW.TrodAll enc Try.prog W 0 (fun _ => true) true Try.f3.params.toList args.toList ds p := hA0
  rw [Try.params3] at hA hval
  obtain ⟨v0, d0, rfl, rfl, h0⟩ := trodAll_one hA
  obtain ⟨rfl, rfl⟩ := trodVars_none hV
  have h0k := h0
  obtain ⟨x, hx0⟩ := Sh.open_ (P := Try.prog) spSh (by kernel_rfl) h0
  obtain ⟨cs, rfl, hcs⟩ := arg_agg Try.underlying26 rfl (hval 0 26 v0 rfl rfl) hx0
  clear hA0 hval0
  simp only [List.append_nil] at hW'
  have hlt : ∀ x ∈ p, x.block < W.heap.size := fun x hx => by simpa using hW'.lt x hx
  refine (none06_args cs x W hcs fun _ _ _ hq => superRoom h0k hsz0 (by rfl) (by rfl) hq).mono fun e W' ⟨he, hw⟩ => ?_
  subst he
  refine ⟨_, rfl, _, _, _, [], p, [], hW', ?_, ?_, rfl, hw.frame _, fun h => by cases h⟩
  · exact trodAll_mk1 (shut_bool Try.underlying4 true)
  · exact trodAll_mk1 (Below.trod Try.laidOut (by kernel_rfl) (of_decide_eq_true (by kernel_rfl)) h0k hw (fun x hx => hlt x (by simpa using hx)))
theorem superblockNone_holds : Rows.SuperblockNoneSaid :=
  OpenClaim.holds_of_wide 3 Try.f3 rfl rfl rfl rfl rfl rfl rfl ⟨rfl, rfl, rfl, rfl, rfl⟩ rfl rfl rfl rfl rfl (by kernel_rfl) Try.func3 (by kernel_rfl)
    (of_decide_eq_true (by kernel_rfl)) (by unfold Func.isWrapper; rw [if_neg (by decide +kernel)]; exact ⟨rfl, rfl⟩)
    (fun os started H enc _ => superblockNone_lifted os started H enc)
end Go.Proofs.Ytmhfehhpfkjloaa
