/- SuperblockBytes as a call: it answers true and writes nothing that was there. Conditions: the heads and the bytes can be read. -/
import Derived.Test.YtmhfehhpfkjloaaMSuperblockBytes2
import Derived.Deep.Cut
namespace Go.Proofs.Ytmhfehhpfkjloaa
open Go.RowKit
/-- The bytes that are answered. -/
def spB (s : SpT) : List UInt8 := if Sp.ok s = true then Sp.bytes s else []
theorem spB_len (s : SpT) : (spB s).length ≤ 512 := by
  unfold spB
  split
  · rename_i h; rw [Sp.bytes_length s (Sp.ok_spec h).2.1]; exact Nat.le_refl _
  · simp
theorem spBytes_ent (f : HdF) (fe : Bool) (A : Option Addr) (n c : Nat) (hs : List (Int × Int)) (w : World) (hn : n = hs.length) (hlen : hs.length ≤ 1000) (hh : Heads w A hs) :
    Calls Try.prog 20 #[.agg (spc f fe (.slice A n c))] w fun e w' => ∃ Ax, e = .returned (.tuple #[.slice Ax (spB (f, fe, hs)).length (spB (f, fe, hs)).length, .int .i64 (spCode (f, fe, hs))]) ∧
      Ent.Is w' ⟨Ax, (spB (f, fe, hs)).length, spB (f, fe, hs)⟩ ∧ (∀ ad, Ax = some ad → w.heap.size ≤ ad.block) ∧ Below w.heap.size w w' := by
  refine (spBytes_any f fe A n c hs w hn hlen hh).mono ?_
  rintro e w' ⟨⟨hok, g, rfl, hg, hb⟩ | ⟨hok, rfl⟩, hB⟩
  · have h1 : spB (f, fe, hs) = Sp.bytes (f, fe, hs) := if_pos hok
    have h2 : (Sp.bytes (f, fe, hs)).length = 512 := Sp.bytes_length _ (Sp.ok_spec hok).2.1
    rw [h1, h2, show spCode (f, fe, hs) = 0 from if_pos hok]
    refine ⟨_, rfl, ⟨by show 512 ≤ _; rw [h2]; exact Nat.le_refl _, by show _ ≤ 140737488351232; rw [h2]; omega, .inr ⟨g, _, rfl, hb⟩⟩, fun ad e => by cases e; exact hg, hB⟩
  · have h1 : spB (f, fe, hs) = [] := if_neg (by rw [hok]; simp)
    rw [h1, show spCode (f, fe, hs) = 2 from if_neg (by rw [hok]; simp)]
    exact ⟨none, rfl, ⟨Nat.le_refl _, by simp, .inl ⟨rfl, rfl⟩⟩, (fun ad e => by cases e), hB⟩
theorem rspBytes_ent (f : HdF) (fe : Bool) (A : Option Addr) (n c : Nat) (hs : List (Int × Int)) (w : World) (hn : n = hs.length) (hlen : hs.length ≤ 1000) (hh : Heads w A hs) :
    Calls Try.prog 21 #[.agg (spc f fe (.slice A n c))] w fun e w' => ∃ Ay cy, e = .returned (.tuple #[.slice Ay (spB (f, fe, hs)).length cy, .int .i64 (spCode (f, fe, hs))]) ∧
      Bytes w' Ay (spB (f, fe, hs)) ∧ Below w.heap.size w w' := by
  refine (rspBytes_any f fe A n c hs w hn hlen hh).mono ?_
  rintro e w' ⟨⟨hok, v, sp, rfl, ho⟩ | ⟨hok, rfl⟩, hB⟩
  · obtain ⟨Ay, cy, rfl, -, -, hby⟩ := OwnB.open_ ho
    rw [show spB (f, fe, hs) = Sp.bytes (f, fe, hs) from if_pos hok, show spCode (f, fe, hs) = 0 from if_pos hok]
    exact ⟨Ay, cy, rfl, hby, hB⟩
  · rw [show spB (f, fe, hs) = [] from if_neg (by rw [hok]; simp), show spCode (f, fe, hs) = 2 from if_neg (by rw [hok]; simp)]
    exact ⟨none, 0, rfl, Reads.nil _ _, hB⟩
instance {w w' : World} {e : Ent} : KeepsTo w w' (e.Is w) (e.Is w') := ⟨fun hb h => h.below hb h.lt⟩
/-- What is lent, and the copy. -/
structure LySt (w1 : World) (f : HdF) (fe : Bool) (hs : List (Int × Int)) (b : List UInt8) (gi g6 : Nat) (B : Option Addr) (d : Nat) (w : World) : Prop where
  bi : Blk w gi 5 ((b ++ marks b.length).map u8v).toArray
  b6 : Blk w g6 26 (spc f fe (.slice B hs.length d))
  hh : Heads w B hs
  hd : hs.length ≤ d
  hgi : w1.heap.size ≤ gi
  hb : Below w1.heap.size w1 w
theorem LySt.below {w1 w w' : World} {f : HdF} {fe : Bool} {hs : List (Int × Int)} {b : List UInt8} {gi g6 : Nat} {B : Option Addr} {d : Nat} (h : LySt w1 f fe hs b gi g6 B d w) (k : Below w.heap.size w w') : LySt w1 f fe hs b gi g6 B d w' :=
  ⟨h.bi.below k h.bi.lt, h.b6.below k h.b6.lt, h.hh.below k, h.hd, h.hgi, h.hb.trans (k.mono h.hb.size)⟩
instance {w1 w w' : World} {f : HdF} {fe : Bool} {hs : List (Int × Int)} {b : List UInt8} {gi g6 : Nat} {B : Option Addr} {d : Nat} : KeepsTo w w' (LySt w1 f fe hs b gi g6 B d w) (LySt w1 f fe hs b gi g6 B d w') := ⟨fun hb h => h.below hb⟩
def LyA (w1 : World) (f : HdF) (fe : Bool) (hs : List (Int × Int)) (b : List UInt8) (v5 v6 : Value) (w : World) : Prop :=
  ∃ gi g6 B d, v5 = .slice (some ⟨gi, 0, none⟩) b.length (b.length + 3) ∧ v6 = .pointer (some ⟨g6, 0, none⟩) ∧ LySt w1 f fe hs b gi g6 B d w
theorem Heads.near0 {w w' : World} {A : Option Addr} {hs : List (Int × Int)} {X : List Nat} (h : Heads w A hs) (k : Near X w w') (hn : 0 < hs.length → ∀ ad, A = some ad → ad.block ∉ X) : Heads w' A hs := fun hp => h.near k (hn hp) hp
theorem lent_bytes {w : World} {g : Nat} {t : TypeId} {b : List UInt8} (h : Blk w g t ((b ++ marks b.length).map u8v).toArray) : Bytes w (some ⟨g, 0, none⟩) b := by
  have k := h.bytes.take b.length
  rwa [List.take_left] at k
set_option maxRecDepth 100000 in
set_option maxHeartbeats 8000000 in
theorem bytes06_any (f : HdF) (fe : Bool) (A Ab : Option Addr) (n c m cb : Nat) (hs : List (Int × Int)) (b : List UInt8) (w : World) (hn : n = hs.length) (hc : n ≤ c) (hh : Heads w A hs) (hm : m = b.length) (hmc : b.length ≤ cb) (hcb : cb ≤ 9223372036854775807) (hb : Bytes w Ab b) :
    Calls Try.prog 4 #[.agg (spc f fe (.slice A n c)), .slice Ab m cb] w fun e w' => e = .returned (.bool true) ∧ Below w.heap.size w w' := by
  subst hn hm
  have hg := Blk.new w 26 (spc f fe (.slice A hs.length c))
  have hB := (Below.refl w.heap.size w).alloc (Nat.le_refl _) (.cells (spc f fe (.slice A hs.length c)) 26)
  have hh1 := hh.below hB
  have hb1 := hb.below hB
  have hz := zeroSuper
  have c10 := hg.at_ 10 (v := .slice A hs.length c) rfl
  have HH := Lib.hid (And.intro hg (And.intro hB (And.intro hh1 (And.intro hb1 (And.intro hc (And.intro hmc hcb))))))
  clear hg hB hh1 hb1 hc hmc hcb hh hb
  by_cases h100 : 100 < hs.length
  · go_enter Try.func4, Try.ntmps4
    go_wp2
    go_ret
    exact ⟨rfl, HH.out.2.1⟩
  by_cases h2000 : 2000 < b.length
  · go_enter Try.func4, Try.ntmps4
    go_wp2
    go_ret
    exact ⟨rfl, HH.out.2.1⟩
  go_enter Try.func4, Try.ntmps4
  go_upto_region 3 with fail
  generalize w.alloc (.cells (spc f fe (.slice A hs.length c)) 26) = w1 at HH c10 ⊢
  clear c10
  go_cut [5, 6] from 15 (fun v5 v6 wv => LyA w1 f fe hs b v5 v6 wv)
  case first =>
    have hC0 : Below w1.heap.size w1 w1.drew := (Below.refl _ _).drew
    refine wp_region_tree (Below w1.heap.size w1) [] (PlanT.takes [0] (PlanT.takes [2] (.opt 1 (.opt 3 (.opt 4 (PlanT.takes [5] (.opt 6 .done .no)) .no) (.opt 4 (.opt 3 (PlanT.takes [5] (.opt 6 .done .no)) .no) .no)) (.opt 4 (.opt 1 (.opt 3 (PlanT.takes [5] (.opt 6 .done .no)) .no) .no) .no)))) (by kernel_rfl) (by kernel_rfl) (hC0) ?_
    refine wpTree_pure _ _ _ (by rfl) (by rfl) ?_
    dsimp only [List.filterMap, List.getElem?_cons_zero, List.getElem?_cons_succ]
    repeat (go_big_quiet_step (fail))
    refine wpQuiet_nil ?_
    refine wpTree_takeL _ _ _ (by rfl) (by rfl) (hC0) ?_
    dsimp only [List.filterMap, List.getElem?_cons_zero, List.getElem?_cons_succ]
    (refine wpQuiet_load_blk (fun w' hw' => HH.out.1.below hw' HH.out.1.lt) (by rfl) _ _ (by rfl) (by rfl) _ Try.underlying26 (by rfl) (sizeSuper) (by rfl) ?_; simp only [Act.put, List.setIfInBounds_toArray, List.set_cons_zero, List.set_cons_succ])
    refine wpQuiet_nil ?_
    generalize w1.drew = wd at hC0 ⊢
    refine wpTree_opt _ rfl ?_ ?_
    · go_wp2_with fail
      refine (lentBytes_any Ab b.length cb b rfl (by omega) wd (HH.out.2.2.2.1.below hC0)).mono ?_
      rintro e w20 ⟨rfl, hi, hbx⟩
      have hD0 := hC0.trans (hbx.mono hC0.size)
      have hgi : w1.heap.size ≤ wd.heap.size := hC0.size
      clear hbx
      generalize wd.heap.size = gi at hi hgi ⊢
      go_wp2_with fail
      refine TreeQ.in_ hD0 ?_
      refine wpTree_opt _ rfl ?_ ?_
      · go_wp2_with fail
        refine (copySuper_any f fe A _ c hs w20 rfl HH.out.2.2.2.2.1 (by omega) (HH.out.2.2.1.below hD0)).mono ?_
        rintro e w21 ⟨B, d, rfl, hhB, hdB, hBlo, hbx⟩
        clear hBlo
        have hD1 := hD0.trans (hbx.mono hD0.size)
        (replace hi := keep hbx hi)
        clear hbx
        go_wp2_with fail
        refine TreeQ.in_ hD1 ?_
        refine wpTree_one _ rfl ?_
        go_wp2_with fail
        have hal := Blk.new w21 26 spz
        have hbx := (Below.refl w21.heap.size w21).alloc (Nat.le_refl _) (.cells spz 26)
        have hga : w1.heap.size ≤ w21.heap.size := hD1.size
        have HNE : 0 < hs.length → ∀ ad, B = some ad → ad.block ≠ w21.heap.size := fun hp ad e => by
          obtain ⟨b1, o1, e1, k1⟩ := hhB hp
          have h1 := World.block_lt_of_cell? _ _ (k1 0 hp).1
          rw [e1] at e; cases e
          have h1 : b1 < w21.heap.size := h1
          show b1 ≠ _
          omega
        have hD2 := hD1.trans (hbx.mono hD1.size)
        (replace hi := keep hbx hi; replace hhB := keep hbx hhB)
        generalize w21.alloc (.cells spz 26) = w22 at hal hD2 hi hhB ⊢
        clear hbx
        generalize w21.heap.size = ga at hal hga HNE ⊢
        refine TreeQ.in_ hD2 ?_
        refine wpTree_pure _ _ _ (by rfl) (by rfl) ?_
        dsimp only [List.filterMap, List.getElem?_cons_zero, List.getElem?_cons_succ]
        repeat (go_big_quiet_step (fail))
        refine wpQuiet_nil ?_
        refine wpTree_one _ rfl ?_
        go_wp2_with (first
          | ((with_reducible show wpList _ _ _ ((⟨none, _, _, _, _, _⟩ : Oper) :: _) _ _); refine wpList_store_blk (o := ⟨none, _, _, _, _, _⟩) (hal) (by rfl) _ _ _ (by rfl) (by rfl) (spc f fe (.slice B hs.length d)) (by rfl) (sizeSuper) (spc_size _ _ _) (spc_size _ _ _) (spc_one _ _ _ rfl) ?_; intro w9 h9 hu9)
          | fail)
        have hC9 := hD2.upd hu9 hga
        have hk9 : Near [ga] w22 w9 := Near.upd hu9 (List.mem_singleton_self _)
        refine TreeQ.in_ hC9 ?_
        refine wpTree_done ?_
        go_wp2_with fail
        go_meet
        case rel => exact ⟨gi, ga, B, d, rfl, rfl, ⟨hi.near hk9 (by rw [List.mem_singleton]; exact hi.apart hal (by decide)), h9, hhB.near0 hk9 (fun hp ad e hx => HNE hp ad e (List.mem_singleton.1 hx)), hdB, hgi, hC9⟩⟩
      · refine wpTree_one _ rfl ?_
        go_wp2_with fail
        have hal := Blk.new w20 26 spz
        have hbx := (Below.refl w20.heap.size w20).alloc (Nat.le_refl _) (.cells spz 26)
        have hga : w1.heap.size ≤ w20.heap.size := hD0.size
        have hD1 := hD0.trans (hbx.mono hD0.size)
        (replace hi := keep hbx hi)
        generalize w20.alloc (.cells spz 26) = w21 at hal hD1 hi ⊢
        clear hbx
        generalize w20.heap.size = ga at hal hga ⊢
        refine TreeQ.in_ hD1 ?_
        refine wpTree_one _ rfl ?_
        go_wp2_with fail
        refine (copySuper_any f fe A _ c hs w21 rfl HH.out.2.2.2.2.1 (by omega) (HH.out.2.2.1.below hD1)).mono ?_
        rintro e w22 ⟨B, d, rfl, hhB, hdB, hBlo, hbx⟩
        have HNE : 0 < hs.length → ∀ ad, B = some ad → ad.block ≠ ga := fun _ ad e => by have h1 := hBlo ad e; have h2 := hal.lt; omega
        clear hBlo
        have hD2 := hD1.trans (hbx.mono hD1.size)
        (replace hi := keep hbx hi; replace hal := keep hbx hal)
        clear hbx
        go_wp2_with fail
        refine TreeQ.in_ hD2 ?_
        refine wpTree_pure _ _ _ (by rfl) (by rfl) ?_
        dsimp only [List.filterMap, List.getElem?_cons_zero, List.getElem?_cons_succ]
        repeat (go_big_quiet_step (fail))
        refine wpQuiet_nil ?_
        refine wpTree_one _ rfl ?_
        go_wp2_with (first
          | ((with_reducible show wpList _ _ _ ((⟨none, _, _, _, _, _⟩ : Oper) :: _) _ _); refine wpList_store_blk (o := ⟨none, _, _, _, _, _⟩) (hal) (by rfl) _ _ _ (by rfl) (by rfl) (spc f fe (.slice B hs.length d)) (by rfl) (sizeSuper) (spc_size _ _ _) (spc_size _ _ _) (spc_one _ _ _ rfl) ?_; intro w9 h9 hu9)
          | fail)
        have hC9 := hD2.upd hu9 hga
        have hk9 : Near [ga] w22 w9 := Near.upd hu9 (List.mem_singleton_self _)
        refine TreeQ.in_ hC9 ?_
        refine wpTree_done ?_
        go_wp2_with fail
        go_meet
        case rel => exact ⟨gi, ga, B, d, rfl, rfl, ⟨hi.near hk9 (by rw [List.mem_singleton]; exact hi.apart hal (by decide)), h9, hhB.near0 hk9 (fun hp ad e hx => HNE hp ad e (List.mem_singleton.1 hx)), hdB, hgi, hC9⟩⟩
    · refine wpTree_one _ rfl ?_
      go_wp2_with fail
      have hal := Blk.new wd 26 spz
      have hbx := (Below.refl wd.heap.size wd).alloc (Nat.le_refl _) (.cells spz 26)
      have hga : w1.heap.size ≤ wd.heap.size := hC0.size
      have hD0 := hC0.trans (hbx.mono hC0.size)
      generalize wd.alloc (.cells spz 26) = w20 at hal hD0 ⊢
      clear hbx
      generalize wd.heap.size = ga at hal hga ⊢
      refine TreeQ.in_ hD0 ?_
      refine wpTree_one _ rfl ?_
      go_wp2_with fail
      refine (lentBytes_any Ab b.length cb b rfl (by omega) w20 (HH.out.2.2.2.1.below hD0)).mono ?_
      rintro e w21 ⟨rfl, hi, hbx⟩
      have hD1 := hD0.trans (hbx.mono hD0.size)
      (replace hal := keep hbx hal)
      have hgi : w1.heap.size ≤ w20.heap.size := hD0.size
      clear hbx
      generalize w20.heap.size = gi at hi hgi ⊢
      go_wp2_with fail
      refine TreeQ.in_ hD1 ?_
      refine wpTree_one _ rfl ?_
      go_wp2_with fail
      refine (copySuper_any f fe A _ c hs w21 rfl HH.out.2.2.2.2.1 (by omega) (HH.out.2.2.1.below hD1)).mono ?_
      rintro e w22 ⟨B, d, rfl, hhB, hdB, hBlo, hbx⟩
      have HNE : 0 < hs.length → ∀ ad, B = some ad → ad.block ≠ ga := fun _ ad e => by have h1 := hBlo ad e; have h2 := hal.lt; omega
      clear hBlo
      have hD2 := hD1.trans (hbx.mono hD1.size)
      (replace hal := keep hbx hal; replace hi := keep hbx hi)
      clear hbx
      go_wp2_with fail
      refine TreeQ.in_ hD2 ?_
      refine wpTree_pure _ _ _ (by rfl) (by rfl) ?_
      dsimp only [List.filterMap, List.getElem?_cons_zero, List.getElem?_cons_succ]
      repeat (go_big_quiet_step (fail))
      refine wpQuiet_nil ?_
      refine wpTree_one _ rfl ?_
      go_wp2_with (first
        | ((with_reducible show wpList _ _ _ ((⟨none, _, _, _, _, _⟩ : Oper) :: _) _ _); refine wpList_store_blk (o := ⟨none, _, _, _, _, _⟩) (hal) (by rfl) _ _ _ (by rfl) (by rfl) (spc f fe (.slice B hs.length d)) (by rfl) (sizeSuper) (spc_size _ _ _) (spc_size _ _ _) (spc_one _ _ _ rfl) ?_; intro w9 h9 hu9)
        | fail)
      have hC9 := hD2.upd hu9 hga
      have hk9 : Near [ga] w22 w9 := Near.upd hu9 (List.mem_singleton_self _)
      refine TreeQ.in_ hC9 ?_
      refine wpTree_done ?_
      go_wp2_with fail
      go_meet
      case rel => exact ⟨gi, ga, B, d, rfl, rfl, ⟨hi.near hk9 (by rw [List.mem_singleton]; exact hi.apart hal (by decide)), h9, hhB.near0 hk9 (fun hp ad e hx => HNE hp ad e (List.mem_singleton.1 hx)), hdB, hgi, hC9⟩⟩
  case rest =>
    obtain ⟨gi, g6, B, d, rfl, rfl, hS⟩ := hcut
    have hs6 := hS.b6
    have hK : Below w1.heap.size w1 wc := hS.hb
    have h2 : Blk wc w.heap.size 26 (spc f fe (.slice A hs.length c)) := HH.out.1.below hK HH.out.1.lt
    have hA : Heads wc A hs := HH.out.2.2.1.below hK
    have hbb : Bytes wc Ab b := HH.out.2.2.2.1.below hK
    have HW := Lib.hid (And.intro (HH.out.2.1.trans (hK.mono HH.out.2.1.size)) (And.intro HH.out.2.2.2.2.2 (And.intro HH.out.2.1.size (And.intro hS.hgi hS.bi.lt))))
    clear hK HH
    go_wp2_with (first
      | ((with_reducible show wpList _ _ _ ((⟨some 29, _, _, _, _, _⟩ : Oper) :: _) _ _); refine wpList_load_blk (o := ⟨some 29, _, _, _, _, _⟩) (hs6) (by rfl) _ _ (by rfl) (by rfl) _ Try.underlying26 (by rfl) (sizeSuper) (by exact spc_size _ _ _) ?_)
      | fail)
    clear hs6
    refine (spBytes_ent f fe B _ d hs wc rfl (by omega) hS.hh).mono ?_
    rintro e w2 ⟨Ax, rfl, hx, hax, hbx⟩
    have HB := Lib.hid (HW.out.1.trans (hbx.mono HW.out.1.size))
    have HAX := Lib.hid hax
    (replace hS := keep hbx hS; replace h2 := keep hbx h2; replace hA := keep hbx hA; replace hbb := keep hbx hbb)
    clear hbx hax
    go_wp2_with (first
      | ((with_reducible show wpList _ _ _ ((⟨some 34, _, _, _, _, _⟩ : Oper) :: _) _ _); refine wpList_load_blk (o := ⟨some 34, _, _, _, _, _⟩) (h2) (by rfl) _ _ (by rfl) (by rfl) _ Try.underlying26 (by rfl) (sizeSuper) (by exact spc_size _ _ _) ?_)
      | fail)
    refine (rspBytes_ent f fe A _ c hs w2 rfl (by omega) hA).mono ?_
    rintro e w3 ⟨Ay, cy, rfl, hy, hbx⟩
    replace HB := Lib.hid (HB.out.trans (hbx.mono HB.out.size))
    (replace hS := keep hbx hS; replace h2 := keep hbx h2; replace hA := keep hbx hA; replace hbb := keep hbx hbb; replace hx := keep hbx hx)
    clear hbx
    go_wp2_with fail
    refine (spRead_any (some ⟨gi, 0, none⟩) b.length (b.length + 3) b w3 rfl (by omega) (by have := HW.out.2.1.1; omega) (by omega) (lent_bytes hS.bi)).mono ?_
    rintro e w4 ⟨f1, fe1, B1, d1, hs1, rfl, hsm1, hh1, hd1, -, hbx⟩
    replace HB := Lib.hid (HB.out.trans (hbx.mono HB.out.size))
    (replace hS := keep hbx hS; replace h2 := keep hbx h2; replace hA := keep hbx hA; replace hbb := keep hbx hbb; replace hx := keep hbx hx; replace hy := keep hbx hy)
    clear hbx
    go_wp2_with (first
      | ((with_reducible show wpList _ _ _ ((⟨none, _, _, _, _, _⟩ : Oper) :: _) _ _); refine wpList_store_blk (o := ⟨none, _, _, _, _, _⟩) ((Blk.new w4 26 spz)) (by rfl) _ _ _ (by rfl) (by rfl) (spc f1 fe1 (.slice B1 hs1.length d1)) (by rfl) (sizeSuper) (spc_size _ _ _) (spc_size _ _ _) (spc_one _ _ _ rfl) ?_; intro w5 hp hu5; have hbx := ((Below.refl w4.heap.size w4).alloc (Nat.le_refl _) (.cells spz 26)).upd hu5 (Nat.le_refl _); clear hu5)
      | fail)
    replace HB := Lib.hid (HB.out.trans (hbx.mono HB.out.size))
    (replace hS := keep hbx hS; replace h2 := keep hbx h2; replace hA := keep hbx hA; replace hbb := keep hbx hbb; replace hx := keep hbx hx; replace hy := keep hbx hy; replace hh1 := keep hbx hh1)
    clear hbx
    generalize w4.heap.size = g11 at hp ⊢
    refine (rspRead_any Ab b.length cb b w5 rfl HW.out.2.1.1 HW.out.2.1.2 hbb).mono ?_
    rintro e w6 ⟨f2, fe2, B2, d2, hs2, rfl, hsm2, hh2, hd2, -, hbx⟩
    replace HB := Lib.hid (HB.out.trans (hbx.mono HB.out.size))
    (replace hS := keep hbx hS; replace h2 := keep hbx h2; replace hA := keep hbx hA; replace hbb := keep hbx hbb; replace hx := keep hbx hx; replace hy := keep hbx hy; replace hh1 := keep hbx hh1; replace hp := keep hbx hp)
    clear hbx
    go_wp2_with (first
      | ((with_reducible show wpList _ _ _ ((⟨none, _, _, _, _, _⟩ : Oper) :: _) _ _); refine wpList_store_blk (o := ⟨none, _, _, _, _, _⟩) ((Blk.new w6 26 spz)) (by rfl) _ _ _ (by rfl) (by rfl) (spc f2 fe2 (.slice B2 hs2.length d2)) (by rfl) (sizeSuper) (spc_size _ _ _) (spc_size _ _ _) (spc_one _ _ _ rfl) ?_; intro w7 hq hu7; have hbx := ((Below.refl w6.heap.size w6).alloc (Nat.le_refl _) (.cells spz 26)).upd hu7 (Nat.le_refl _); clear hu7)
      | fail)
    replace HB := Lib.hid (HB.out.trans (hbx.mono HB.out.size))
    (replace hS := keep hbx hS; replace h2 := keep hbx h2; replace hA := keep hbx hA; replace hbb := keep hbx hbb; replace hx := keep hbx hx; replace hy := keep hbx hy; replace hh1 := keep hbx hh1; replace hp := keep hbx hp; replace hh2 := keep hbx hh2)
    clear hbx
    generalize w6.heap.size = g13 at hq ⊢
    have hC0 : Below w7.heap.size w7 w7.drew := (Below.refl _ _).drew
    have HM := Lib.hid (And.intro HW.out.2.1 HW.out.2.2)
    clear HW
    go_wp2_with fail
    refine wp_region_tree (Below w7.heap.size w7) [] (PlanT.takes [0, 1] (.opt 2 (PlanT.takes [3, 4, 5, 6, 7, 8, 9] (PlanT.takes [10, 11] (.opt 12 (PlanT.takes [13, 14, 15, 16, 17, 18, 19, 20] (PlanT.takes [21, 23] (.opt 22 (.opt 24 (PlanT.takes [25, 26] .done) .no) .no))) .no))) .no)) (by kernel_rfl) (by kernel_rfl) (hC0) ?_
    refine wpTree_pure _ _ _ (by rfl) (by rfl) ?_
    dsimp only [List.filterMap, List.getElem?_cons_zero, List.getElem?_cons_succ]
    repeat (go_big_quiet_step (fail))
    refine wpQuiet_nil ?_
    refine wpTree_one _ rfl ?_
    go_wp2_with fail
    refine (sameBytes_any Ax Ay _ _ _ cy (spB (f, fe, hs)) (spB (f, fe, hs)) rfl rfl _ (hx.below hC0 hx.lt).bytes (hy.below hC0)).mono ?_
    rintro e w8 ⟨rfl, hw8⟩
    rw [decide_eq_true rfl]
    have hC1 : Below w7.heap.size w7 w8 := by rw [hw8]; exact hC0
    clear hw8 hC0
    go_wp2_with fail
    refine TreeQ.in_ hC1 ?_
    refine wpTree_pure _ _ _ (by rfl) (by rfl) ?_
    dsimp only [List.filterMap, List.getElem?_cons_zero, List.getElem?_cons_succ]
    repeat (go_big_quiet_step (fail))
    refine wpQuiet_nil ?_
    refine wpTree_takeL _ _ _ (by rfl) (by rfl) (hC1) ?_
    dsimp only [List.filterMap, List.getElem?_cons_zero, List.getElem?_cons_succ]
    (refine wpQuiet_want' (by rfl) ?_; refine wpQuiet_load_blk (fun w' hw' => hp.below hw' hp.lt) (by rfl) _ _ (by rfl) (by rfl) _ Try.underlying26 (by rfl) (sizeSuper) (by rfl) ?_; simp only [Act.put, List.setIfInBounds_toArray, List.set_cons_zero, List.set_cons_succ])
    (refine wpQuiet_want' (by rfl) ?_; refine wpQuiet_load_blk (fun w' hw' => hq.below hw' hq.lt) (by rfl) _ _ (by rfl) (by rfl) _ Try.underlying26 (by rfl) (sizeSuper) (by rfl) ?_; simp only [Act.put, List.setIfInBounds_toArray, List.set_cons_zero, List.set_cons_succ])
    refine wpQuiet_nil ?_
    refine wpTree_one _ rfl ?_
    go_wp2_with fail
    refine (sameSuper_any f1 f2 fe1 fe2 B1 B2 _ d1 _ d2 hs1 hs2 w8 rfl rfl ?hl (hh1.below hC1) (hh2.below hC1)).mono ?_
    case hl =>
      have h1 := Sp.read_heads b
      rw [← hsm1.2.2] at h1
      exact Nat.le_trans h1 (by omega)
    rintro e w9 ⟨rfl, hbx⟩
    have hC2 := hC1.trans (hbx.mono hC1.size)
    rw [Sp.sameB_iff.2 (hsm1.trans hsm2.symm)]
    clear hbx hC1
    go_wp2_with fail
    refine TreeQ.in_ hC2 ?_
    refine wpTree_pure _ _ _ (by rfl) (by rfl) ?_
    dsimp only [List.filterMap, List.getElem?_cons_zero, List.getElem?_cons_succ]
    repeat (go_big_quiet_step (fail))
    refine wpQuiet_nil ?_
    refine wpTree_takeL _ _ _ (by rfl) (by rfl) (hC2) ?_
    dsimp only [List.filterMap, List.getElem?_cons_zero, List.getElem?_cons_succ]
    (refine wpQuiet_want' (by rfl) ?_; refine wpQuiet_load_blk (fun w' hw' => hS.b6.below hw' hS.b6.lt) (by rfl) _ _ (by rfl) (by rfl) _ Try.underlying26 (by rfl) (sizeSuper) (by rfl) ?_; simp only [Act.put, List.setIfInBounds_toArray, List.set_cons_zero, List.set_cons_succ])
    (refine wpQuiet_want' (by rfl) ?_; refine wpQuiet_load_blk (fun w' hw' => h2.below hw' h2.lt) (by rfl) _ _ (by rfl) (by rfl) _ Try.underlying26 (by rfl) (sizeSuper) (by rfl) ?_; simp only [Act.put, List.setIfInBounds_toArray, List.set_cons_zero, List.set_cons_succ])
    refine wpQuiet_nil ?_
    refine wpTree_one _ rfl ?_
    go_wp2_with fail
    refine (spCheck_any f fe B _ d hs w9 rfl (by omega) (hS.hh.below hC2)).mono ?_
    rintro e w10 ⟨rfl, hbx⟩
    have hC3 := hC2.trans (hbx.mono hC2.size)
    clear hbx hC2
    go_wp2_with fail
    refine TreeQ.in_ hC3 ?_
    refine wpTree_one _ rfl ?_
    go_wp2_with fail
    refine (rspCheck_any f fe A _ c hs w10 rfl (by omega) (hA.below hC3)).mono ?_
    rintro e w11 ⟨rfl, hbx⟩
    have hC4 := hC3.trans (hbx.mono hC3.size)
    clear hbx hC3
    go_wp2_with fail
    refine TreeQ.in_ hC4 ?_
    refine wpTree_pure _ _ _ (by rfl) (by rfl) ?_
    dsimp only [List.filterMap, List.getElem?_cons_zero, List.getElem?_cons_succ]
    repeat (go_big_quiet_step (fail))
    refine wpQuiet_nil ?_
    refine wpTree_done ?_
    replace HB := Lib.hid (HB.out.trans (hC4.mono HB.out.size))
    (replace hS := keep hC4 hS; replace h2 := keep hC4 h2; replace hA := keep hC4 hA; replace hbb := keep hC4 hbb; replace hx := keep hC4 hx)
    clear hC4 hy hh1 hh2 hp hq hsm1 hsm2 hd1 hd2
    have hs6 := hS.b6
    go_wp2_with (first
      | ((with_reducible show wpList _ _ _ ((⟨some 75, _, _, _, _, _⟩ : Oper) :: _) _ _); refine wpList_load_blk (o := ⟨some 75, _, _, _, _, _⟩) (hs6) (by rfl) _ _ (by rfl) (by rfl) _ Try.underlying26 (by rfl) (sizeSuper) (by exact spc_size _ _ _) ?_)
      | ((with_reducible show wpList _ _ _ ((⟨some 76, _, _, _, _, _⟩ : Oper) :: _) _ _); refine wpList_load_blk (o := ⟨some 76, _, _, _, _, _⟩) (h2) (by rfl) _ _ (by rfl) (by rfl) _ Try.underlying26 (by rfl) (sizeSuper) (by exact spc_size _ _ _) ?_)
      | fail)
    clear hs6
    refine (sameSuper_any f f fe fe B A _ d _ c hs hs w11 rfl rfl (by omega) hS.hh hA).mono ?_
    rintro e w12 ⟨rfl, hbx⟩
    rw [Sp.sameB_iff.2 ⟨fun _ _ => rfl, rfl, rfl⟩]
    replace HB := Lib.hid (HB.out.trans (hbx.mono HB.out.size))
    (replace hS := keep hbx hS; replace hbb := keep hbx hbb; replace hx := keep hbx hx)
    clear hbx h2 hA
    go_wp2_with fail
    refine (keptBytes_any gi cb b.length (b.length + 3) b.length Ab b rfl rfl rfl (by omega) w12 hS.bi hbb).mono ?_
    rintro e w13 ⟨rfl, hbx⟩
    replace HB := Lib.hid (HB.out.trans (hbx.mono HB.out.size))
    (replace hS := keep hbx hS; replace hx := keep hbx hx)
    clear hbx hbb
    have hml : (marks b.length).length = 3 := by simp [marks]
    obtain ⟨lx, hlx⟩ : ∃ l, l = spB (f, fe, hs) := ⟨_, rfl⟩
    rw [← hlx] at hx ⊢
    have hbi := hS.bi
    have HG := Lib.hid (And.intro HM.out.2 HB.out.size)
    clear hlx hS
    have hbz := (Below.refl w13.heap.size w13).alloc (Nat.le_refl _) (.cells #[.slice Ax lx.length lx.length, .slice (some ⟨gi, 0, none⟩) b.length (b.length + 3)] 43)
    have hgz := Blk.new w13 43 #[.slice Ax lx.length lx.length, .slice (some ⟨gi, 0, none⟩) b.length (b.length + 3)]
    have hlx13 := hx.lt
    have hlb13 := hbi.lt
    (replace hx := keep hbz hx; replace hbi := keep hbz hbi)
    have HBZ := Lib.hid (HB.out.trans (hbz.mono HB.out.size))
    clear hbz
    go_wp2_with fail
    refine (apart_any w.heap.size w13.heap.size 2 [⟨Ax, lx.length, lx⟩, ⟨some ⟨gi, 0, none⟩, b.length, b ++ marks b.length⟩] (by simp) _ (by have := HBZ.out.size; omega) ⟨?_, ?_⟩ ?_ ?_ ?_).mono ?_
    · refine hgz.sub ?_
      simp [Ent.val, hml]
    · intro e he
      simp only [List.mem_cons, List.not_mem_nil, or_false] at he
      rcases he with rfl | rfl
      · exact hx
      · exact ⟨by simp, by simp [hml]; omega, .inr ⟨gi, _, rfl, hbi⟩⟩
    · have h2 : ∀ g, Ent.blk ⟨Ax, lx.length, lx⟩ = some g → g ≠ gi := fun g h => by
        unfold Ent.blk at h
        rw [Option.map_eq_some_iff] at h
        obtain ⟨ad, h, rfl⟩ := h
        have h1 := HAX.out ad h
        have h3 := HG.out.1.2.2
        omega
      intro i j hi hj hij g hg hg2
      have hi' : i = 0 ∨ i = 1 := by simp at hi; omega
      have hj' : j = 0 ∨ j = 1 := by simp at hj; omega
      rcases hi' with rfl | rfl <;> rcases hj' with rfl | rfl
      · exact hij rfl
      · have e2 : gi = g := by simpa [Ent.blk] using hg2
        exact h2 g hg e2.symm
      · have e2 : gi = g := by simpa [Ent.blk] using hg
        exact h2 g hg2 e2.symm
      · exact hij rfl
    · intro e he
      simp only [List.mem_cons, List.not_mem_nil, or_false] at he
      rcases he with rfl | rfl
      · intro h; exact Nat.lt_irrefl _ (hlx13 _ h)
      · intro h; have e2 : gi = w13.heap.size := by simpa [Ent.blk] using h
        omega
    · intro e he g hg
      simp only [List.mem_cons, List.not_mem_nil, or_false] at he
      rcases he with rfl | rfl
      · unfold Ent.blk at hg
        rw [Option.map_eq_some_iff] at hg
        obtain ⟨ad, hg, rfl⟩ := hg
        have h1 := HAX.out ad hg
        have h3 := HG.out.1.2.2
        have h4 := HG.out.1
        omega
      · have e2 : gi = g := by simpa [Ent.blk] using hg
        have h4 := HG.out.1
        omega
    rintro e w14 ⟨rfl, hb14⟩
    have HB14 := Lib.hid (HBZ.out.trans hb14)
    clear hx hbi hgz hb14 HBZ
    go_wp2_with fail
    refine (awake06_any w14).mono ?_
    rintro e w15 ⟨rfl, hbx⟩
    have HB15 := Lib.hid (HB14.out.trans (hbx.mono HB14.out.size))
    clear hbx HB14
    go_wp2_with fail
    go_ret
    exact ⟨by simp, HB15.out⟩
end Go.Proofs.Ytmhfehhpfkjloaa

/- SuperblockBytes: for every input the law answers true and every argument reads as it did. No condition. -/
namespace Go.Proofs.Ytmhfehhpfkjloaa
open Go.ChangeShapes Go.WideShapes Go.ChangeAt Go.RowKit
theorem bytes06_args (x : spSh.T) (cs : List Value) (Ab : Option Addr) (cb : Nat) (b : List UInt8) (W : World) (h : Sh.Is W spSh x cs) (hmc : b.length ≤ cb) (hcb : cb ≤ 9223372036854775807) (hb : Bytes W Ab b) :
    Calls Try.prog 4 #[.agg cs.toArray, .slice Ab b.length cb] W fun e w' => e = .returned (.bool true) ∧ Below W.heap.size W w' := by
  obtain ⟨f, fe, A, c, hs, rfl, hc, _, hh⟩ := spSh_is h
  exact bytes06_any f fe A Ab hs.length c b.length cb hs b W rfl hc hh rfl hmc hcb hb
set_option maxRecDepth 100000 in
theorem superblockBytes_lifted (os : Os) (started : os.Started) (H : Type) (enc : TypeId × Value → H) :
    ReturnsInHanded {} Try.checked os 4 .any (Rows.superblockBytesSpec.pre6 enc Try.prog Try.f4 Rows.superblockBytesRow.domain false) (Rows.superblockBytesSpec.post enc Try.prog Try.f4 false true false false) := by
  refine returnsInHanded_of_change (C := Try.checked) Try.own started (by kernel_rfl) Try.func4
    (ChangeSpec.witness6 (enc := enc) (C := Try.checked) false ⟨#[], #[.agg #[.int .i64 0, .int .i64 0, .int .i64 0, .int .i64 0, .int .i64 0, .int .i64 0, .int .i64 0, .int .i64 0, .int .i64 0, .bool false, .slice none 0 0], .slice none 0 0], []⟩ 8 (by kernel_rfl) (by kernel_rfl) (by kernel_rfl) (by kernel_rfl)) ?_
  intro W base args ds gs before hval0 hW hcnd _
  have hval : ∀ (j : Nat) t v, Try.f4.params[j]? = some t → args[j]? = some v → Value.okWide Try.prog W .any base t v := hval0
  have hW' := hW
  obtain ⟨p, q, hA0, hV, rfl, hfz, hnd⟩ := hW
  have hA : DataW.TrodAll enc Try.prog W 0 (fun _ => true) true Try.f4.params.toList args.toList ds p := hA0
  rw [Try.params4] at hA hval
  obtain ⟨v0, v1, d0, d1, p0, p1, rfl, rfl, rfl, h0, h1⟩ := trodAll_two hA
  obtain ⟨rfl, rfl⟩ := trodVars_none hV
  have h0k := h0
  have h1k := h1
  obtain ⟨x, hx0⟩ := Sh.open_ (P := Try.prog) spSh (by kernel_rfl) h0
  obtain ⟨cs, rfl, hcs⟩ := arg_agg Try.underlying26 rfl (hval 0 26 v0 rfl rfl) hx0
  obtain ⟨b, hx1⟩ := Sh.open_ (P := Try.prog) (.slice .byte) (by kernel_rfl) h1
  obtain ⟨Ab, cb, rfl, hmc, hcb, hb⟩ := arg_bytes Try.underlying43 (hval 1 43 v1 rfl rfl) hx1
  clear hA0 hval0
  simp only [List.append_nil] at hW'
  have hlt : ∀ x ∈ p0 ++ p1, x.block < W.heap.size := fun x hx => by simpa using hW'.lt x hx
  refine (bytes06_args x cs Ab cb b W hcs hmc hcb hb).mono fun e W' ⟨he, hw⟩ => ?_
  subst he
  refine ⟨_, rfl, _, _, _, [], p0 ++ p1, [], hW', ?_, ?_, rfl, hw.frame _, fun h => by cases h⟩
  · exact trodAll_mk1 (shut_bool Try.underlying4 true)
  · exact trodAll_mk2 (Below.trod Try.laidOut (by kernel_rfl) (of_decide_eq_true (by kernel_rfl)) h0k hw (fun x hx => hlt x (by simp [hx]))) (Below.trod Try.laidOut (by kernel_rfl) (of_decide_eq_true (by kernel_rfl)) h1k hw (fun x hx => hlt x (by simp [hx])))
theorem superblockBytes_holds : Rows.SuperblockBytesSaid :=
  OpenClaim.holds_of_wide 4 Try.f4 rfl rfl rfl rfl rfl rfl rfl ⟨rfl, rfl, rfl, rfl, rfl⟩ rfl rfl rfl rfl rfl (by kernel_rfl) Try.func4 (by kernel_rfl)
    (of_decide_eq_true (by kernel_rfl)) (by unfold Func.isWrapper; rw [if_neg (by decide +kernel)]; exact ⟨rfl, rfl⟩)
    (fun os started H enc _ => superblockBytes_lifted os started H enc)
end Go.Proofs.Ytmhfehhpfkjloaa
