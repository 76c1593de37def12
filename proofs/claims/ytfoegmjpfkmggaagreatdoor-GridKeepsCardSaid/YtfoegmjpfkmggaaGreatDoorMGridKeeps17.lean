/- Crash, of a disk that was made. Conditions: the disk is whole; what is to stay can be read, apart from the disk's sectors. -/
import Derived.Test.YtfoegmjpfkmggaaGreatDoorMGridKeeps16
namespace Go
open Go.RowKit Go.Instr Go.MapKept
section
variable {P : Program} {w : World} {ops : Array Oper} {rest : List Oper} {o : Oper} {a : Act} {Q : Exit → Act → World → Prop}
theorem run_lookup1_int (t kt et : TypeId) (ht : P.underlying t = some (.map kt et)) (hk : P.underlying kt = some (.int .i64)) (g : Nat) (es : Array MapEntry) (c : Nat) (hg : MapB w g es c) (hes : IntKeys es.toList) (x : Int) (z : Value)
    (hz : (zeroValue et).run P w = .ok z w) : (lookup t (.map (some g)) (.int .i64 x) false).run P w = .ok ((mget es x).getD z) w := by
  have h1 := run_checkKey (P := P) (w := w) (k := .int .i64 x) hk rfl es.isEmpty 9999
  have h2 := run_findKey (w := w) hk (findNow_int x es.toList 0 hes)
  have h0 : (getObj g).run P w = .ok (.map es c) w := MapKept.run_getObj_map hg
  unfold lookup mget
  cases hm : mfind es.toList x 0 with
  | none => rw [hm] at h2; simp [run_underlying ht, h0, h1, h2, hz, Result.andThen]
  | some p => rw [hm] at h2; simp [run_underlying ht, h0, h1, h2, Result.andThen]
theorem wpList_lookup1_int (hgd : o.guard = none) (t kt et : TypeId) (m k : Operand) (ho : o.op = .lookup t m k false) (ht : P.underlying t = some (.map kt et)) (hk : P.underlying kt = some (.int .i64)) (g : Nat) (es : Array MapEntry) (c : Nat)
    (hg : MapB w g es c) (hes : IntKeys es.toList) (x : Int) (z : Value) (hz : (zeroValue et).run P w = .ok z w) (hm : a.eval m = .map (some g)) (hx : a.eval k = .int .i64 x)
    (h : wpList P ops Q rest (a.put o.dst ((mget es x).getD z)) w) : wpList P ops Q (o :: rest) a w :=
  wpList_run _ hgd (by unfold execOp; simp only [ho, hm, hx, run_lookup1_int t kt et ht hk g es c hg hes x z hz, Sem.run_bind, Result.andThen_ok, Sem.run_pure]) h
theorem MapB.offMap {w : World} {g g' : Nat} {es : Array MapEntry} {c : Nat} {t : TypeId} {cs : Array Value} (h : MapB w g es c) (h' : Blk w g' t cs) : g ≠ g' := fun e => (h'.offMap h) e.symm
end
end Go
namespace Go.Proofs.YtfoegmjpfkmggaaGreatDoor
open Go.RowKit
theorem Reads.nearX {A : Option Addr} {xs : List Value} {X : List Nat} {w w' : World} (h : Reads w A xs) (k : Near X w w') (hn : ∀ ad, A = some ad → ad.block ∉ X) : Reads w' A xs := fun hne => by
  obtain ⟨b, off, e, hc⟩ := h hne
  exact ⟨b, off, e, fun j v hv => (k.cell (p := ⟨b, off + j, none⟩) (World.block_lt_of_cell? w _ (hc j v hv)) (hn ⟨b, off, none⟩ e)).trans (hc j v hv)⟩
theorem crashL_cons (old : Nat → Option (List UInt8)) (keeps : List Bool) (tear : Int) (k : Nat) (ks : List Nat) (i stay : Nat) (L : List UInt8) : crashL old keeps tear (k :: ks) i stay L =
    if keeps.getD i false = false then crashL old keeps tear ks (i + 1) stay (Go.wr L (256 * k) ((old k).getD []))
    else if (stay : Int) = tear then crashL old keeps tear ks (i + 1) (stay + 1) (Go.wr L (256 * k + 128) (((old k).getD []).drop 128))
    else crashL old keeps tear ks (i + 1) (stay + 1) L := rfl
section
variable {w w' : World} {p : Pl} {gf : Option Nat} {d : Dsk} {f : Option Fus}
/-- What a round of the crash finds. -/
def CrRel (w : World) (p : Pl) (gf : Option Nat) (d : Dsk) (keeps : List Bool) (tear : Int) (v7 v16 : Value) (wr : World) : Prop :=
  ∃ (i stay : Nat) (L : List UInt8), i ≤ d.loose.length ∧ v7 = .int .i64 (stay : Int) ∧ v16 = .int .i64 (i : Int) ∧ stay ≤ i ∧ L.length = d.N * 256 ∧
    crashL d.old keeps tear (d.loose.drop i) i stay L = crashL d.old keeps tear d.loose 0 0 d.L ∧ DskR wr p gf { d with L := L } ∧ Near [p.gl] w wr
set_option maxRecDepth 100000 in
set_option maxHeartbeats 4000000 in
theorem crash_all (K : Option Addr) (keeps : List Bool) (kc : Nat) (tear : Int) (hK : Reads w K (keeps.map .bool)) (hKX : keeps ≠ [] → ∀ ad, K = some ad → ad.block ∉ [p.gl]) (hkl : keeps.length ≤ 1099511627776) (hd : DskR w p gf d) (hok : d.Ok) :
    Calls Tryz.prog 66 #[.pointer (some ⟨p.gd, 0, none⟩), .slice K keeps.length kc, .int .i64 tear] w fun e w' => e = .returned (.int .i64 0) ∧ DskR w' p none (d.crash keeps tear) ∧ Near [p.gd, p.gl, p.gm] w w' := by
  have hap := hd.apart
  have hn : Calls Tryz.prog 40 #[.pointer (some ⟨p.gd, 0, none⟩)] w fun e w' => e = .returned (.bool false) ∧ w' = w := by obtain ⟨es, c, hdc, -⟩ := hd; exact none_made w hdc
  have hlo := loose_all hd hok
  have hlt := hd.lt
  have hll : d.loose.length ≤ d.N := by have := List.length_filter_le (fun k => (d.old k).isSome) (List.range d.N); rw [List.length_range] at this; exact this
  have hn2 := hok.n2
  have HH := Lib.hid (And.intro hK (And.intro hKX (And.intro hkl (And.intro hd (And.intro hok (And.intro hap (And.intro hlt hll)))))))
  clear hK hKX hkl hd hok hap hlt
  go_enter Tryz.func66, Tryz.ntmps66
  go_wp2_with fail
  refine hn.mono ?_
  rintro e w4 ⟨rfl, hw⟩
  obtain rfl := hw.symm
  clear hw hn
  go_wp2_with fail
  refine hlo.mono ?_
  rintro e w5 ⟨A, cp, rfl, hA, hAf, hb⟩
  have hnr := Near.below (X := [p.gl]) hb
  have hS : CrRel w5 p gf d keeps tear (.int .i64 0) (.int .i64 0) w5 := ⟨0, 0, d.L, Nat.zero_le _, rfl, rfl, Nat.le_refl _, HH.out.2.2.2.2.1.len, rfl, by
    obtain ⟨es, c, hdc, ho⟩ := HH.out.2.2.2.1
    exact ⟨es, c, hdc.below hb, ho⟩, Near.refl _ _⟩
  have HA := Lib.hid (And.intro hA (And.intro (show ∀ ad, A = some ad → ad.block ∉ [p.gl] from fun ad e => by have h1 := hAf ad e; have h2 := HH.out.2.2.2.2.2.2.1; simp; omega) (And.intro hnr (show Reads w5 K (keeps.map .bool) from HH.out.1.below hb))))
  clear hA hAf hb hnr hlo
  go_wp2_with fail
  go_loopw [7, 16] (fun v7 v16 wr => CrRel w5 p gf d keeps tear v7 v16 wr) (fun _ v _ => d.loose.length - (intOf v).toNat)
  case atStart => exact hS
  case round =>
    clear hS
    obtain ⟨i, stay, L, hi, rfl, rfl, hsi, hL, hcr, hdr, hnr⟩ := hrel
    by_cases hlt : i < d.loose.length
    case neg =>
      obtain rfl : i = d.loose.length := by omega
      have hcr2 : L = crashL d.old keeps tear d.loose 0 0 d.L := by rw [← hcr, List.drop_length]; rfl
      have hap := HH.out.2.2.2.2.2.1
      obtain ⟨es, c, hdc, ho⟩ := hdr
      have d1 := hdc.1.at_ 1 (v := .map (some p.gm)) rfl
      have HD := Lib.hid (And.intro hdc (And.intro hcr2 (HA.out.2.2.1.trans hnr)))
      clear hi hsi hcr hlt hL hnr hcr2 ho hdc
      go_wp2_with (first
        | ((with_reducible show wpList _ _ _ ((⟨none, _, _, _, _, _⟩ : Oper) :: _) _ _); refine wpList_clear_map (o := ⟨none, _, _, _, _, _⟩) (by rfl) _ _ _ (by rfl) Tryz.underlying97 p.gm es c HD.out.1.2.2 (by rfl) ?_; intro w7 hm7 hu7; have hb7 := HD.out.1.1.upd hu7 hap.2.1; have hl7 := HD.out.1.2.1.upd hu7 hap.2.2; have e2 := hb7.at_ 2 (v := .bool d.out) rfl; have e3 := hb7.at_ 3 (v := .pointer (gf.map fun g => ⟨g, 0, none⟩)) rfl; have f2 := hb7.frozen 2; have f3 := hb7.frozen 3; have HE := Lib.hid (And.intro hb7 (And.intro hl7 (And.intro hm7 hu7))); clear hb7 hl7 hm7 hu7 d1)
        | fail)
      go_ret
      have hb7 := HE.out.1
      have hq : Blk ((w7.setCell ⟨p.gd, 2, none⟩ (.bool false)).setCell ⟨p.gd, 3, none⟩ (.pointer none)) p.gd 100 (dkc p.gl p.gm d.N false none d.ops) := ((hb7.set_ 2 (.bool false)).set_ 3 (.pointer none)).sub rfl
      have hl : Blk ((w7.setCell ⟨p.gd, 2, none⟩ (.bool false)).setCell ⟨p.gd, 3, none⟩ (.pointer none)) p.gl 102 (L.map u8v).toArray := (HE.out.2.1.off (fun e => hap.1 e.symm) _).off (fun e => hap.1 e.symm) _
      have hm : MapB ((w7.setCell ⟨p.gd, 2, none⟩ (.bool false)).setCell ⟨p.gd, 3, none⟩ (.pointer none)) p.gm #[] c := HE.out.2.2.1.upd (((Upd.refl p.gd w7).set 2 _).set 3 _) (fun e => hap.2.1 e.symm)
      refine ⟨rfl, ⟨#[], c, ⟨hq, ?_, hm⟩, OldIs.nil c⟩, ?_⟩
      · show Blk _ p.gl _ ((crashL d.old keeps tear d.loose 0 0 d.L).map u8v).toArray
        rw [← HD.out.2.1]
        exact hl
      · exact (HD.out.2.2.wider (fun x hx => by simp at hx; simp [hx])).trans ((Near.upd HE.out.2.2.2 (by simp)).trans (Near.upd (((Upd.refl p.gd w7).set 2 _).set 3 _) (by simp)))
    obtain ⟨k, hk⟩ : ∃ k, k = d.loose[i] := ⟨_, rfl⟩
    have hkm : k ∈ d.loose := by rw [hk]; exact List.getElem_mem _
    obtain ⟨hkN, hks⟩ := Dsk.loose_mem.1 hkm
    obtain ⟨ob, hob⟩ := Option.isSome_iff_exists.1 hks
    have hol : ob.length = 256 := (HH.out.2.2.2.2.1.old k ob hob).2
    have hA5 := Reads.nearX HA.out.1 hnr HA.out.2.1
    obtain ⟨ab, aoff, hAe, hac⟩ := hA5 (by intro e; have e2 := congrArg List.length e; rw [List.length_map, List.length_nil] at e2; omega)
    have dA : wr.cell? ⟨ab, aoff + i, none⟩ = some (.int .i64 (k : Int)) := hac i _ (by rw [List.getElem?_map, List.getElem?_eq_getElem hlt, ← hk]; rfl)
    have hK5 := fun (h : keeps ≠ []) => Reads.nearX HA.out.2.2.2 hnr (HH.out.2.1 h)
    rw [List.drop_eq_getElem_cons hlt, ← hk] at hcr
    have hap := HH.out.2.2.2.2.2.1
    obtain ⟨es, c, hdc, ho⟩ := hdr
    have hgv : (mget es (k : Int)).getD (.agg zeroSec) = .agg (ob.map u8v).toArray := by rw [ho.get]; show ((d.old k).map _).getD _ = _; rw [hob]; rfl
    have d1 := hdc.1.at_ 1 (v := .map (some p.gm)) rfl
    have aS := allocSec
    have hX0 : ∀ g, g ∉ ([] : List Nat) := fun g h => by cases h
    have hz := (Blk.new wr 102 zeroSec).sub zeroSec_list
    have hbz := (Below.refl wr.heap.size wr).alloc (Nat.le_refl _) (.cells zeroSec 102)
    have hi1 : wrap64 ((i : Int) + 1) = ((i + 1 : Nat) : Int) := by unfold wrap64; omega
    have hs1 : wrap64 ((stay : Int) + 1) = ((stay + 1 : Nat) : Int) := by unfold wrap64; omega
    have hkA : A = some ⟨ab, aoff, none⟩ := hAe
    have HK := Lib.hid (And.intro ho (And.intro hdc (And.intro hgv (And.intro hcr (And.intro hnr (And.intro hL (And.intro hob hol)))))))
    have HL := Lib.hid (And.intro hlt (And.intro hkN hsi))
    have hlsz := hdc.2.1.lt
    subst hkA
    obtain ⟨q, hq⟩ : ∃ q, q = keeps.getD i false := ⟨_, rfl⟩
    have hKc : keeps.length ≤ i ∨ (i < keeps.length ∧ ∃ kb koff, K = some ⟨kb, koff, none⟩ ∧ wr.cell? ⟨kb, koff + i, none⟩ = some (.bool q)) := by
      rcases Nat.lt_or_ge i keeps.length with h1 | h1
      · obtain ⟨kb, koff, e1, e2⟩ := hK5 (by rintro rfl; exact absurd h1 (Nat.not_lt_zero _)) (by intro e; have e2 := congrArg List.length e; rw [List.length_map, List.length_nil] at e2; omega)
        refine .inr ⟨h1, kb, koff, e1, e2 i _ ?_⟩
        rw [List.getElem?_map, List.getElem?_eq_getElem h1, hq, List.getD_eq_getElem?_getD, List.getElem?_eq_getElem h1]; rfl
      · exact .inl h1
    have HQ := Lib.hid hq
    clear hL ho hdc hgv hcr hnr hob hol hAe hac hkm hks hA5 hK5 hq hk hsi hi
    rcases hKc with hge | ⟨hkl, kb, koff, hKe, dK⟩
    · have hgi : decide (keeps.length ≤ i) = true := by simp; omega
      have hq0 : q = false := by rw [HQ.out, List.getD_eq_getElem?_getD, List.getElem?_eq_none hge]; rfl
      subst hq0
      clear hge
      go_wp2_with (first
        | ((with_reducible show wpList _ _ _ ((⟨some 26, _, _, _, _, _⟩ : Oper) :: _) _ _); refine wpList_lookup1_int (o := ⟨some 26, _, _, _, _, _⟩) (by rfl) _ _ _ _ _ (by rfl) Tryz.underlying97 Tryz.underlying3 p.gm es c HK.out.2.1.2.2 HK.out.1.keys (k : Int) (.agg zeroSec) (allocSec _) (by rfl) (by rfl) ?_; rw [HK.out.2.2.1])
        | ((with_reducible show wpList _ _ _ ((⟨none, _, _, _, _, _⟩ : Oper) :: _) _ _); (refine wpList_store_blk (o := ⟨none, _, _, _, _, _⟩) (hz) (by rfl) _ _ _ (by rfl) (by rfl) ((ob.map u8v).toArray) (by rfl) (sizeSec) (by simp) (by rw [List.size_toArray, List.length_map]; exact HK.out.2.2.2.2.2.2.2) (sec_one _) ?_); intro w6 h6 hu6; have hn6 : Near [] wr w6 := (Near.below hbz).new hu6 (Nat.le_refl _); have HN6 := Lib.hid (And.intro hn6 (And.intro h6 (show DiskB w6 p.gd p.gl p.gm d.N L es c d.out gf d.ops from HK.out.2.1.near hn6 ⟨hX0 _, hX0 _, hX0 _⟩))); clear hn6 h6 hu6 hz hbz d1 dA aS)
        | fail)
      have hC6 := (Near.refl [p.gl] w6).drew
      have hX6 : p.gd ∉ [p.gl] ∧ p.gm ∉ [p.gl] ∧ wr.heap.size ∉ [p.gl] := by simp; exact ⟨hap.1, fun e => hap.2.2 e.symm, by omega⟩
      refine wp_region_tree (Near [p.gl] w6) [] (PlanT.takes [0, 1, 2, 4] (PlanT.takes [3, 5] (PlanT.takes [6] (.opt 7 .done .no)))) (by kernel_rfl) (by kernel_rfl) (hC6) ?_
      refine wpTree_pure _ _ _ (by rfl) (by rfl) ?_
      dsimp only [List.filterMap, List.getElem?_cons_zero, List.getElem?_cons_succ]
      repeat (go_big_quiet_step (fail))
      refine wpQuiet_nil ?_
      refine wpTree_takeL _ _ _ (by rfl) (by rfl) (hC6) ?_
      dsimp only [List.filterMap, List.getElem?_cons_zero, List.getElem?_cons_succ]
      (refine wpQuiet_load_cell (fun w' hw' => (Blk.near HN6.out.2.2.1 hw' hX6.1).at_ 0 (v := .slice (some ⟨p.gl, 0, none⟩) d.N d.N) rfl) (by rfl) _ _ (by rfl) (by rfl) _ Tryz.underlying96 (by rfl) ?_; simp only [Act.put, List.setIfInBounds_toArray, List.set_cons_zero, List.set_cons_succ])
      (refine wpQuiet_load_blk (fun w' hw' => Blk.near HN6.out.2.1 hw' hX6.2.2) (by rfl) _ _ (by rfl) (by rfl) _ Tryz.underlying102 (by rfl) (sizeSec) (by rw [List.size_toArray, List.length_map]; exact HK.out.2.2.2.2.2.2.2) ?_; simp only [Act.put, List.setIfInBounds_toArray, List.set_cons_zero, List.set_cons_succ])
      refine wpQuiet_nil ?_
      refine wpTree_pure _ _ _ (by rfl) (by rfl) ?_
      dsimp only [List.filterMap, List.getElem?_cons_zero, List.getElem?_cons_succ]
      repeat (go_big_quiet_step (fail))
      refine wpQuiet_nil ?_
      refine wpTree_one _ rfl ?_
      refine wpList_store_in HN6.out.2.2.2.1.drew (by rfl) _ _ _ (by rfl) (k * 256) (by rfl) (ob.map u8v).toArray (by rfl) sizeSec (by rw [List.size_toArray, List.length_map]; exact HK.out.2.2.2.2.2.2.2) (by rw [List.size_toArray, List.length_map, HK.out.2.2.2.2.2.1]; have := HL.out; omega) (sec_one _) ?_
      intro w8 h8 hu8
      have hC8 : Near [p.gl] w6 w8 := hC6.trans (Near.upd hu8 (List.mem_singleton.2 rfl))
      rw [List.toList_toArray, setAll_wr _ _ _ (by rw [HK.out.2.2.2.2.2.1, HK.out.2.2.2.2.2.2.2]; have := HL.out; omega), Nat.mul_comm k 256] at h8
      have hd8 : DskR w8 p gf { d with L := Go.wr L (256 * k) ob } := ⟨es, c, ⟨HN6.out.2.2.1.near hC8 hX6.1, h8, HN6.out.2.2.2.2.near hC8 hX6.2.1⟩, HK.out.1⟩
      have HF := Lib.hid (show CrRel w5 p gf d keeps tear (.int .i64 (stay : Int)) (.int .i64 ((i + 1 : Nat) : Int)) w8 from
        ⟨i + 1, stay, (Go.wr L (256 * k) ob), by have := HL.out; omega, rfl, rfl, by have := HL.out; omega, by rw [wr_length (by rw [HK.out.2.2.2.2.2.1, HK.out.2.2.2.2.2.2.2]; have := HL.out; omega)]; exact HK.out.2.2.2.2.2.1, by
          have h := HK.out.2.2.2.1
          rw [crashL_cons, ← HQ.out] at h
          rw [if_pos rfl, HK.out.2.2.2.2.2.2.1] at h; exact h, hd8, HK.out.2.2.2.2.1.trans ((HN6.out.1.wider (fun x hx => by cases hx)).trans hC8)⟩)
      go_wp2_with fail
      refine TreeQ.in_ hC8 ?_
      refine wpTree_done ?_
      clear h8 hu8 hC8 hd8 hC6 hX6
      go_wp2
      go_roundw
      case rel => exact HF.out
      case measure => have := HL.out; simp [intOf]; omega
    · have hgi : decide (keeps.length ≤ i) = false := by simp; omega
      have hkl2 := hkl
      subst hKe
      cases q
      · go_wp2_with (first
          | ((with_reducible show wpList _ _ _ ((⟨some 26, _, _, _, _, _⟩ : Oper) :: _) _ _); refine wpList_lookup1_int (o := ⟨some 26, _, _, _, _, _⟩) (by rfl) _ _ _ _ _ (by rfl) Tryz.underlying97 Tryz.underlying3 p.gm es c HK.out.2.1.2.2 HK.out.1.keys (k : Int) (.agg zeroSec) (allocSec _) (by rfl) (by rfl) ?_; rw [HK.out.2.2.1])
          | ((with_reducible show wpList _ _ _ ((⟨none, _, _, _, _, _⟩ : Oper) :: _) _ _); (refine wpList_store_blk (o := ⟨none, _, _, _, _, _⟩) (hz) (by rfl) _ _ _ (by rfl) (by rfl) ((ob.map u8v).toArray) (by rfl) (sizeSec) (by simp) (by rw [List.size_toArray, List.length_map]; exact HK.out.2.2.2.2.2.2.2) (sec_one _) ?_); intro w6 h6 hu6; have hn6 : Near [] wr w6 := (Near.below hbz).new hu6 (Nat.le_refl _); have dK6 : w6.cell? ⟨kb, koff + i, none⟩ = some (.bool false) := (hn6.cell (World.block_lt_of_cell? wr _ dK) (fun x => by cases x)).trans dK; have HN6 := Lib.hid (And.intro hn6 (And.intro h6 (show DiskB w6 p.gd p.gl p.gm d.N L es c d.out gf d.ops from HK.out.2.1.near hn6 ⟨hX0 _, hX0 _, hX0 _⟩))); clear hn6 h6 hu6 hz hbz d1 dA dK aS)
          | fail)
        clear dK6
        have hC6 := (Near.refl [p.gl] w6).drew
        have hX6 : p.gd ∉ [p.gl] ∧ p.gm ∉ [p.gl] ∧ wr.heap.size ∉ [p.gl] := by simp; exact ⟨hap.1, fun e => hap.2.2 e.symm, by omega⟩
        refine wp_region_tree (Near [p.gl] w6) [] (PlanT.takes [0, 1, 2, 4] (PlanT.takes [3, 5] (PlanT.takes [6] (.opt 7 .done .no)))) (by kernel_rfl) (by kernel_rfl) (hC6) ?_
        refine wpTree_pure _ _ _ (by rfl) (by rfl) ?_
        dsimp only [List.filterMap, List.getElem?_cons_zero, List.getElem?_cons_succ]
        repeat (go_big_quiet_step (fail))
        refine wpQuiet_nil ?_
        refine wpTree_takeL _ _ _ (by rfl) (by rfl) (hC6) ?_
        dsimp only [List.filterMap, List.getElem?_cons_zero, List.getElem?_cons_succ]
        (refine wpQuiet_load_cell (fun w' hw' => (Blk.near HN6.out.2.2.1 hw' hX6.1).at_ 0 (v := .slice (some ⟨p.gl, 0, none⟩) d.N d.N) rfl) (by rfl) _ _ (by rfl) (by rfl) _ Tryz.underlying96 (by rfl) ?_; simp only [Act.put, List.setIfInBounds_toArray, List.set_cons_zero, List.set_cons_succ])
        (refine wpQuiet_load_blk (fun w' hw' => Blk.near HN6.out.2.1 hw' hX6.2.2) (by rfl) _ _ (by rfl) (by rfl) _ Tryz.underlying102 (by rfl) (sizeSec) (by rw [List.size_toArray, List.length_map]; exact HK.out.2.2.2.2.2.2.2) ?_; simp only [Act.put, List.setIfInBounds_toArray, List.set_cons_zero, List.set_cons_succ])
        refine wpQuiet_nil ?_
        refine wpTree_pure _ _ _ (by rfl) (by rfl) ?_
        dsimp only [List.filterMap, List.getElem?_cons_zero, List.getElem?_cons_succ]
        repeat (go_big_quiet_step (fail))
        refine wpQuiet_nil ?_
        refine wpTree_one _ rfl ?_
        refine wpList_store_in HN6.out.2.2.2.1.drew (by rfl) _ _ _ (by rfl) (k * 256) (by rfl) (ob.map u8v).toArray (by rfl) sizeSec (by rw [List.size_toArray, List.length_map]; exact HK.out.2.2.2.2.2.2.2) (by rw [List.size_toArray, List.length_map, HK.out.2.2.2.2.2.1]; have := HL.out; omega) (sec_one _) ?_
        intro w8 h8 hu8
        have hC8 : Near [p.gl] w6 w8 := hC6.trans (Near.upd hu8 (List.mem_singleton.2 rfl))
        rw [List.toList_toArray, setAll_wr _ _ _ (by rw [HK.out.2.2.2.2.2.1, HK.out.2.2.2.2.2.2.2]; have := HL.out; omega), Nat.mul_comm k 256] at h8
        have hd8 : DskR w8 p gf { d with L := Go.wr L (256 * k) ob } := ⟨es, c, ⟨HN6.out.2.2.1.near hC8 hX6.1, h8, HN6.out.2.2.2.2.near hC8 hX6.2.1⟩, HK.out.1⟩
        have HF := Lib.hid (show CrRel w5 p gf d keeps tear (.int .i64 (stay : Int)) (.int .i64 ((i + 1 : Nat) : Int)) w8 from
          ⟨i + 1, stay, (Go.wr L (256 * k) ob), by have := HL.out; omega, rfl, rfl, by have := HL.out; omega, by rw [wr_length (by rw [HK.out.2.2.2.2.2.1, HK.out.2.2.2.2.2.2.2]; have := HL.out; omega)]; exact HK.out.2.2.2.2.2.1, by
            have h := HK.out.2.2.2.1
            rw [crashL_cons, ← HQ.out] at h
            rw [if_pos rfl, HK.out.2.2.2.2.2.2.1] at h; exact h, hd8, HK.out.2.2.2.2.1.trans ((HN6.out.1.wider (fun x hx => by cases hx)).trans hC8)⟩)
        go_wp2_with fail
        refine TreeQ.in_ hC8 ?_
        refine wpTree_done ?_
        clear h8 hu8 hC8 hd8 hC6 hX6
        go_wp2
        go_roundw
        case rel => exact HF.out
        case measure => have := HL.out; simp [intOf]; omega
      · by_cases ht : (stay : Int) = tear
        all_goals
          have HT := Lib.hid ht
          first
            | have hte : ((stay : Int) == tear) = true := by simp [ht]
            | have hte : ((stay : Int) == tear) = false := by simp [ht]
          clear ht
        · go_wp2_with (first
            | ((with_reducible show wpList _ _ _ ((⟨some 26, _, _, _, _, _⟩ : Oper) :: _) _ _); refine wpList_lookup1_int (o := ⟨some 26, _, _, _, _, _⟩) (by rfl) _ _ _ _ _ (by rfl) Tryz.underlying97 Tryz.underlying3 p.gm es c HK.out.2.1.2.2 HK.out.1.keys (k : Int) (.agg zeroSec) (allocSec _) (by rfl) (by rfl) ?_; rw [HK.out.2.2.1])
            | ((with_reducible show wpList _ _ _ ((⟨none, _, _, _, _, _⟩ : Oper) :: _) _ _); (refine wpList_store_blk (o := ⟨none, _, _, _, _, _⟩) (hz) (by rfl) _ _ _ (by rfl) (by rfl) ((ob.map u8v).toArray) (by rfl) (sizeSec) (by simp) (by rw [List.size_toArray, List.length_map]; exact HK.out.2.2.2.2.2.2.2) (sec_one _) ?_); intro w6 h6 hu6; have hn6 : Near [] wr w6 := (Near.below hbz).new hu6 (Nat.le_refl _); have dK6 : w6.cell? ⟨kb, koff + i, none⟩ = some (.bool true) := (hn6.cell (World.block_lt_of_cell? wr _ dK) (fun x => by cases x)).trans dK; have HN6 := Lib.hid (And.intro hn6 (And.intro h6 (show DiskB w6 p.gd p.gl p.gm d.N L es c d.out gf d.ops from HK.out.2.1.near hn6 ⟨hX0 _, hX0 _, hX0 _⟩))); clear hn6 h6 hu6 hz hbz d1 dA dK aS)
            | fail)
          clear dK6
          have hC6 := (Near.refl [p.gl] w6).drew
          have hX6 : p.gd ∉ [p.gl] ∧ p.gm ∉ [p.gl] ∧ wr.heap.size ∉ [p.gl] := by simp; exact ⟨hap.1, fun e => hap.2.2 e.symm, by omega⟩
          have hby : Bytes w6.drew (some ⟨wr.heap.size, 128, none⟩) (ob.drop 128) := by
            have h1 := HN6.out.2.1.drew.bytes
            have h2 := h1.drop (k := 128) (cap := 256) (.inl (by omega))
            simpa [Addr.add_lit] using h2
          refine wp_region_tree (Near [p.gl] w6) [] (PlanT.takes [0, 1, 2, 4, 7] (PlanT.takes [3] (PlanT.takes [5, 6] (.opt 8 .done .no)))) (by kernel_rfl) (by kernel_rfl) (hC6) ?_
          refine wpTree_pure _ _ _ (by rfl) (by rfl) ?_
          dsimp only [List.filterMap, List.getElem?_cons_zero, List.getElem?_cons_succ]
          repeat (go_big_quiet_step (fail))
          refine wpQuiet_nil ?_
          refine wpTree_takeL _ _ _ (by rfl) (by rfl) (hC6) ?_
          dsimp only [List.filterMap, List.getElem?_cons_zero, List.getElem?_cons_succ]
          (refine wpQuiet_load_cell (fun w' hw' => (Blk.near HN6.out.2.2.1 hw' hX6.1).at_ 0 (v := .slice (some ⟨p.gl, 0, none⟩) d.N d.N) rfl) (by rfl) _ _ (by rfl) (by rfl) _ Tryz.underlying96 (by rfl) ?_; simp only [Act.put, List.setIfInBounds_toArray, List.set_cons_zero, List.set_cons_succ])
          refine wpQuiet_nil ?_
          refine wpTree_pure _ _ _ (by rfl) (by rfl) ?_
          dsimp only [List.filterMap, List.getElem?_cons_zero, List.getElem?_cons_succ]
          repeat (go_big_quiet_step (fail))
          refine wpQuiet_nil ?_
          refine wpTree_one _ rfl ?_
          refine wpList_copy_at (by rfl) _ _ _ _ (by rfl) _ Tryz.underlying39 size1 p.gl (k * 256 + 128) 128 128 (some ⟨wr.heap.size, 128, none⟩) 128 128 (by rfl) (by rfl) L (ob.drop 128) 102 HN6.out.2.2.2.1.drew (by rw [List.length_drop, HK.out.2.2.2.2.2.2.2]) hby (by rw [List.length_drop, HK.out.2.2.2.2.2.2.2, HK.out.2.2.2.2.2.1]; have := HL.out; omega) (by rw [List.length_drop, HK.out.2.2.2.2.2.2.2]; omega) ?_
          intro w8 h8 hu8
          have hC8 : Near [p.gl] w6 w8 := hC6.trans (Near.upd hu8 (List.mem_singleton.2 rfl))
          rw [Nat.mul_comm k 256] at h8
          have hd8 : DskR w8 p gf { d with L := Go.wr L (256 * k + 128) (ob.drop 128) } := ⟨es, c, ⟨HN6.out.2.2.1.near hC8 hX6.1, h8, HN6.out.2.2.2.2.near hC8 hX6.2.1⟩, HK.out.1⟩
          have HF := Lib.hid (show CrRel w5 p gf d keeps tear (.int .i64 ((stay + 1 : Nat) : Int)) (.int .i64 ((i + 1 : Nat) : Int)) w8 from
            ⟨i + 1, (stay + 1 : Nat), (Go.wr L (256 * k + 128) (ob.drop 128)), by have := HL.out; omega, rfl, rfl, by have := HL.out; omega, by rw [wr_length (by rw [List.length_drop, HK.out.2.2.2.2.2.1, HK.out.2.2.2.2.2.2.2]; have := HL.out; omega)]; exact HK.out.2.2.2.2.2.1, by
              have h := HK.out.2.2.2.1
              rw [crashL_cons, ← HQ.out] at h
              rw [if_neg (by decide), if_pos HT.out, HK.out.2.2.2.2.2.2.1] at h; exact h, hd8, HK.out.2.2.2.2.1.trans ((HN6.out.1.wider (fun x hx => by cases hx)).trans hC8)⟩)
          go_wp2_with fail
          refine TreeQ.in_ hC8 ?_
          refine wpTree_done ?_
          clear h8 hu8 hC8 hd8 hC6 hX6 hby
          go_wp2
          go_roundw
          case rel => rw [hs1]; exact HF.out
          case measure => have := HL.out; simp [intOf]; omega
        · go_wp2_with (first
            | ((with_reducible show wpList _ _ _ ((⟨some 26, _, _, _, _, _⟩ : Oper) :: _) _ _); refine wpList_lookup1_int (o := ⟨some 26, _, _, _, _, _⟩) (by rfl) _ _ _ _ _ (by rfl) Tryz.underlying97 Tryz.underlying3 p.gm es c HK.out.2.1.2.2 HK.out.1.keys (k : Int) (.agg zeroSec) (allocSec _) (by rfl) (by rfl) ?_; rw [HK.out.2.2.1])
            | ((with_reducible show wpList _ _ _ ((⟨none, _, _, _, _, _⟩ : Oper) :: _) _ _); (refine wpList_store_blk (o := ⟨none, _, _, _, _, _⟩) (hz) (by rfl) _ _ _ (by rfl) (by rfl) ((ob.map u8v).toArray) (by rfl) (sizeSec) (by simp) (by rw [List.size_toArray, List.length_map]; exact HK.out.2.2.2.2.2.2.2) (sec_one _) ?_); intro w6 h6 hu6; have hn6 : Near [] wr w6 := (Near.below hbz).new hu6 (Nat.le_refl _); have dK6 : w6.cell? ⟨kb, koff + i, none⟩ = some (.bool true) := (hn6.cell (World.block_lt_of_cell? wr _ dK) (fun x => by cases x)).trans dK; have HN6 := Lib.hid (And.intro hn6 (And.intro h6 (show DiskB w6 p.gd p.gl p.gm d.N L es c d.out gf d.ops from HK.out.2.1.near hn6 ⟨hX0 _, hX0 _, hX0 _⟩))); clear hn6 h6 hu6 hz hbz d1 dA dK aS)
            | fail)
          have HF := Lib.hid (show CrRel w5 p gf d keeps tear (.int .i64 ((stay + 1 : Nat) : Int)) (.int .i64 ((i + 1 : Nat) : Int)) w6 from
            ⟨i + 1, (stay + 1 : Nat), L, by have := HL.out; omega, rfl, rfl, by have := HL.out; omega, HK.out.2.2.2.2.2.1, by
              have h := HK.out.2.2.2.1
              rw [crashL_cons, ← HQ.out] at h
              rw [if_neg (by decide), if_neg HT.out] at h; exact h, ⟨es, c, HN6.out.2.2, HK.out.1⟩, HK.out.2.2.2.2.1.trans (HN6.out.1.wider (fun x hx => by cases hx))⟩)
          go_wp2
          go_roundw
          case rel => rw [hs1]; exact HF.out
          case measure => have := HL.out; simp [intOf]; omega
end
end Go.Proofs.YtfoegmjpfkmggaaGreatDoor

/- A grid that a statement made: its disk crashes. Conditions: as each says. -/
namespace Go.Proofs.YtfoegmjpfkmggaaGreatDoor
open Go.RowKit
section
variable {B gp dp : Nat} {Y : List Nat} {w : World} {g : Grd} {d : Dsk}
/-- The disk crashes, nothing of it being loose. -/
theorem xtcrash (h : GX B Y w gp dp g d) (K : Option Addr) (keeps : List Bool) (kc : Nat) (tear : Int) (hK : Reads w K (keeps.map .bool)) (hKX : keeps ≠ [] → ∀ ad, K = some ad → ad.block < B) (hkl : keeps.length ≤ 1099511627776) :
    Calls Tryz.prog 66 #[.pointer (some ⟨dp, 0, none⟩), .slice K keeps.length kc, .int .i64 tear] w fun e w' => e = .returned (.int .i64 0) ∧ GX B Y w' gp dp g (d.crash keeps tear) ∧ TS B Y w w' := by
  obtain ⟨q, h1, h2, h3, h4, h5, h6, h7⟩ := h
  have hm : q.p.gl ∈ q.all := GPl.mem.2 (.inr (.inr (.inr (.inr (by simp [Pl.all])))))
  have hr := crash_all K keeps kc tear hK (fun hne ad e hx => by have := hKX hne ad e; have := (h5 _ hm).1; rw [List.mem_singleton.1 hx] at *; omega) hkl h4.dk.dr h4.dk.ok
  rw [h2] at hr
  refine hr.mono ?_
  rintro e w' ⟨rfl, hd, hN2⟩
  have hlow : Near (q.p.all q.gf) w w' := hN2.wider (fun x hx => by rw [Pl.all]; rw [← h2] at hx; exact List.mem_append_left _ hx)
  have hok := Dsk.crash_ok (keeps := keeps) (tear := tear) h4.dk.ok
  have hfr : FusR w' q.gf none := by rw [h3]; exact trivial
  rw [← h3] at hd
  exact ⟨rfl, GX.postT h4 h1 h2 h3 h5 h6 h7 (f := none) ⟨q, rfl, rfl, rfl, h4.wrote ⟨hd, hfr, hok⟩ hlow rfl, hlow.wider (fun x hx => GPl.mem.2 (.inr (.inr (.inr (.inr hx))))), fun x hx => .inl hx⟩⟩
end
end Go.Proofs.YtfoegmjpfkmggaaGreatDoor

/- A slice of elements of any size is cut, in a quiet list. Plain facts over any program. No condition. -/
namespace Go
open Go.RowKit
section
variable {P : Program}
theorem run_cutLoS (w : World) (t e : TypeId) {s : Nat} (ht : P.underlying t = some (.slice e)) (hsz : (P.info? e).map (·.size) = some s) (g o n c : Nat) (k : IntKind) (K : Nat) (hK : K ≤ n) :
    (Instr.sliceAt t (.slice (some ⟨g, o, none⟩) n c) (some (.int k (K : Int))) none none).run P w = .ok (.slice (if c = K then some ⟨g, o, none⟩ else some ⟨g, o + K * s, none⟩) (n - K) (c - K)) w := by
  obtain ⟨i, hi, hs⟩ := Option.map_eq_some_iff.1 hsz
  have hsz' : (sizeOf e).run P w = .ok s w := by simp [sizeOf, typeInfo, hi, hs]
  have hb : (Instr.sliceBound (.int k (K : Int)) n .sliceB).run P w = .ok K w := by
    have := run_sliceBound (P := P) w k (K : Int) n .sliceB (by omega) (by omega)
    simpa using this
  have ha : (⟨g, o, none⟩ : Addr).add (K * s) = ⟨g, o + K * s, none⟩ := by unfold Addr.add; split <;> simp_all
  by_cases hc : c = K
  · simp [Instr.sliceAt, Instr.slice, run_underlying ht, Instr.sliceBounds, hb, hsz', hc]
  · simp [Instr.sliceAt, Instr.slice, run_underlying ht, Instr.sliceBounds, hb, hsz', hc, ha]
theorem run_cutHiS (w : World) (t e : TypeId) {s : Nat} (ht : P.underlying t = some (.slice e)) (hsz : (P.info? e).map (·.size) = some s) (g o n c : Nat) (k : IntKind) (K : Nat) (hK : K ≤ c) :
    (Instr.sliceAt t (.slice (some ⟨g, o, none⟩) n c) none (some (.int k (K : Int))) none).run P w = .ok (.slice (some ⟨g, o, none⟩) K c) w := by
  obtain ⟨i, hi, hs⟩ := Option.map_eq_some_iff.1 hsz
  have hsz' : (sizeOf e).run P w = .ok s w := by simp [sizeOf, typeInfo, hi, hs]
  have hb : ∀ code, (Instr.sliceBound (.int k (K : Int)) c code).run P w = .ok K w := by
    intro code
    have := run_sliceBound (P := P) w k (K : Int) c code (by omega) (by omega)
    simpa using this
  have ha : (⟨g, o, none⟩ : Addr).add 0 = ⟨g, o, none⟩ := rfl
  simp [Instr.sliceAt, Instr.slice, run_underlying ht, Instr.sliceBounds, hb, hsz', ha]
theorem wpQuiet_cutLoS {ops : Array Oper} {C : World → Prop} {Q : Act → Prop} {rest : List Oper} {o : Oper} {a : Act} (hgd : o.guard = none) (t : TypeId) (x lo : Operand) (ho : o.op = .slice t x (some lo) none none) (e : TypeId) {s : Nat}
    (ht : P.underlying t = some (.slice e)) (hsz : (P.info? e).map (·.size) = some s) (g f n c : Nat) (k : IntKind) (K : Nat) (hx : a.eval x = .slice (some ⟨g, f, none⟩) n c) (hlo : a.eval lo = .int k (K : Int)) (hK : K ≤ n)
    (h : wpQuiet P ops C Q rest (a.put o.dst (.slice (if c = K then some ⟨g, f, none⟩ else some ⟨g, f + K * s, none⟩) (n - K) (c - K)))) : wpQuiet P ops C Q (o :: rest) a := by
  refine wpQuiet_step fun K' hK' => ?_
  rw [if_pos (by simp [Region.wanted, hgd])]
  refine ⟨_, fun w hw => ?_, hK' _ h⟩
  unfold Oper.quietAt execOp
  simp only [ho, hx, hlo, Option.map_some, Option.map_none, run_cutLoS w t e ht hsz g f n c k K hK, Sem.run_bind, Result.andThen_ok, Sem.run_pure]
  exact ⟨rfl, rfl⟩
theorem wpQuiet_cutHiS {ops : Array Oper} {C : World → Prop} {Q : Act → Prop} {rest : List Oper} {o : Oper} {a : Act} (hgd : o.guard = none) (t : TypeId) (x hi : Operand) (ho : o.op = .slice t x none (some hi) none) (e : TypeId) {s : Nat}
    (ht : P.underlying t = some (.slice e)) (hsz : (P.info? e).map (·.size) = some s) (g f n c : Nat) (k : IntKind) (K : Nat) (hx : a.eval x = .slice (some ⟨g, f, none⟩) n c) (hhi : a.eval hi = .int k (K : Int)) (hK : K ≤ c)
    (h : wpQuiet P ops C Q rest (a.put o.dst (.slice (some ⟨g, f, none⟩) K c))) : wpQuiet P ops C Q (o :: rest) a := by
  refine wpQuiet_step fun K' hK' => ?_
  rw [if_pos (by simp [Region.wanted, hgd])]
  refine ⟨_, fun w hw => ?_, hK' _ h⟩
  unfold Oper.quietAt execOp
  simp only [ho, hx, hhi, Option.map_some, Option.map_none, run_cutHiS w t e ht hsz g f n c k K hK, Sem.run_bind, Result.andThen_ok, Sem.run_pure]
  exact ⟨rfl, rfl⟩
end
end Go
