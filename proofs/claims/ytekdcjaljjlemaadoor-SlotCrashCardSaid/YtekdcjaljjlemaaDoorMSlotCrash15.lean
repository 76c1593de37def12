/- SlotCrash: for every input the law returns true and every argument reads as it did. Condition: the tables of Go's library are as their initialisers lay them (tied to the program's text by the card). -/
import Derived.Test.YtekdcjaljjlemaaDoorMSlotCrash14
import Derived.Test.YtekdcjaljjlemaaDoorTie
import Derived.Test.YtekdcjaljjlemaaDoorCards
import Derived.SevenTiedAt
namespace Go.Proofs.YtekdcjaljjlemaaDoor
open Go.ChangeShapes Go.WideShapes Go.ChangeAt Go.RowKit
theorem bools_flat : ∀ {ks : List Bool} {rows : List (List Value)} {w : World}, Both (fun (d : Sh.bool.T) r => r.length = Sh.bool.size ∧ Sh.Is w .bool d r) ks rows → rows.flatten = ks.map Value.bool
  | [], [], _, _ => rfl
  | [], _ :: _, _, h => h.elim
  | _ :: _, [], _, h => h.elim
  | k :: ks, r :: rows, w, ⟨h1, h2⟩ => by
    have h3 : r = [.bool k] := h1.2
    rw [List.flatten_cons, List.map_cons, bools_flat h2, h3]; rfl
theorem crash_args (x : msgSh.T) (cs : List Value) (B : Option Addr) (d : Nat) (ks : List Bool) (rows : List (List Value)) (tear : Int) (W : World) (h : Sh.Is W msgSh x cs) (hb : Both (fun (d : Sh.bool.T) r => r.length = Sh.bool.size ∧ Sh.Is W .bool d r) ks rows) (hr : Reads W B rows.flatten) :
    Calls Tryd.prog 5 #[.agg cs.toArray, .slice B ks.length d, .int .i64 tear] W fun e w' => e = .returned (.bool true) ∧ Below W.heap.size W w' := by
  obtain ⟨f, A, c, e, hin, h1, h2, hy⟩ := msgSh_is h
  rw [e]
  exact crash_any f A B c d x.2.1 ks tear hin ⟨h1, h2⟩ W hy (by rw [← bools_flat hb]; exact hr)
set_option maxRecDepth 100000 in
theorem slotCrash_lifted (os : Os) (started : os.Started) (H : Type) (enc : TypeId × Value → H) :
    ReturnsInHanded {} Tryd.checked os 5 .any (fun w args => (Rows.slotCrashSpec.pre enc Tryd.prog Tryd.f5 [] false w args ∧ laidMetH Tryd.prog laid1 w) ∧ sizedMet enc Tryd.prog Tryd.f5 (OpenSpec.ofChange Rows.slotCrashSpec) false w args) (Rows.slotCrashSpec.post enc Tryd.prog Tryd.f5 false true false false) := by
  refine returnsInHanded_of_change_and (C := Tryd.checked) (X := fun w _ => laidMetH Tryd.prog laid1 w) (fun _ _ _ hh h => h.of_heap hh) Tryd.own started (by kernel_rfl) Tryd.func5
    (ChangeSpec.witness_shaped (enc := enc) (C := Tryd.checked) (os := os) (X := fun w _ => laidMetH Tryd.prog laid1 w) false (laidW os) #[.agg #[.int .i64 0, .int .i64 0, .int .i64 0, .int .i64 0, .int .i64 0, .int .i64 0, .int .i64 0, .int .i64 0, .int .i64 0, .int .u64 0, .int .u64 0, .int .i64 0, .int .i64 0, .int .u64 0, .int .i64 0, .int .i64 0, .slice none 0 0], .slice none 0 0, .int .i64 0] 8 rfl (World.shaped_of_RefB (by kernel_rfl) (by kernel_rfl)) (by kernel_rfl) (by kernel_rfl) (by kernel_rfl) (door_met os _)) ?_
  intro W base args ds gs before hval0 hW _ _ hL _
  have hval : ∀ (j : Nat) t v, Tryd.f5.params[j]? = some t → args[j]? = some v → Value.okWide Tryd.prog W .any base t v := hval0
  have hW' := hW
  obtain ⟨p, q, hA0, hV, rfl, hfz, hnd⟩ := hW
  have hA : DataW.TrodAll enc Tryd.prog W 0 (fun _ => true) true Tryd.f5.params.toList args.toList ds p := hA0
  rw [Tryd.params5] at hA hval
  obtain ⟨v0, v1, v2, d0, d1, d2, p0, p1, p2, rfl, rfl, rfl, h0, h1, h2⟩ := trodAll_three hA
  obtain ⟨rfl, rfl⟩ := trodVars_none hV
  have h0k := h0
  have h1k := h1
  have h2k := h2
  obtain ⟨x, hx0⟩ := Sh.open_ (P := Tryd.prog) msgSh (by kernel_rfl) h0
  obtain ⟨cs, rfl, hcs⟩ := arg_agg Tryd.underlying29 rfl (hval 0 29 v0 rfl rfl) hx0
  obtain ⟨ks, hx1⟩ := Sh.open_ (P := Tryd.prog) (.slice .bool) (by kernel_rfl) h1
  obtain ⟨B, d, rows1, rfl, hd, hd2, hb2, hb3⟩ := arg_slice Tryd.underlying50 (hval 1 50 v1 rfl rfl) hx1
  obtain ⟨t, hx2⟩ := Sh.open_ (P := Tryd.prog) (.int .i64) (by kernel_rfl) h2
  obtain ⟨rfl, hlo, hhi⟩ := arg_int Tryd.underlying3 (hval 2 3 v2 rfl rfl) hx2
  clear hA0 hval0
  simp only [List.append_nil] at hW'
  have hlt : ∀ x ∈ p0 ++ p1 ++ p2, x.block < W.heap.size := fun x hx => by simpa using hW'.lt x hx
  refine (crash_args x cs B d ks _ t W hcs hb2 hb3).mono fun e W' ⟨he, hw⟩ => ?_
  subst he
  refine ⟨_, rfl, _, _, _, [], p0 ++ p1 ++ p2, [], hW', ?_, ?_, rfl, hw.frame _, fun h => by cases h⟩
  · exact trodAll_mk1 (shut_bool Tryd.underlying4 true)
  · rw [List.append_assoc]; exact trodAll_mk3 (Below.trod Tryd.laidOut (by kernel_rfl) (of_decide_eq_true (by kernel_rfl)) h0k hw (fun x hx => hlt x (by simp [hx]))) (Below.trod Tryd.laidOut (by kernel_rfl) (of_decide_eq_true (by kernel_rfl)) h1k hw (fun x hx => hlt x (by simp [hx]))) (Below.trod Tryd.laidOut (by kernel_rfl) (of_decide_eq_true (by kernel_rfl)) h2k hw (fun x hx => hlt x (by simp [hx])))
theorem slotCrash_holds : Rows.SlotCrashSaid :=
  OpenClaim.holds_of_wide 5 Tryd.f5 rfl rfl rfl rfl rfl rfl rfl ⟨rfl, rfl, rfl, rfl, rfl⟩ rfl rfl rfl rfl rfl (by kernel_rfl) Tryd.func5 (by kernel_rfl)
    (of_decide_eq_true (by kernel_rfl)) (by unfold Func.isWrapper; rw [if_neg (by decide +kernel)]; exact ⟨rfl, rfl⟩)
    (fun os started H enc _ => slotCrash_lifted os started H enc)
theorem slotCrash_card : Rows.SlotCrashCardSaid :=
  Claim7.holds_tied_plain_at .later [] [.data, .pinned] true Rows.slotCrashCard.stood.harness false
    slotCrash_holds (fun _ h => by cases h) (by kernel_rfl) (fun _ h => by cases h) slotCrash_row_tie rfl ⟨rfl, rfl⟩ (by kernel_rfl) rfl
    (fun f fn hf hfn => by
      obtain rfl : f = 5 := Option.some.inj ((show Tryd.prog.funcNamed Rows.slotCrashRow.func = some 5 by kernel_rfl).symm.trans hf) |>.symm
      obtain rfl : fn = Tryd.f5 := (Option.some.inj (Tryd.func5.symm.trans hfn)).symm
      exact ⟨by kernel_rfl, fun j t ht => by
        rw [Tryd.params5] at ht
        have hm : t ∈ [29, 50, 3] := by simpa using Array.mem_of_getElem? ht
        have hall : ([29, 50, 3].all fun u => !Tryd.prog.wantsStandIn u) = true := by kernel_rfl
        exact (show Tryd.prog.wantsStandIn t = false by simpa using List.all_eq_true.1 hall t hm)⟩)
    (by kernel_rfl)
end Go.Proofs.YtekdcjaljjlemaaDoor
