/- BlockWrites: for every input the law answers true and every argument reads as it did. No condition. -/
import Derived.Test.YtfpcldnefpmgcaaGridArg
import Derived.Test.YtfpcldnefpmgcaaWrites
namespace Go.Proofs.Ytfpcldnefpmgcaa
open Go.ChangeShapes Go.WideShapes Go.ChangeAt Go.RowKit
theorem writes_args (x : gbSh.T) (cs : List Value) (W : World) (h : Sh.Is W gbSh x cs) :
    Calls Try.prog 8 #[.agg cs.toArray] W fun e w' => e = .returned (.bool true) ∧ Below W.heap.size W w' := by
  obtain ⟨A, c, B, d, rfl, _, _, _, _, hr, hb⟩ := gbSh_is h
  obtain ⟨k, ⟨a, s, _⟩, l, m, _⟩ := x
  exact writes_any k a s A B c d l m W hr hb
set_option maxRecDepth 100000 in
theorem blockWrites_lifted (os : Os) (started : os.Started) (H : Type) (enc : TypeId × Value → H) :
    ReturnsInHanded {} Try.checked os 8 .any (Rows.blockWritesSpec.pre6 enc Try.prog Try.f8 Rows.blockWritesRow.domain false) (Rows.blockWritesSpec.post enc Try.prog Try.f8 false true false false) := by
  refine returnsInHanded_of_change (C := Try.checked) Try.own started (by kernel_rfl) Try.func8
    (ChangeSpec.witness6 (enc := enc) (C := Try.checked) false ⟨#[], #[.agg #[.int .i64 0, .int .i64 0, .int .i64 0, .slice none 0 0, .slice none 0 0]], []⟩ 8 (by kernel_rfl) (by kernel_rfl) (by kernel_rfl) (by kernel_rfl)) ?_
  intro W base args ds gs before hval0 hW hcnd _
  have hval : ∀ (j : Nat) t v, Try.f8.params[j]? = some t → args[j]? = some v → Value.okWide Try.prog W .any base t v := hval0
  have hW' := hW
  obtain ⟨p, q, hA0, hV, rfl, hfz, hnd⟩ := hW
  have hA : DataW.TrodAll enc Try.prog W 0 (fun _ => true) true Try.f8.params.toList args.toList ds p := hA0
  rw [Try.params8] at hA hval
  obtain ⟨v0, d0, rfl, rfl, h0⟩ := trodAll_one hA
  obtain ⟨rfl, rfl⟩ := trodVars_none hV
  have h0k := h0
  obtain ⟨x, hx0⟩ := Sh.open_ (P := Try.prog) gbSh (by kernel_rfl) h0
  obtain ⟨cs, rfl, hcs⟩ := arg_agg Try.underlying45 rfl (hval 0 45 v0 rfl rfl) hx0
  clear hA0 hval0
  simp only [List.append_nil] at hW'
  have hlt : ∀ x ∈ p, x.block < W.heap.size := fun x hx => by simpa using hW'.lt x hx
  refine (writes_args x cs W hcs).mono fun e W' ⟨he, hw⟩ => ?_
  subst he
  refine ⟨_, rfl, _, _, _, [], p, [], hW', ?_, ?_, rfl, hw.frame _, fun h => by cases h⟩
  · exact trodAll_mk1 (shut_bool Try.underlying4 true)
  · exact trodAll_mk1 (Below.trod Try.laidOut (by kernel_rfl) (of_decide_eq_true (by kernel_rfl)) h0k hw (fun x hx => hlt x (by simpa using hx)))
theorem blockWrites_holds : Rows.BlockWritesSaid :=
  OpenClaim.holds_of_wide 8 Try.f8 rfl rfl rfl rfl rfl rfl rfl ⟨rfl, rfl, rfl, rfl, rfl⟩ rfl rfl rfl rfl rfl (by kernel_rfl) Try.func8 (by kernel_rfl)
    (of_decide_eq_true (by kernel_rfl)) (by unfold Func.isWrapper; rw [if_neg (by decide +kernel)]; exact ⟨rfl, rfl⟩)
    (fun os started H enc _ => blockWrites_lifted os started H enc)
end Go.Proofs.Ytfpcldnefpmgcaa
