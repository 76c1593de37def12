/- BlockBack: for every input the law answers true and every argument reads as it did. No condition. -/
import Derived.Test.YtfpcldnefpmgcaaGridArg
import Derived.Test.YtfpcldnefpmgcaaBack10
namespace Go.Proofs.Ytfpcldnefpmgcaa
open Go.ChangeShapes Go.WideShapes Go.ChangeAt Go.RowKit
theorem back10_args (x : gbSh.T) (cs : List Value) (R : Option Addr) (rc : Nat) (raw : List UInt8) (hrc : raw.length ≤ rc) (hrc2 : rc ≤ 9223372036854775807) (W : World) (h : Sh.Is W gbSh x cs) (hR : Bytes W R raw) :
    Calls Try.prog 11 #[.agg cs.toArray, .slice R raw.length rc] W fun e w' => e = .returned (.bool true) ∧ Below W.heap.size W w' := by
  obtain ⟨A, c, B, d, rfl, _, _, _, _, hr, hb⟩ := gbSh_is h
  obtain ⟨k, ⟨a, s, _⟩, l, m, _⟩ := x
  exact back10_any k a s A B R c d _ rc l m raw rfl hrc hrc2 W hr hb hR
set_option maxRecDepth 100000 in
theorem blockBack_lifted (os : Os) (started : os.Started) (H : Type) (enc : TypeId × Value → H) :
    ReturnsInHanded {} Try.checked os 11 .any (Rows.blockBackSpec.pre6 enc Try.prog Try.f11 Rows.blockBackRow.domain false) (Rows.blockBackSpec.post enc Try.prog Try.f11 false true false false) := by
  refine returnsInHanded_of_change (C := Try.checked) Try.own started (by kernel_rfl) Try.func11
    (ChangeSpec.witness6 (enc := enc) (C := Try.checked) false ⟨#[], #[.agg #[.int .i64 0, .int .i64 0, .int .i64 0, .slice none 0 0, .slice none 0 0], .slice none 0 0], []⟩ 8 (by kernel_rfl) (by kernel_rfl) (by kernel_rfl) (by kernel_rfl)) ?_
  intro W base args ds gs before hval0 hW hcnd _
  have hval : ∀ (j : Nat) t v, Try.f11.params[j]? = some t → args[j]? = some v → Value.okWide Try.prog W .any base t v := hval0
  have hW' := hW
  obtain ⟨p, q, hA0, hV, rfl, hfz, hnd⟩ := hW
  have hA : DataW.TrodAll enc Try.prog W 0 (fun _ => true) true Try.f11.params.toList args.toList ds p := hA0
  rw [Try.params11] at hA hval
  obtain ⟨v0, v1, d0, d1, p0, p1, rfl, rfl, rfl, h0, h1⟩ := trodAll_two hA
  obtain ⟨rfl, rfl⟩ := trodVars_none hV
  have h0k := h0
  have h1k := h1
  obtain ⟨x, hx0⟩ := Sh.open_ (P := Try.prog) gbSh (by kernel_rfl) h0
  obtain ⟨cs, rfl, hcs⟩ := arg_agg Try.underlying45 rfl (hval 0 45 v0 rfl rfl) hx0
  obtain ⟨raw, hx1⟩ := Sh.open_ (P := Try.prog) (.slice .byte) (by kernel_rfl) h1
  obtain ⟨R, rc, rfl, hrc, hrc2, hR⟩ := arg_bytes Try.underlying22 (hval 1 22 v1 rfl rfl) hx1
  clear hA0 hval0
  simp only [List.append_nil] at hW'
  have hlt : ∀ x ∈ p0 ++ p1, x.block < W.heap.size := fun x hx => by simpa using hW'.lt x hx
  refine (back10_args x cs R rc raw hrc hrc2 W hcs hR).mono fun e W' ⟨he, hw⟩ => ?_
  subst he
  refine ⟨_, rfl, _, _, _, [], p0 ++ p1, [], hW', ?_, ?_, rfl, hw.frame _, fun h => by cases h⟩
  · exact trodAll_mk1 (shut_bool Try.underlying4 true)
  · exact trodAll_mk2 (Below.trod Try.laidOut (by kernel_rfl) (of_decide_eq_true (by kernel_rfl)) h0k hw (fun x hx => hlt x (by simp [hx]))) (Below.trod Try.laidOut (by kernel_rfl) (of_decide_eq_true (by kernel_rfl)) h1k hw (fun x hx => hlt x (by simp [hx])))
theorem blockBack_holds : Rows.BlockBackSaid :=
  OpenClaim.holds_of_wide 11 Try.f11 rfl rfl rfl rfl rfl rfl rfl ⟨rfl, rfl, rfl, rfl, rfl⟩ rfl rfl rfl rfl rfl (by kernel_rfl) Try.func11 (by kernel_rfl)
    (of_decide_eq_true (by kernel_rfl)) (by unfold Func.isWrapper; rw [if_neg (by decide +kernel)]; exact ⟨rfl, rfl⟩)
    (fun os started H enc _ => blockBack_lifted os started H enc)
end Go.Proofs.Ytfpcldnefpmgcaa
