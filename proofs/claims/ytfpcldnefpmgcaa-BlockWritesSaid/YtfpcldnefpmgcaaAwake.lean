/- The chapter's examples, as the statements name them: two seals, and that the program answers so. No condition. -/
import Derived.Test.YtfpcldnefpmgcaaSeal
import Derived.Test.YtfpcldnefpmgcaaAbc
namespace Go.Proofs.Ytfpcldnefpmgcaa
open Go.RowKit
def abcSum : List UInt8 := [0xba, 0x78, 0x16, 0xbf, 0x8f, 0x01, 0xcf, 0xea, 0x41, 0x41, 0x40, 0xde, 0x5d, 0xae, 0x22, 0x23]
def noneSum : List UInt8 := [0xe3, 0xb0, 0xc4, 0x42, 0x98, 0xfc, 0x1c, 0x14, 0x9a, 0xfb, 0xf4, 0xc8, 0x99, 0x6f, 0xb9, 0x24]
set_option maxHeartbeats 400000 in
theorem ofABC_any (w : World) : Calls Try.prog 25 #[] w fun e w' => e = .returned (.agg (abcSum.map u8v).toArray) ∧ Below w.heap.size w w' := by
  have a16 := alloc16
  have hz := Blk.new w 23 zero16
  go_enter Try.func25, Try.ntmps25
  go_wp2_with (first | (show wpList _ _ _ ((⟨some 1, .build _ _, _, _, _, _⟩ : Oper) :: _) _ _; (refine wpList_run (o := ⟨some 1, .build _ _, _, _, _, _⟩) (.agg (abcSum.map u8v).toArray) (by rfl) (by kernel_rfl) ?_)) | (show wpList _ _ _ ((⟨none, _, _, _, _, _⟩ : Oper) :: _) _ _; (refine wpList_store_blk (o := ⟨none, _, _, _, _, _⟩) hz (by rfl) _ _ _ (by rfl) (by rfl) (abcSum.map u8v).toArray (by rfl) size16 (arr_size _ _) (by rfl) (u8_all _) ?_; intro w1 h1 hu1)))
  refine bodyPost_ret (results_cell_row (by rfl) _ _ _ _ _ _ _ (by rfl) h1 Try.underlying23 (by rfl) size16) rfl ⟨rfl, ((Below.refl _ _).alloc (Nat.le_refl _) _).upd hu1 (Nat.le_refl _)⟩
set_option maxHeartbeats 400000 in
theorem ofNone_any (w : World) : Calls Try.prog 26 #[] w fun e w' => e = .returned (.agg (noneSum.map u8v).toArray) ∧ Below w.heap.size w w' := by
  have a16 := alloc16
  have hz := Blk.new w 23 zero16
  go_enter Try.func26, Try.ntmps26
  go_wp2_with (first | (show wpList _ _ _ ((⟨some 1, .build _ _, _, _, _, _⟩ : Oper) :: _) _ _; (refine wpList_run (o := ⟨some 1, .build _ _, _, _, _, _⟩) (.agg (noneSum.map u8v).toArray) (by rfl) (by kernel_rfl) ?_)) | (show wpList _ _ _ ((⟨none, _, _, _, _, _⟩ : Oper) :: _) _ _; (refine wpList_store_blk (o := ⟨none, _, _, _, _, _⟩) hz (by rfl) _ _ _ (by rfl) (by rfl) (noneSum.map u8v).toArray (by rfl) size16 (arr_size _ _) (by rfl) (u8_all _) ?_; intro w1 h1 hu1)))
  refine bodyPost_ret (results_cell_row (by rfl) _ _ _ _ _ _ _ (by rfl) h1 Try.underlying23 (by rfl) size16) rfl ⟨rfl, ((Below.refl _ _).alloc (Nat.le_refl _) _).upd hu1 (Nat.le_refl _)⟩
set_option maxHeartbeats 400000 in
theorem awake_any (w : World) : Calls Try.prog 18 #[] w fun e w' => e = .returned (.bool true) ∧ Below w.heap.size w w' := by
  go_enter Try.func18, Try.ntmps18
  go_wp2_with (first
    | (show wpList _ _ _ ((⟨some 2, _, _, _, _, _⟩ : Oper) :: _) _ _; refine wpList_bytes_const (o := ⟨some 2, _, _, _, _, _⟩) (by rfl) _ _ _ (by rfl) Try.underlying22 Try.underlying5 [97, 98, 99] _ (by rfl) 3 (by rfl) ?_; intro w1 hb1 hbel1 _)
    | fail)
  refine (sum_any _ 3 [97, 98, 99] (by simp) (by simp) w1 hb1).mono ?_
  rintro e w2 ⟨rfl, hb2⟩
  rw [Sha.sum_abc]
  replace hbel1 := hbel1.trans (hb2.mono hbel1.size)
  clear hb2 hb1
  go_wp2_with fail
  refine (ofABC_any w2).mono ?_
  rintro e w3 ⟨rfl, hb3⟩
  replace hbel1 := hbel1.trans (hb3.mono hbel1.size)
  clear hb3
  go_wp2_with (first
    | (show wpList _ _ _ ((⟨some 5, _, _, _, _, _⟩ : Oper) :: _) _ _; refine wpList_eql_bytes (o := ⟨some 5, _, _, _, _, _⟩) (by rfl) _ _ _ _ _ (by rfl) 16 Try.underlying23 Try.underlying5 size1 nosel abcSum abcSum (by rfl) (by rfl) (by rfl) (by rfl) ?_)
    | fail)
  refine (sum_any none 0 [] (by simp) (by simp) w3 (Reads.nil _ _)).mono ?_
  rintro e w4 ⟨rfl, hb4⟩
  rw [Sha.sum_none]
  replace hbel1 := hbel1.trans (hb4.mono hbel1.size)
  clear hb4
  go_wp2_with fail
  refine (ofNone_any w4).mono ?_
  rintro e w5 ⟨rfl, hb5⟩
  replace hbel1 := hbel1.trans (hb5.mono hbel1.size)
  clear hb5
  go_wp2_with (first
    | (show wpList _ _ _ ((⟨some 9, _, _, _, _, some _⟩ : Oper) :: _) _ _; refine wpList_want (by rfl) ?_; refine wpList_eql_bytes (o := ⟨some 9, _, _, _, _, _⟩) (by rfl) _ _ _ _ _ (by rfl) 16 Try.underlying23 Try.underlying5 size1 nosel noneSum noneSum (by rfl) (by rfl) (by rfl) (by rfl) ?_)
    | fail)
  go_ret
  exact ⟨by simp, hbel1⟩
end Go.Proofs.Ytfpcldnefpmgcaa
