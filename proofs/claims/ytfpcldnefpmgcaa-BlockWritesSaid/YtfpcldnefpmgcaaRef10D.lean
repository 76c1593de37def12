/- The document's bytes of a block, as a call. Conditions: the block's lists can be read. -/
import Derived.Test.YtfpcldnefpmgcaaRef10C
import Derived.Test.YtfpcldnefpmgcaaBack10
namespace Go.Proofs.Ytfpcldnefpmgcaa
open Go.RowKit
set_option maxHeartbeats 1000000 in
theorem rbytes_ok (k ra rs : Int) (A B : Option Addr) (c d : Nat) (l : List RefT) (body : List UInt8) (hok : GB.ok (k, (ra, rs, ()), l, body, ()) = true) (w : World) (hr : Refs w A l) (hb : Bytes w B body) :
    Calls Try.prog 31 #[.agg #[.int .i64 k, .int .i64 ra, .int .i64 rs, .slice A l.length c, .slice B body.length d]] w
      fun e w' => ∃ v sp, e = .returned (.tuple #[v, .int .i64 0]) ∧ OwnB 5 w' w.heap.size v (GB.bytes (k, (ra, rs, ()), l, body, ())) sp ∧ Below w.heap.size w w' := by
  obtain ⟨hn, hbl⟩ := GB.lens hok
  have hrl := GB.rest_length _ hn hbl
  simp only at hn hbl
  have hB := (Below.refl w.heap.size w).alloc (Nat.le_refl _) (.cells #[.int .i64 k, .int .i64 ra, .int .i64 rs, .slice A l.length c, .slice B body.length d] 45)
  have hx := Blk.new w 45 #[.int .i64 k, .int .i64 ra, .int .i64 rs, .slice A l.length c, .slice B body.length d]
  replace hr := hr.below hB
  replace hb := Bytes.below hb hB
  go_enter Try.func31, Try.ntmps31
  go_wp2_with (first | (show wpList _ _ _ ((⟨some 4, _, _, _, _, _⟩ : Oper) :: _) _ _; refine wpList_load_blk (o := ⟨some 4, _, _, _, _, _⟩) (hx) (by rfl) _ _ (by rfl) (by rfl) _ Try.underlying45 (by rfl) (sizeGB) (by rfl) ?_) | fail)
  have hch := rcheck_any k ra rs A B c d l body (by omega) (by omega) _ hr
  rw [GB.code_ok hok] at hch
  have HOK := Lib.hid hok
  have HRL := Lib.hid hrl
  clear hok hrl
  refine hch.mono ?_
  clear hch
  rintro e w1 ⟨rfl, hbx⟩
  (replace hx := keep hbx hx; replace hr := keep hbx hr; replace hb := keep hbx hb; replace hB := hB.trans (hbx.mono hB.size); clear hbx)
  go_wp2_with (first | (show wpList _ _ _ ((⟨some 7, _, _, _, _, _⟩ : Oper) :: _) _ _; refine wpList_load_blk (o := ⟨some 7, _, _, _, _, _⟩) (hx) (by rfl) _ _ (by rfl) (by rfl) _ Try.underlying45 (by rfl) (sizeGB) (by rfl) ?_) | fail)
  refine (behind_any k ra rs A B c d l body HOK.out w1 hr hb).mono ?_
  clear hx hr hb
  rintro e w2 ⟨v2, sp2, rfl, ho2, hbx⟩
  (replace hB := hB.trans (hbx.mono hB.size); clear hbx)
  obtain ⟨A2, c2, rfl, hc2, hm2, hs2⟩ := OwnB.open_ ho2
  clear ho2
  have hsz := hB.size
  go_wp2_with fail
  refine (rseal_any A2 _ c2 (GB.rest (k, (ra, rs, ()), l, body, ())) rfl hc2 ⟨by rw [HRL.out]; omega, hm2⟩ w2 hs2).mono ?_
  rintro e w3 ⟨v3, sp3, rfl, ho3, hbx⟩
  have hB3 := hB.trans (hbx.mono hsz)
  have ho4 : OwnB 5 w3 w.heap.size v3 (GB.bytes (k, (ra, rs, ()), l, body, ())) sp3 := Own.base_ ho3 hsz
  clear hbx hs2 hB ho3
  go_wp2_with fail
  refine bodyPost_ret (results_tmp2 rfl _ _ _) rfl ⟨_, _, rfl, ho4, hB3⟩
set_option maxHeartbeats 1000000 in
theorem rbytes_no (k ra rs : Int) (A B : Option Addr) (c d : Nat) (l : List RefT) (body : List UInt8) (hl : l.length ≤ 1000) (hbl : body.length ≤ 5000) (hok : GB.ok (k, (ra, rs, ()), l, body, ()) = false) (w : World) (hr : Refs w A l) :
    Calls Try.prog 31 #[.agg #[.int .i64 k, .int .i64 ra, .int .i64 rs, .slice A l.length c, .slice B body.length d]] w
      fun e w' => e = .returned (.tuple #[.slice none 0 0, .int .i64 2]) ∧ Below w.heap.size w w' := by
  have hB := (Below.refl w.heap.size w).alloc (Nat.le_refl _) (.cells #[.int .i64 k, .int .i64 ra, .int .i64 rs, .slice A l.length c, .slice B body.length d] 45)
  have hx := Blk.new w 45 #[.int .i64 k, .int .i64 ra, .int .i64 rs, .slice A l.length c, .slice B body.length d]
  replace hr := hr.below hB
  go_enter Try.func31, Try.ntmps31
  go_wp2_with (first | (show wpList _ _ _ ((⟨some 4, _, _, _, _, _⟩ : Oper) :: _) _ _; refine wpList_load_blk (o := ⟨some 4, _, _, _, _, _⟩) (hx) (by rfl) _ _ (by rfl) (by rfl) _ Try.underlying45 (by rfl) (sizeGB) (by rfl) ?_) | fail)
  have hch := rcheck_any k ra rs A B c d l body hl hbl _ hr
  rw [GB.code_no hok] at hch
  clear hok
  refine hch.mono ?_
  clear hch
  rintro e w1 ⟨rfl, hbx⟩
  (replace hB := hB.trans (hbx.mono hB.size); clear hbx hx hr)
  go_wp2
  refine bodyPost_ret (results_tmp2 rfl _ _ _) rfl ⟨rfl, hB⟩
end Go.Proofs.Ytfpcldnefpmgcaa
