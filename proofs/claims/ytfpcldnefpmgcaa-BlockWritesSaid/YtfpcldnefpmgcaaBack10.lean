/- The statement that a block that is written is read as it was, and the other way about, as a call: it answers true and writes nothing that was there. Condition: the arguments can be read. -/
import Derived.Test.YtfpcldnefpmgcaaKnown10
namespace Go.Proofs.Ytfpcldnefpmgcaa
open Go.RowKit
theorem GB.read_nil : GB.read [] = (4, GB.none_) := by unfold GB.read; rw [if_pos (by simp)]
/-- One that may be is no longer than may be. -/
theorem GB.lens {b : GBT} (h : GB.ok b = true) : b.2.2.1.length ≤ 16 ∧ b.2.2.2.1.length ≤ 860 := by
  obtain ⟨_, _, h1, h2, _⟩ := GB.ok_spec h; exact ⟨h1, h2⟩
set_option maxHeartbeats 2000000 in
theorem back10_any (k a s : Int) (A B R : Option Addr) (c d nR rc : Nat) (l : List RefT) (m raw : List UInt8) (hnR : nR = raw.length) (hrc : raw.length ≤ rc) (hrc2 : rc ≤ 9223372036854775807) (w : World) (hr : Refs w A l) (hb : Bytes w B m) (hR : Bytes w R raw) :
    Calls Try.prog 11 #[.agg #[.int .i64 k, .int .i64 a, .int .i64 s, .slice A l.length c, .slice B m.length d], .slice R nR rc] w fun e w' => e = .returned (.bool true) ∧ Below w.heap.size w w' := by
  subst hnR
  have hB := (Below.refl w.heap.size w).alloc (Nat.le_refl _) (.cells #[.int .i64 k, .int .i64 a, .int .i64 s, .slice A l.length c, .slice B m.length d] 45)
  have hx := Blk.new w 45 #[.int .i64 k, .int .i64 a, .int .i64 s, .slice A l.length c, .slice B m.length d]
  replace hr := hr.below hB
  replace hb := Bytes.below hb hB
  replace hR := Bytes.below hR hB
  go_enter Try.func11, Try.ntmps11
  go_wp2_with fail
  refine (known10_any _).mono ?_
  rintro e w1 ⟨rfl, hbx⟩
  (replace hx := keep hbx hx; replace hr := keep hbx hr; replace hb := keep hbx hb; replace hR := keep hbx hR; replace hB := hB.trans (hbx.mono hB.size); clear hbx)
  have d3 : w1.cell? ⟨w.heap.size, 3, none⟩ = some (.slice A l.length c) := hx.at_ 3 rfl
  have d4 : w1.cell? ⟨w.heap.size, 4, none⟩ = some (.slice B m.length d) := hx.at_ 4 rfl
  by_cases h1 : 40 < l.length
  · go_wp2
    go_ret
    exact ⟨rfl, hB⟩
  by_cases h2 : 2000 < m.length
  · go_wp2
    go_ret
    exact ⟨rfl, hB⟩
  by_cases h3 : 2000 < raw.length
  · go_wp2
    go_ret
    exact ⟨rfl, hB⟩
  go_wp2_with (first | (show wpList _ _ _ ((⟨some 32, _, _, _, _, _⟩ : Oper) :: _) _ _; refine wpList_load_blk (o := ⟨some 32, _, _, _, _, _⟩) (hx) (by rfl) _ _ (by rfl) (by rfl) _ Try.underlying45 (by rfl) (sizeGB) (by rfl) ?_) | fail)
  clear d3 d4
  rcases hok : GB.ok (k, (a, s, ()), l, m, ()) with _ | _
  · refine (bytes_no k a s A B c d l m (by omega) (by omega) hok w1 hr).mono ?_
    clear hok
    rintro e w2 ⟨rfl, hbx⟩
    (replace hR := keep hbx hR; replace hB := hB.trans (hbx.mono hB.size); clear hbx hx)
    go_wp2_with fail
    refine (noRead_any none 0 0 [] 4 rfl (by omega) (by omega) w2 (Reads.nil _ _) GB.read_nil).mono ?_
    rintro e w3 ⟨A4, c4, B4, d4, rfl, hbx⟩
    (replace hR := keep hbx hR; replace hB := hB.trans (hbx.mono hB.size); clear hbx)
    have hbx := (Below.refl w3.heap.size w3).alloc (Nat.le_refl _) (.cells #[.int .i64 0, .int .i64 0, .int .i64 0, .slice A4 0 c4, .slice B4 0 d4] 45)
    (replace hR := keep hbx hR; replace hB := hB.trans (hbx.mono hB.size); clear hbx)
    rcases hq : GB.read raw with ⟨code, p⟩
    have hcs := GB.read_cases raw
    rw [hq] at hcs
    have hrd := read_any R raw.length rc raw rfl hrc hrc2 (w3.alloc (.cells #[.int .i64 0, .int .i64 0, .int .i64 0, .slice A4 0 c4, .slice B4 0 d4] 45)) hR
    rw [hq] at hrd
    clear hq
    rcases hcs with ⟨h8, h9⟩ | ⟨h8, h9⟩ | ⟨h8, h9, h10⟩
    · dsimp only at h8 h9
      subst h8 h9
      go_wp2_with fail
      refine hrd.mono ?_
      clear hrd
      rintro e w6 ⟨A6, c6, B6, d6, rfl, hr6, hb6, _, _, _, hbx⟩
      (replace hR := keep hbx hR; replace hB := hB.trans (hbx.mono hB.size); clear hbx)
      go_wp2
      go_ret
      exact ⟨rfl, hB.alloc hB.size _⟩
    · dsimp only at h8 h9
      subst h8 h9
      go_wp2_with fail
      refine hrd.mono ?_
      clear hrd
      rintro e w6 ⟨A6, c6, B6, d6, rfl, hr6, hb6, _, _, _, hbx⟩
      (replace hR := keep hbx hR; replace hB := hB.trans (hbx.mono hB.size); clear hbx)
      go_wp2
      go_ret
      exact ⟨rfl, hB.alloc hB.size _⟩
    · obtain ⟨rfl, rfl⟩ := Prod.mk.inj h8
      clear h8
      obtain ⟨⟨k7, ⟨a7, s7, u7⟩, l7, m7, v7⟩, hp⟩ : ∃ p, p = GB.parse raw := ⟨_, rfl⟩
      rw [← hp] at h9 h10 hrd
      clear hp
      obtain ⟨rfl, rfl⟩ : u7 = () ∧ v7 = () := ⟨rfl, rfl⟩
      have HP := Lib.hid h10
      clear h10
      go_wp2_with fail
      refine hrd.mono ?_
      clear hrd
      rintro e w6 ⟨A6, c6, B6, d6, rfl, hr6, hb6, _, _, _, hbx⟩
      (replace hR := keep hbx hR; replace hB := hB.trans (hbx.mono hB.size); clear hbx)
      dsimp only at hr6 hb6 ⊢
      go_wp2_with (first
        | (show wpList _ _ _ ((⟨none, _, _, _, _, _⟩ : Oper) :: _) _ _; refine wpList_store_blk (o := ⟨none, _, _, _, _, _⟩) (Blk.new w6 45 zeroGB) (by rfl) _ _ _ (by rfl) (by rfl) (#[.int .i64 k7, .int .i64 a7, .int .i64 s7, .slice A6 l7.length c6, .slice B6 m7.length d6]) (by rfl) (sizeGB) (by rfl) (by rfl) (by simp [Value.oneCell']) ?_; intro w7 hy hu; have hbx := ((Below.refl w6.heap.size w6).alloc (Nat.le_refl _) (.cells zeroGB 45)).upd hu (Nat.le_refl _); (replace hR := keep hbx hR; replace hr6 := keep hbx hr6; replace hb6 := keep hbx hb6; replace hB := hB.trans (hbx.mono hB.size)); clear hbx hu)
        | (show wpList _ _ _ ((⟨some 62, _, _, _, _, _⟩ : Oper) :: _) _ _; refine wpList_load_blk (o := ⟨some 62, _, _, _, _, _⟩) (hy) (by rfl) _ _ (by rfl) (by rfl) _ Try.underlying45 (by rfl) (sizeGB) (by rfl) ?_)
        | fail)
      refine (bytes_ok k7 a7 s7 A6 B6 c6 d6 l7 m7 h9 w7 hr6 hb6).mono ?_
      have hl8 : raw.length = 1024 := by
        rw [← HP.out]; obtain ⟨h1, h2⟩ := GB.lens h9; exact GB.bytes_length _ h1 h2
      have HL8 := Lib.hid hl8
      clear h9 hy hl8
      rintro e w8 ⟨g8, rfl, _, hg8, hbx⟩
      (replace hR := keep hbx hR; replace hB := hB.trans (hbx.mono hB.size); clear hbx hr6 hb6)
      rw [HP.out] at hg8
      go_wp2_with fail
      refine (sameBytes_any (some ⟨g8, 0, none⟩) R _ _ 1024 rc raw raw HL8.out.symm rfl w8 hg8.bytes hR).mono ?_
      rintro e w9 ⟨rfl, rfl⟩
      rw [decide_eq_true rfl]
      go_wp2
      go_ret
      exact ⟨rfl, hB⟩
  · refine (bytes_ok k a s A B c d l m hok w1 hr hb).mono ?_
    rintro e w2 ⟨g, rfl, hge, hg, hbx⟩
    (replace hR := keep hbx hR; replace hx := keep hbx hx; replace hr := keep hbx hr; replace hb := keep hbx hb; replace hB := hB.trans (hbx.mono hB.size); clear hbx hge)
    have hrd := read_any (some ⟨g, 0, none⟩) 1024 1024 (GB.bytes (k, (a, s, ()), l, m, ())) (by obtain ⟨h1, h2⟩ := GB.lens hok; rw [GB.bytes_length _ h1 h2]) (by omega) (by omega) w2 hg.bytes
    rw [GB.read_bytes _ hok] at hrd
    clear hok
    go_wp2_with fail
    refine hrd.mono ?_
    clear hrd
    rintro e w3 ⟨A3, c3, B3, d3, rfl, hr3, hb3, _, _, _, hbx⟩
    (replace hR := keep hbx hR; replace hx := keep hbx hx; replace hr := keep hbx hr; replace hb := keep hbx hb; replace hB := hB.trans (hbx.mono hB.size); clear hbx hg)
    dsimp only at hr3 hb3 ⊢
    go_wp2_with (first
      | (show wpList _ _ _ ((⟨some 36, _, _, _, _, _⟩ : Oper) :: _) _ _; fail)
      | (show wpList _ _ _ ((⟨none, _, _, _, _, _⟩ : Oper) :: _) _ _; refine wpList_store_blk (o := ⟨none, _, _, _, _, _⟩) (Blk.new w3 45 zeroGB) (by rfl) _ _ _ (by rfl) (by rfl) (#[.int .i64 k, .int .i64 a, .int .i64 s, .slice A3 l.length c3, .slice B3 m.length d3]) (by rfl) (sizeGB) (by rfl) (by rfl) (by simp [Value.oneCell']) ?_; intro w4 hy hu; have hbx := ((Below.refl w3.heap.size w3).alloc (Nat.le_refl _) (.cells zeroGB 45)).upd hu (Nat.le_refl _); (replace hR := keep hbx hR; replace hx := keep hbx hx; replace hr := keep hbx hr; replace hb := keep hbx hb; replace hr3 := keep hbx hr3; replace hb3 := keep hbx hb3; replace hB := hB.trans (hbx.mono hB.size)); clear hbx hu)
      | (show wpList _ _ _ ((⟨some 47, _, _, _, _, _⟩ : Oper) :: _) _ _; refine wpList_want (by rfl) ?_; refine wpList_load_blk (o := ⟨some 47, _, _, _, _, _⟩) (hy) (by rfl) _ _ (by rfl) (by rfl) _ Try.underlying45 (by rfl) (sizeGB) (by rfl) ?_)
      | (show wpList _ _ _ ((⟨some 48, _, _, _, _, _⟩ : Oper) :: _) _ _; refine wpList_want (by rfl) ?_; refine wpList_load_blk (o := ⟨some 48, _, _, _, _, _⟩) (hx) (by rfl) _ _ (by rfl) (by rfl) _ Try.underlying45 (by rfl) (sizeGB) (by rfl) ?_)
      | fail)
    refine (sameBlock_any k k a a s s l l m m A3 A B3 B c3 c d3 d w4 ⟨hr3, hb3, by simp; omega, by simp; omega⟩ ⟨hr, hb, by simp; omega, by simp; omega⟩).mono ?_
    rintro e w5 ⟨rfl, hbx⟩
    rw [decide_eq_true ⟨rfl, ⟨rfl, rfl⟩, rfl, rfl⟩]
    (replace hR := keep hbx hR; replace hB := hB.trans (hbx.mono hB.size); clear hbx hx hr hb hr3 hb3 hy)
    rcases hq : GB.read raw with ⟨code, p⟩
    have hcs := GB.read_cases raw
    rw [hq] at hcs
    have hrd := read_any R raw.length rc raw rfl hrc hrc2 w5 hR
    rw [hq] at hrd
    clear hq
    rcases hcs with ⟨h8, h9⟩ | ⟨h8, h9⟩ | ⟨h8, h9, h10⟩
    · dsimp only at h8 h9
      subst h8 h9
      go_wp2_with fail
      refine hrd.mono ?_
      clear hrd
      rintro e w6 ⟨A6, c6, B6, d6, rfl, hr6, hb6, _, _, _, hbx⟩
      (replace hR := keep hbx hR; replace hB := hB.trans (hbx.mono hB.size); clear hbx)
      go_wp2
      go_ret
      exact ⟨rfl, hB.alloc hB.size _⟩
    · dsimp only at h8 h9
      subst h8 h9
      go_wp2_with fail
      refine hrd.mono ?_
      clear hrd
      rintro e w6 ⟨A6, c6, B6, d6, rfl, hr6, hb6, _, _, _, hbx⟩
      (replace hR := keep hbx hR; replace hB := hB.trans (hbx.mono hB.size); clear hbx)
      go_wp2
      go_ret
      exact ⟨rfl, hB.alloc hB.size _⟩
    · obtain ⟨rfl, rfl⟩ := Prod.mk.inj h8
      clear h8
      obtain ⟨⟨k7, ⟨a7, s7, u7⟩, l7, m7, v7⟩, hp⟩ : ∃ p, p = GB.parse raw := ⟨_, rfl⟩
      rw [← hp] at h9 h10 hrd
      clear hp
      obtain ⟨rfl, rfl⟩ : u7 = () ∧ v7 = () := ⟨rfl, rfl⟩
      have HP := Lib.hid h10
      clear h10
      go_wp2_with fail
      refine hrd.mono ?_
      clear hrd
      rintro e w6 ⟨A6, c6, B6, d6, rfl, hr6, hb6, _, _, _, hbx⟩
      (replace hR := keep hbx hR; replace hB := hB.trans (hbx.mono hB.size); clear hbx)
      dsimp only at hr6 hb6 ⊢
      go_wp2_with (first
        | (show wpList _ _ _ ((⟨none, _, _, _, _, _⟩ : Oper) :: _) _ _; refine wpList_store_blk (o := ⟨none, _, _, _, _, _⟩) (Blk.new w6 45 zeroGB) (by rfl) _ _ _ (by rfl) (by rfl) (#[.int .i64 k7, .int .i64 a7, .int .i64 s7, .slice A6 l7.length c6, .slice B6 m7.length d6]) (by rfl) (sizeGB) (by rfl) (by rfl) (by simp [Value.oneCell']) ?_; intro w7 hy hu; have hbx := ((Below.refl w6.heap.size w6).alloc (Nat.le_refl _) (.cells zeroGB 45)).upd hu (Nat.le_refl _); (replace hR := keep hbx hR; replace hr6 := keep hbx hr6; replace hb6 := keep hbx hb6; replace hB := hB.trans (hbx.mono hB.size)); clear hbx hu)
        | (show wpList _ _ _ ((⟨some 62, _, _, _, _, _⟩ : Oper) :: _) _ _; refine wpList_load_blk (o := ⟨some 62, _, _, _, _, _⟩) (hy) (by rfl) _ _ (by rfl) (by rfl) _ Try.underlying45 (by rfl) (sizeGB) (by rfl) ?_)
        | fail)
      refine (bytes_ok k7 a7 s7 A6 B6 c6 d6 l7 m7 h9 w7 hr6 hb6).mono ?_
      have hl8 : raw.length = 1024 := by
        rw [← HP.out]; obtain ⟨h1, h2⟩ := GB.lens h9; exact GB.bytes_length _ h1 h2
      have HL8 := Lib.hid hl8
      clear h9 hy hl8
      rintro e w8 ⟨g8, rfl, _, hg8, hbx⟩
      (replace hR := keep hbx hR; replace hB := hB.trans (hbx.mono hB.size); clear hbx hr6 hb6)
      rw [HP.out] at hg8
      go_wp2_with fail
      refine (sameBytes_any (some ⟨g8, 0, none⟩) R _ _ 1024 rc raw raw HL8.out.symm rfl w8 hg8.bytes hR).mono ?_
      rintro e w9 ⟨rfl, rfl⟩
      rw [decide_eq_true rfl]
      go_wp2
      go_ret
      exact ⟨rfl, hB⟩
end Go.Proofs.Ytfpcldnefpmgcaa
