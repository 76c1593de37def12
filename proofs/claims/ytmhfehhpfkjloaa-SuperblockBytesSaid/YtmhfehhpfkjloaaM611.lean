/- A superblock's bytes as a copy's: the program's laid. Conditions: its heads can be read, and are at most 32. -/
import Derived.Test.YtmhfehhpfkjloaaM610
namespace Go.Proofs.Ytmhfehhpfkjloaa
open Go.RowKit
def eleven (s : SpT) : List Int := [s.1 0, s.1 1, s.1 2, s.1 3, s.1 4, s.1 5, s.1 6, s.1 7, s.1 8, if s.2.1 then 1 else 0, (s.2.2.length : Int)]
def pairs (l : List (Int × Int)) : List Int := l.flatMap fun h => [h.1, h.2]
theorem pairs_snoc (l : List (Int × Int)) (i : Nat) (h : i < l.length) : pairs (l.take (i + 1)) = pairs (l.take i) ++ [l[i].1, l[i].2] := by
  unfold pairs
  rw [List.take_succ_eq_append_getElem h, List.flatMap_append]; simp
theorem infoInt : (Try.prog.info? 3).map (fun i => (i.zero, i.size, i.bytes)) = some (some (.int .i64 0), 1, 8) := by kernel_rfl
theorem ownI_blk {w : World} {e : TypeId} {base g : Nat} {l : List Int} (h : Blk w g e (l.map iv).toArray) (hb : base ≤ g) (hm : l.length ≤ maxLen) (n : Nat) (hn : n = l.length) : OwnI e w base (.slice (some ⟨g, 0, none⟩) n n) l [] := by
  subst hn
  exact .inr ⟨g, l.length, rfl, hb, by simpa using h, Nat.le_refl _, hm, by simp, by simp⟩
/-- While the numbers are gathered. -/
def NumRelS (w : World) (s : SpT) (v3 v42 : Value) (wr : World) : Prop := ∃ (i : Nat) (sp : List Int), i ≤ s.2.2.length ∧ v42 = .int .i64 (i : Int) ∧ OwnI 3 wr w.heap.size v3 (eleven s ++ pairs (s.2.2.take i)) sp ∧ Below w.heap.size w wr
theorem nums_small {s : SpT} (h : Sp.ok s = true) : ∀ x ∈ Sp.nums s, ∃ m : Nat, x = (m : Int) ∧ m ≤ 1073741824 := by
  obtain ⟨⟨h0, hn, h7, h7', h1, h12, h2⟩, hl, hh⟩ := Sp.ok_spec h
  have e : ∀ x : Int, 0 ≤ x → x ≤ 1073741824 → ∃ m : Nat, x = (m : Int) ∧ m ≤ 1073741824 := fun x a b => ⟨x.toNat, by omega, by omega⟩
  intro x hx
  unfold Sp.nums at hx
  rcases List.mem_append.1 hx with hx | hx
  · simp only [List.mem_cons, List.not_mem_nil, or_false] at hx
    rcases hx with rfl | rfl | rfl | rfl | rfl | rfl | rfl | rfl | rfl | rfl | rfl
    · have := hn 0 (by simp); exact e _ (by omega) (by omega)
    · exact e _ (by omega) (by omega)
    · exact e _ (by omega) (by omega)
    · have := hn 3 (by simp); exact e _ (by omega) (by omega)
    · have := hn 4 (by simp); exact e _ (by omega) (by omega)
    · have := hn 5 (by simp); exact e _ (by omega) (by omega)
    · have := hn 6 (by simp); exact e _ (by omega) (by omega)
    · exact e _ (by omega) (by omega)
    · have := hn 8 (by simp); exact e _ (by omega) (by omega)
    · split <;> exact e _ (by omega) (by omega)
    · exact e _ (by omega) (by omega)
  · obtain ⟨y, hy, hx⟩ := List.mem_flatMap.1 hx
    have := hh y hy
    simp only [List.mem_cons, List.not_mem_nil, or_false] at hx
    rcases hx with rfl | rfl <;> exact e _ (by omega) (by omega)
def raw0 : Array Value := arr 512 fun _ => .int .u8 0
theorem infoRaw : (Try.prog.info? 94).map (fun i => (i.zero, i.size)) = some (some (.agg raw0), 512) := by kernel_rfl
theorem sizeRaw : (Try.prog.info? 94).map (·.size) = some 512 := by kernel_rfl
theorem zeroRaw (w : World) : (zeroValue 94).run Try.prog w = .ok (.agg raw0) w := (zero_of_info infoRaw).1 w
theorem raw0_list : raw0 = ((List.replicate 512 (0 : UInt8)).map u8v).toArray := by
  rw [List.map_replicate]
  apply Array.ext_getElem?; intro i
  unfold raw0
  rw [arr_get, List.getElem?_toArray, List.getElem?_replicate]
  rfl
/-- While the numbers are laid; while the bytes of one are. -/
def LaRel (w : World) (g : Nat) (l : List Int) (v : Value) (wr : World) : Prop := ∃ j : Nat, j ≤ l.length ∧ v = .int .i64 (j : Int) ∧ Blk wr g 94 ((rawAt l j 0).map u8v).toArray ∧ Below w.heap.size w wr
def LbRel (w : World) (g : Nat) (l : List Int) (j : Nat) (v : Value) (wr : World) : Prop := ∃ k : Nat, k ≤ 4 ∧ v = .int .i64 (k : Int) ∧ Blk wr g 94 ((rawAt l j k).map u8v).toArray ∧ Below w.heap.size w wr
theorem la_step {w5 wr : World} {gb j k m : Nat} {l : List Int} (hk : k < 4) (hj : j < l.length) (h75 : l.length ≤ 75) (hgd : l.getD j 0 = (m : Int)) (hb : Blk wr gb 94 ((rawAt l j k).map u8v).toArray) (hB : Below w5.heap.size w5 wr) (hgb : w5.heap.size ≤ gb) (v : Int) (hv : v = iu8 ((le4 m).getD k 0)) :
    LbRel w5 gb l j (.int .i64 ((k + 1 : Nat) : Int)) (wr.setCell ⟨gb, 16 + 4 * j + k, none⟩ (.int .u8 v)) := by
  refine ⟨k + 1, by omega, rfl, ?_, hB.upd ((Upd.refl gb wr).set (16 + 4 * j + k) _) hgb⟩
  subst hv
  have h1 := (hb.set_ (16 + 4 * j + k) (.int .u8 (iu8 ((le4 m).getD k 0)))).sub (cell_set (L := rawAt l j k) ((le4 m).getD k 0))
  have h2 := rawAt_set l j k (by omega) hk (by omega)
  have e : ∀ x, x = m → ∀ h : k < (le4 x).length, (le4 x)[k]'h = (le4 m).getD k 0 := by
    rintro x rfl h
    rw [List.getD_eq_getElem?_getD, List.getElem?_eq_getElem h]; rfl
  rw [e _ (by rw [hgd]; rfl)] at h2
  rw [h2] at h1
  exact h1
set_option maxRecDepth 100000 in
set_option maxHeartbeats 16000000 in
theorem spLaid_any (f : HdF) (fe : Bool) (A : Option Addr) (n c : Nat) (hs : List (Int × Int)) (w : World) (hn : n = hs.length) (hok : Sp.ok (f, fe, hs) = true) (hh : Heads w A hs) :
    Calls Try.prog 57 #[.agg (spc f fe (.slice A n c))] w fun e w' => e = .returned (.agg ((Sp.bytes (f, fe, hs)).map u8v).toArray) ∧ Below w.heap.size w w' := by
  subst hn
  have hlen : hs.length ≤ 32 := (Sp.ok_spec hok).2.1
  have hnums := nums_small hok
  have HNU := Lib.hid hnums
  clear hok hnums
  have hg := Blk.new w 26 (spc f fe (.slice A hs.length c))
  have hB := (Below.refl w.heap.size w).alloc (Nat.le_refl _) (.cells (spc f fe (.slice A hs.length c)) 26)
  have hg2 := hg.alloc (.cells raw0 94)
  obtain ⟨c0, c1, c2, c3, c4, c5, c6, c7, c8, c9, c10⟩ := sp_cells hg2
  have zr := zeroRaw
  have HH := Lib.hid (And.intro hg (And.intro hB hh))
  clear hg hB hg2 hh
  unfold spc at c0 c1 c2 c3 c4 c5 c6 c7 c8 c9 c10 HH ⊢
  have hs1 : (w.alloc (.cells #[.int .i64 (f 0), .int .i64 (f 1), .int .i64 (f 2), .int .i64 (f 3), .int .i64 (f 4), .int .i64 (f 5), .int .i64 (f 6), .int .i64 (f 7), .int .i64 (f 8), .bool fe, .slice A hs.length c] 26)).heap.size = w.heap.size + 1 := World.size_alloc ..
  cases fe
  case' false =>
    go_enter Try.func57, Try.ntmps57
    go_wp2_with fail
    generalize w.alloc (.cells #[.int .i64 (f 0), .int .i64 (f 1), .int .i64 (f 2), .int .i64 (f 3), .int .i64 (f 4), .int .i64 (f 5), .int .i64 (f 6), .int .i64 (f 7), .int .i64 (f 8), .bool false, .slice A hs.length c] 26) = w1 at HH hs1 c0 c1 c2 c3 c4 c5 c6 c7 c8 c9 c10 ⊢
    clear c0 c1 c2 c3 c4 c5 c6 c7 c8 c9 c10
    have hI := Blk.new' (w1.alloc (.cells raw0 94)) 3 ((eleven (f, false, hs)).map iv).toArray (n := w.heap.size + 1 + 1) (by rw [World.size_alloc, hs1])
    have hB3 := (Below.refl (w1.alloc (.cells raw0 94)).heap.size (w1.alloc (.cells raw0 94))).alloc (Nat.le_refl _) (.cells ((eleven (f, false, hs)).map iv).toArray 3)
    have hs2 : (w1.alloc (.cells raw0 94)).heap.size = w.heap.size + 1 + 1 := by rw [World.size_alloc, hs1]
    have hB2 := (Below.refl w1.heap.size w1).alloc (Nat.le_refl _) (.cells raw0 94)
    have hr2 := Blk.new' w1 94 raw0 hs1.symm
    rw [show (w1.alloc (.cells raw0 94)).alloc (.cells #[.int .i64 (f 0), .int .i64 (f 1), .int .i64 (f 2), .int .i64 (f 3), .int .i64 (f 4), .int .i64 (f 5), .int .i64 (f 6), .int .i64 (f 7), .int .i64 (f 8), .int .i64 0, .int .i64 (hs.length : Int)] 3) = (w1.alloc (.cells raw0 94)).alloc (.cells ((eleven (f, false, hs)).map iv).toArray 3) from rfl]
    generalize w1.alloc (.cells raw0 94) = w2 at hI hB3 hs2 hB2 hr2 ⊢
    generalize w2.alloc (.cells ((eleven (f, false, hs)).map iv).toArray 3) = w3 at hI hB3 ⊢
    have hO := ownI_blk hI (base := w2.heap.size) (by rw [hs2]; exact Nat.le_refl _) (by show 11 ≤ maxLen; decide) 11 rfl
    have hS : NumRelS w2 (f, false, hs) (.slice (some ⟨w.heap.size + 1 + 1, 0, none⟩) 11 11) (.int .i64 0) w3 := ⟨0, [], Nat.zero_le _, rfl, by simpa [pairs] using hO, hB3⟩
    have HW := Lib.hid (And.intro (HH.out.2.1.trans (hB2.mono HH.out.2.1.size)) (And.intro hr2 ((HH.out.2.2.below HH.out.2.1).below hB2)))
    clear hI hB3 hB2 hr2 hO
    go_loopw [3, 42] (fun v3 v42 wr => NumRelS w2 (f, false, hs) v3 v42 wr) (fun _ v _ => hs.length - (intOf v).toNat)
    case atStart => exact hS
    case round =>
      clear hS
      obtain ⟨i, sp, hi, rfl, hown, hBr⟩ := hrel
      by_cases hlt : i < hs.length
      · have hlt : i < hs.length := hlt
        obtain ⟨b, off, rfl, hc⟩ := (HW.out.2.2.below hBr) (by omega)
        obtain ⟨d1, d2⟩ := hc i hlt
        obtain ⟨x, y, hxy⟩ : ∃ x y, hs[i] = (x, y) := ⟨_, _, rfl⟩
        rw [hxy] at d1 d2
        rw [Nat.mul_comm] at d1
        rw [show off + (2 * i + 1) = off + i * 2 + 1 by omega] at d2
        have HXY := Lib.hid hxy
        clear hc hxy
        have hib : i < 65536 := by omega
        have hbz := (Below.refl wr.heap.size wr).alloc (Nat.le_refl _) (.cells #[.int .i64 x, .int .i64 y] 102)
        have hsz : (wr.alloc (.cells #[.int .i64 x, .int .i64 y] 102)).heap.size = wr.heap.size + 1 := World.size_alloc ..
        have hbl := Blk.new' (wr.alloc (.cells #[.int .i64 x, .int .i64 y] 102)) 3 #[.int .i64 x, .int .i64 y] hsz.symm
        have hb2 := hBr.trans ((hbz.alloc (by rw [hsz]; omega) (.cells #[.int .i64 x, .int .i64 y] 3)).mono hBr.size)
        have hown2 : OwnI 3 ((wr.alloc (.cells #[.int .i64 x, .int .i64 y] 102)).alloc (.cells #[.int .i64 x, .int .i64 y] 3)) w2.heap.size u3 (eleven (f, false, hs) ++ pairs (hs.take i)) sp := (OwnsC.alloc hown _).alloc _
        have hrd : Reads ((wr.alloc (.cells #[.int .i64 x, .int .i64 y] 102)).alloc (.cells #[.int .i64 x, .int .i64 y] 3)) (some ⟨wr.heap.size + 1, 0, none⟩) ([x, y].map iv) := fun _ => ⟨wr.heap.size + 1, 0, rfl, fun j u hu => by rw [Nat.zero_add]; exact hbl.at_ j (by simpa [iv] using hu)⟩
        clear hsz hbz hbl
        go_wp2_with (first
          | ((with_reducible show wpList _ _ _ ((⟨some 45, _, _, _, _, _⟩ : Oper) :: _) _ _); refine wpList_load_mid (o := ⟨some 45, _, _, _, _, _⟩) (range2 (b := b) (off := off + i * 2) (u := .int .i64 x) (v := .int .i64 y) (exact d1) (exact d2)) (by rfl) _ _ (by rfl) (by rfl) _ Try.underlying102 (by rfl) sizeHead (by rfl) ?_)
          | ((with_reducible show wpList _ _ _ ((⟨some 52, _, _, _, _, _⟩ : Oper) :: _) _ _); refine wpList_append_ints (o := ⟨some 52, _, _, _, _, _⟩) (by rfl) _ _ _ (by rfl) w2.heap.size _ Try.underlying77 infoInt _ _ _ (by rfl) hown2 (some ⟨wr.heap.size + 1, 0, none⟩) 2 [x, y] (by rfl) hrd (by have := pairs_length (hs.take i); have h2 := List.length_take_le i hs; unfold pairs eleven; rw [List.length_append]; simp only [List.length_cons, List.length_nil]; omega) hb2.size ?_; intro v9 w9 sp9 ho9 hg9 _ _)
          | fail)
        have hB9 := grown_below hb2 hg9 hb2.size (fun k hk => (OwnsC.lt hown k hk).1)
        refine ⟨⟨i + 1, sp9, hlt, by go_num, ?_, hB9⟩, by simp [intOf]; omega⟩
        show OwnI 3 w9 w2.heap.size v9 (eleven (f, false, hs) ++ pairs (hs.take (i + 1))) sp9
        rw [pairs_snoc hs i hlt, HXY.out, ← List.append_assoc]
        exact ho9
      · obtain rfl : i = hs.length := Nat.le_antisymm hi (Nat.le_of_not_lt hlt)
        have hown3 : OwnI 3 wr w2.heap.size u3 (Sp.nums (f, false, hs)) sp := by
          have h := hown
          rw [show hs.take (f, false, hs).2.2.length = hs from List.take_length] at h
          exact h
        have hnl : (Sp.nums (f, false, hs)).length ≤ 75 := by rw [Sp.nums_length]; show 11 + 2 * hs.length ≤ 75; omega
        obtain ⟨l, hln⟩ : ∃ l, l = Sp.nums (f, false, hs) := ⟨_, rfl⟩
        rw [← hln] at hown3 hnl
        have HLN := Lib.hid hln
        clear hln
        obtain ⟨A3, c3, rfl, hnc, hmax, hr3, -⟩ := OwnsC.reads hown3
        clear hown hi hlt
        have HA3 := Lib.hid (And.intro hr3 hBr)
        obtain ⟨w5, hw5⟩ : ∃ w5, w5 = wr := ⟨_, rfl⟩
        subst hw5
        clear hown3 hnc hmax hr3
        go_wp2_with fail
        have hz6 := (Blk.new w5 94 raw0).sub (cs' := ((rawAt l 0 0).map u8v).toArray) (by rw [rawAt_zero l]; exact raw0_list)
        have hb6 := (Below.refl w5.heap.size w5).alloc (Nat.le_refl _) (.cells raw0 94)
        have hS6 : LaRel w5 w5.heap.size l (.int .i64 0) (w5.alloc (.cells raw0 94)) := ⟨0, Nat.zero_le _, rfl, hz6, hb6⟩
        clear hz6 hb6
        generalize w5.alloc (.cells raw0 94) = w6 at hS6 ⊢
        obtain ⟨gb, hgb⟩ : ∃ gb, gb = w5.heap.size := ⟨_, rfl⟩
        rw [← hgb] at hS6 ⊢
        have HGB := Lib.hid hgb
        clear hgb
        go_loopw [56] (fun v wv => LaRel w5 gb l v wv) (fun v _ => l.length - (intOf v).toNat)
        case atStart => exact hS6
        case round =>
          clear hS6
          obtain ⟨j, hj, rfl, hbj, hBj⟩ := hrel
          by_cases hlt : j < l.length
          case neg =>
            obtain rfl : j = l.length := by omega
            have hend : rawAt l l.length 0 = List.replicate 16 0 ++ Sp.rest (f, false, hs) := by rw [HLN.out]; exact rawAt_end _
            rw [hend] at hbj
            have hrl : (Sp.rest (f, false, hs)).length = 496 := Sp.rest_length _ hlen
            have hby : Bytes wr (some ⟨gb, 16, none⟩) (Sp.rest (f, false, hs)) := by
              have h := hbj.bytes.drop (k := 16) (cap := 512) (.inl (by omega))
              rw [if_neg (by decide), List.drop_left' (List.length_replicate ..)] at h
              simpa [Addr.add_lit] using h
            have hSum := sum_any (some ⟨gb, 16, none⟩) 496 (Sp.rest (f, false, hs)) (by omega) (by omega) wr hby
            rw [hrl] at hSum
            have hgl := hbj.lt
            have HJ := Lib.hid (And.intro hbj (And.intro hBj (And.intro hSum (And.intro hrl hgl))))
            clear hbj hBj hby hSum hend hrl hgl hj hlt
            go_wp2_with fail
            refine HJ.out.2.2.1.mono ?_
            rintro e w7 ⟨rfl, hb7⟩
            have a16 := alloc16
            obtain ⟨S, hS⟩ : ∃ S, S = Sha.sum (Sp.rest (f, false, hs)) := ⟨_, rfl⟩
            rw [← hS]
            have hsl : S.length = 16 := by rw [hS]; exact Sha.sum_len _
            have HSL := Lib.hid (And.intro hS hsl)
            have hb57 := HJ.out.2.1.trans (hb7.mono HJ.out.2.1.size)
            have hb17 := HW.out.1.trans ((HA3.out.2.trans (hb57.mono HA3.out.2.size)).mono HW.out.1.size)
            have hres : Blk w7 (w.heap.size + 1) 94 raw0 := (HW.out.2.1.below HA3.out.2 HW.out.2.1.lt).below hb57 (HW.out.2.1.below HA3.out.2 HW.out.2.1.lt).lt
            have hgb7 := HJ.out.1.below hb7 HJ.out.1.lt
            have hne : gb ≠ w.heap.size + 1 := by have h1 := (HW.out.2.1.below HA3.out.2 HW.out.2.1.lt).lt; have h2 := HGB.out; omega
            have H7 := Lib.hid (And.intro hb17 (And.intro hres (And.intro hgb7 hne)))
            clear hS hsl hb57 hb17 hres hgb7 hne hb7
            go_wp2_with (first
              | ((with_reducible show wpList _ _ _ ((⟨none, _, _, _, _, _⟩ : Oper) :: _) _ _); refine wpList_store_blk (o := ⟨none, _, _, _, _, _⟩) ((Blk.new w7 105 zero16)) (by rfl) _ _ _ (by rfl) (by rfl) ((S.map u8v).toArray) (by rfl) (size16) (arr_size _ _) (by simp [HSL.out.2]) (u8_all _) ?_; intro w8 h8 hu8; have HN8 := Lib.hid (And.intro ((Near.below ((Below.refl w7.heap.size w7).alloc (Nat.le_refl _) (.cells zero16 105))).new (X := []) hu8 (Nat.le_refl _)) h8); clear h8 hu8)
              | fail)
            have hC8 := (Near.refl [gb] w8).drew
            simp only [Act.put]
            refine wp_region_tree (Near [gb] w8) [] (PlanT.takes [0, 1] (.opt 2 .done .no)) (by kernel_rfl) (by kernel_rfl) (hC8) ?_
            refine wpTree_pure _ _ _ (by rfl) (by rfl) ?_
            dsimp only [List.filterMap, List.getElem?_cons_zero, List.getElem?_cons_succ]
            repeat (go_big_quiet_step (fail))
            refine wpQuiet_nil ?_
            refine wpTree_one _ rfl ?_
            refine wpList_copy_at (by rfl) _ _ _ _ (by rfl) _ Try.underlying43 size1 gb 0 512 512 (some ⟨w7.heap.size, 0, none⟩) 16 16 (by rfl) (by rfl) (List.replicate 16 0 ++ Sp.rest (f, false, hs)) S 94 (H7.out.2.2.1.near HN8.out.1 (by simp)).drew HSL.out.2 HN8.out.2.drew.bytes (by rw [List.length_append, List.length_replicate, HSL.out.2]; omega) (by rw [HSL.out.2]; omega) ?_
            intro w9 h9 hu9
            have hC9 : Near [gb] w8 w9 := hC8.trans (Near.upd hu9 (List.mem_singleton.2 rfl))
            have e9 : ((List.replicate 16 0 ++ Sp.rest (f, false, hs)).take 0 ++ (S ++ (List.replicate 16 0 ++ Sp.rest (f, false, hs)).drop (0 + S.length))) = Sp.bytes (f, false, hs) := by
              rw [HSL.out.2, List.take_zero, List.nil_append, Nat.zero_add, List.drop_left' (List.length_replicate ..), HSL.out.1]
              rfl
            rw [e9] at h9
            have hres9 := (H7.out.2.1.near HN8.out.1 (by simp)).near hC9 (by simp; exact fun e => H7.out.2.2.2 e.symm)
            have hbl : (Sp.bytes (f, false, hs)).length = 512 := Sp.bytes_length _ hlen
            have hw9 : Below w.heap.size w w9 := below_near (below_near H7.out.1 HN8.out.1 (fun x hx => by cases hx) H7.out.1.size) hC9 (fun x hx => by rw [List.mem_singleton.1 hx, HGB.out]; have h1 := HW.out.1.size; have h2 := HA3.out.2.size; omega) (Nat.le_trans H7.out.1.size HN8.out.1.size)
            have H9 := Lib.hid (And.intro hw9 hbl)
            clear hw9 e9 hu9 hC8
            go_wp2_with fail
            refine TreeQ.in_ hC9 ?_
            refine wpTree_done ?_
            clear hC9
            go_wp2_with (first
              | ((with_reducible show wpList _ _ _ ((⟨some 82, _, _, _, _, _⟩ : Oper) :: _) _ _); refine wpList_load_blk (o := ⟨some 82, _, _, _, _, _⟩) (h9) (by rfl) _ _ (by rfl) (by rfl) _ Try.underlying94 (by rfl) (sizeRaw) (by rw [List.size_toArray, List.length_map]; exact H9.out.2) ?_)
              | ((with_reducible show wpList _ _ _ ((⟨none, _, _, _, _, _⟩ : Oper) :: _) _ _); refine wpList_store_blk (o := ⟨none, _, _, _, _, _⟩) (hres9) (by rfl) _ _ _ (by rfl) (by rfl) (((Sp.bytes (f, false, hs)).map u8v).toArray) (by rfl) (sizeRaw) (arr_size _ _) (by rw [List.size_toArray, List.length_map]; exact H9.out.2) (u8_all _) ?_; intro w10 h10 hu10)
              | fail)
            have HB10 := Lib.hid (H9.out.1.upd hu10 (Nat.le_succ _))
            refine bodyPost_ret (results_cell_row (by rfl) _ _ _ _ _ _ _ (by rfl) h10 Try.underlying94 (by rfl) (sizeRaw.trans (by rw [List.size_toArray, List.length_map, H9.out.2]))) rfl ⟨rfl, HB10.out⟩
          obtain ⟨ab, ao, rfl, hac⟩ := (HA3.out.1.below hBj) (by intro e; have e2 := congrArg List.length e; rw [List.length_map, List.length_nil] at e2; omega)
          obtain ⟨m, hm, hm30⟩ := HNU.out l[j] (by rw [← HLN.out]; exact List.getElem_mem _)
          have dA := hac j (.int .i64 (m : Int)) (by rw [List.getElem?_map, List.getElem?_eq_getElem hlt, hm]; rfl)
          have hgd : l.getD j 0 = (m : Int) := by rw [List.getD_eq_getElem?_getD, List.getElem?_eq_getElem hlt, ← hm]; rfl
          have hSj := (show LbRel w5 gb l j (.int .i64 0) _ from ⟨0, by omega, rfl, hbj, hBj⟩)
          have HM := Lib.hid (And.intro hm30 hgd)
          clear hac hm hm30 hgd hbj hBj hj
          go_wp2_with fail
          clear dA
          go_loopw [61] (fun v wv => LbRel w5 gb l j v wv) (fun v _ => 4 - (intOf v).toNat)
          case atStart => exact hSj
          case round =>
            clear hSj
            obtain ⟨k, hk, rfl, hbk, hBk⟩ := hrel
            have hj75 : j < 75 := by omega
            have hk4 : k = 0 ∨ k = 1 ∨ k = 2 ∨ k = 3 ∨ k = 4 := by omega
            have hlen512 := rawAt_length l j k (by omega) hk (by omega)
            clear hk
            rcases hk4 with rfl | rfl | rfl | rfl | rfl
            · have HK := Lib.hid (And.intro hbk (And.intro hBk hlen512))
              obtain ⟨y, hy⟩ : ∃ y, (rawAt l j 0)[16 + 4 * j]? = some y := ⟨_, List.getElem?_eq_getElem (by omega)⟩
              have dn := hbk.at_ (16 + 4 * j) (v := .int .u8 (iu8 y)) (by rw [List.getElem?_toArray, List.getElem?_map, hy]; rfl)
              have fn := hbk.frozen (16 + 4 * j)
              clear hbk hBk hlen512 hy
              go_wp2
              go_roundw
              case rel => exact la_step (k := 0) (by omega) hlt hnl HM.out.2 HK.out.1 HK.out.2.1 (by rw [HGB.out]; exact Nat.le_refl _) _ (le4_v0 m)
              case measure => simp [intOf]
            · have HK := Lib.hid (And.intro hbk (And.intro hBk hlen512))
              obtain ⟨y, hy⟩ : ∃ y, (rawAt l j 1)[16 + 4 * j + 1]? = some y := ⟨_, List.getElem?_eq_getElem (by omega)⟩
              have dn := hbk.at_ (16 + 4 * j + 1) (v := .int .u8 (iu8 y)) (by rw [List.getElem?_toArray, List.getElem?_map, hy]; rfl)
              have fn := hbk.frozen (16 + 4 * j + 1)
              clear hbk hBk hlen512 hy
              go_wp2
              go_roundw
              case rel => exact la_step (k := 1) (by omega) hlt hnl HM.out.2 HK.out.1 HK.out.2.1 (by rw [HGB.out]; exact Nat.le_refl _) _ (le4_v1 m)
              case measure => simp [intOf]
            · have HK := Lib.hid (And.intro hbk (And.intro hBk hlen512))
              obtain ⟨y, hy⟩ : ∃ y, (rawAt l j 2)[16 + 4 * j + 2]? = some y := ⟨_, List.getElem?_eq_getElem (by omega)⟩
              have dn := hbk.at_ (16 + 4 * j + 2) (v := .int .u8 (iu8 y)) (by rw [List.getElem?_toArray, List.getElem?_map, hy]; rfl)
              have fn := hbk.frozen (16 + 4 * j + 2)
              clear hbk hBk hlen512 hy
              go_wp2
              go_roundw
              case rel => exact la_step (k := 2) (by omega) hlt hnl HM.out.2 HK.out.1 HK.out.2.1 (by rw [HGB.out]; exact Nat.le_refl _) _ (le4_v2 m)
              case measure => simp [intOf]
            · have HK := Lib.hid (And.intro hbk (And.intro hBk hlen512))
              obtain ⟨y, hy⟩ : ∃ y, (rawAt l j 3)[16 + 4 * j + 3]? = some y := ⟨_, List.getElem?_eq_getElem (by omega)⟩
              have dn := hbk.at_ (16 + 4 * j + 3) (v := .int .u8 (iu8 y)) (by rw [List.getElem?_toArray, List.getElem?_map, hy]; rfl)
              have fn := hbk.frozen (16 + 4 * j + 3)
              clear hbk hBk hlen512 hy
              go_wp2
              go_roundw
              case rel => exact la_step (k := 3) (by omega) hlt hnl HM.out.2 HK.out.1 HK.out.2.1 (by rw [HGB.out]; exact Nat.le_refl _) _ ((by have h := le4_v3 m (by have := HM.out; omega); rw [← h]; have := HM.out; omega))
              case measure => simp [intOf]
            · have HF := Lib.hid (show LaRel w5 gb l (.int .i64 ((j + 1 : Nat) : Int)) wr from ⟨j + 1, hlt, rfl, by rw [← rawAt_next l j hlt (by omega)]; exact hbk, hBk⟩)
              clear hbk hBk hlen512
              go_wp2
              go_roundw
              case rel => exact HF.out
              case measure => simp [intOf]; omega
  case' true =>
    go_enter Try.func57, Try.ntmps57
    go_wp2_with fail
    generalize w.alloc (.cells #[.int .i64 (f 0), .int .i64 (f 1), .int .i64 (f 2), .int .i64 (f 3), .int .i64 (f 4), .int .i64 (f 5), .int .i64 (f 6), .int .i64 (f 7), .int .i64 (f 8), .bool true, .slice A hs.length c] 26) = w1 at HH hs1 c0 c1 c2 c3 c4 c5 c6 c7 c8 c9 c10 ⊢
    clear c0 c1 c2 c3 c4 c5 c6 c7 c8 c9 c10
    have hI := Blk.new' (w1.alloc (.cells raw0 94)) 3 ((eleven (f, true, hs)).map iv).toArray (n := w.heap.size + 1 + 1) (by rw [World.size_alloc, hs1])
    have hB3 := (Below.refl (w1.alloc (.cells raw0 94)).heap.size (w1.alloc (.cells raw0 94))).alloc (Nat.le_refl _) (.cells ((eleven (f, true, hs)).map iv).toArray 3)
    have hs2 : (w1.alloc (.cells raw0 94)).heap.size = w.heap.size + 1 + 1 := by rw [World.size_alloc, hs1]
    have hB2 := (Below.refl w1.heap.size w1).alloc (Nat.le_refl _) (.cells raw0 94)
    have hr2 := Blk.new' w1 94 raw0 hs1.symm
    rw [show (w1.alloc (.cells raw0 94)).alloc (.cells #[.int .i64 (f 0), .int .i64 (f 1), .int .i64 (f 2), .int .i64 (f 3), .int .i64 (f 4), .int .i64 (f 5), .int .i64 (f 6), .int .i64 (f 7), .int .i64 (f 8), .int .i64 1, .int .i64 (hs.length : Int)] 3) = (w1.alloc (.cells raw0 94)).alloc (.cells ((eleven (f, true, hs)).map iv).toArray 3) from rfl]
    generalize w1.alloc (.cells raw0 94) = w2 at hI hB3 hs2 hB2 hr2 ⊢
    generalize w2.alloc (.cells ((eleven (f, true, hs)).map iv).toArray 3) = w3 at hI hB3 ⊢
    have hO := ownI_blk hI (base := w2.heap.size) (by rw [hs2]; exact Nat.le_refl _) (by show 11 ≤ maxLen; decide) 11 rfl
    have hS : NumRelS w2 (f, true, hs) (.slice (some ⟨w.heap.size + 1 + 1, 0, none⟩) 11 11) (.int .i64 0) w3 := ⟨0, [], Nat.zero_le _, rfl, by simpa [pairs] using hO, hB3⟩
    have HW := Lib.hid (And.intro (HH.out.2.1.trans (hB2.mono HH.out.2.1.size)) (And.intro hr2 ((HH.out.2.2.below HH.out.2.1).below hB2)))
    clear hI hB3 hB2 hr2 hO
    go_loopw [3, 42] (fun v3 v42 wr => NumRelS w2 (f, true, hs) v3 v42 wr) (fun _ v _ => hs.length - (intOf v).toNat)
    case atStart => exact hS
    case round =>
      clear hS
      obtain ⟨i, sp, hi, rfl, hown, hBr⟩ := hrel
      by_cases hlt : i < hs.length
      · have hlt : i < hs.length := hlt
        obtain ⟨b, off, rfl, hc⟩ := (HW.out.2.2.below hBr) (by omega)
        obtain ⟨d1, d2⟩ := hc i hlt
        obtain ⟨x, y, hxy⟩ : ∃ x y, hs[i] = (x, y) := ⟨_, _, rfl⟩
        rw [hxy] at d1 d2
        rw [Nat.mul_comm] at d1
        rw [show off + (2 * i + 1) = off + i * 2 + 1 by omega] at d2
        have HXY := Lib.hid hxy
        clear hc hxy
        have hib : i < 65536 := by omega
        have hbz := (Below.refl wr.heap.size wr).alloc (Nat.le_refl _) (.cells #[.int .i64 x, .int .i64 y] 102)
        have hsz : (wr.alloc (.cells #[.int .i64 x, .int .i64 y] 102)).heap.size = wr.heap.size + 1 := World.size_alloc ..
        have hbl := Blk.new' (wr.alloc (.cells #[.int .i64 x, .int .i64 y] 102)) 3 #[.int .i64 x, .int .i64 y] hsz.symm
        have hb2 := hBr.trans ((hbz.alloc (by rw [hsz]; omega) (.cells #[.int .i64 x, .int .i64 y] 3)).mono hBr.size)
        have hown2 : OwnI 3 ((wr.alloc (.cells #[.int .i64 x, .int .i64 y] 102)).alloc (.cells #[.int .i64 x, .int .i64 y] 3)) w2.heap.size u3 (eleven (f, true, hs) ++ pairs (hs.take i)) sp := (OwnsC.alloc hown _).alloc _
        have hrd : Reads ((wr.alloc (.cells #[.int .i64 x, .int .i64 y] 102)).alloc (.cells #[.int .i64 x, .int .i64 y] 3)) (some ⟨wr.heap.size + 1, 0, none⟩) ([x, y].map iv) := fun _ => ⟨wr.heap.size + 1, 0, rfl, fun j u hu => by rw [Nat.zero_add]; exact hbl.at_ j (by simpa [iv] using hu)⟩
        clear hsz hbz hbl
        go_wp2_with (first
          | ((with_reducible show wpList _ _ _ ((⟨some 45, _, _, _, _, _⟩ : Oper) :: _) _ _); refine wpList_load_mid (o := ⟨some 45, _, _, _, _, _⟩) (range2 (b := b) (off := off + i * 2) (u := .int .i64 x) (v := .int .i64 y) (exact d1) (exact d2)) (by rfl) _ _ (by rfl) (by rfl) _ Try.underlying102 (by rfl) sizeHead (by rfl) ?_)
          | ((with_reducible show wpList _ _ _ ((⟨some 52, _, _, _, _, _⟩ : Oper) :: _) _ _); refine wpList_append_ints (o := ⟨some 52, _, _, _, _, _⟩) (by rfl) _ _ _ (by rfl) w2.heap.size _ Try.underlying77 infoInt _ _ _ (by rfl) hown2 (some ⟨wr.heap.size + 1, 0, none⟩) 2 [x, y] (by rfl) hrd (by have := pairs_length (hs.take i); have h2 := List.length_take_le i hs; unfold pairs eleven; rw [List.length_append]; simp only [List.length_cons, List.length_nil]; omega) hb2.size ?_; intro v9 w9 sp9 ho9 hg9 _ _)
          | fail)
        have hB9 := grown_below hb2 hg9 hb2.size (fun k hk => (OwnsC.lt hown k hk).1)
        refine ⟨⟨i + 1, sp9, hlt, by go_num, ?_, hB9⟩, by simp [intOf]; omega⟩
        show OwnI 3 w9 w2.heap.size v9 (eleven (f, true, hs) ++ pairs (hs.take (i + 1))) sp9
        rw [pairs_snoc hs i hlt, HXY.out, ← List.append_assoc]
        exact ho9
      · obtain rfl : i = hs.length := Nat.le_antisymm hi (Nat.le_of_not_lt hlt)
        have hown3 : OwnI 3 wr w2.heap.size u3 (Sp.nums (f, true, hs)) sp := by
          have h := hown
          rw [show hs.take (f, true, hs).2.2.length = hs from List.take_length] at h
          exact h
        have hnl : (Sp.nums (f, true, hs)).length ≤ 75 := by rw [Sp.nums_length]; show 11 + 2 * hs.length ≤ 75; omega
        obtain ⟨l, hln⟩ : ∃ l, l = Sp.nums (f, true, hs) := ⟨_, rfl⟩
        rw [← hln] at hown3 hnl
        have HLN := Lib.hid hln
        clear hln
        obtain ⟨A3, c3, rfl, hnc, hmax, hr3, -⟩ := OwnsC.reads hown3
        clear hown hi hlt
        have HA3 := Lib.hid (And.intro hr3 hBr)
        obtain ⟨w5, hw5⟩ : ∃ w5, w5 = wr := ⟨_, rfl⟩
        subst hw5
        clear hown3 hnc hmax hr3
        go_wp2_with fail
        have hz6 := (Blk.new w5 94 raw0).sub (cs' := ((rawAt l 0 0).map u8v).toArray) (by rw [rawAt_zero l]; exact raw0_list)
        have hb6 := (Below.refl w5.heap.size w5).alloc (Nat.le_refl _) (.cells raw0 94)
        have hS6 : LaRel w5 w5.heap.size l (.int .i64 0) (w5.alloc (.cells raw0 94)) := ⟨0, Nat.zero_le _, rfl, hz6, hb6⟩
        clear hz6 hb6
        generalize w5.alloc (.cells raw0 94) = w6 at hS6 ⊢
        obtain ⟨gb, hgb⟩ : ∃ gb, gb = w5.heap.size := ⟨_, rfl⟩
        rw [← hgb] at hS6 ⊢
        have HGB := Lib.hid hgb
        clear hgb
        go_loopw [56] (fun v wv => LaRel w5 gb l v wv) (fun v _ => l.length - (intOf v).toNat)
        case atStart => exact hS6
        case round =>
          clear hS6
          obtain ⟨j, hj, rfl, hbj, hBj⟩ := hrel
          by_cases hlt : j < l.length
          case neg =>
            obtain rfl : j = l.length := by omega
            have hend : rawAt l l.length 0 = List.replicate 16 0 ++ Sp.rest (f, true, hs) := by rw [HLN.out]; exact rawAt_end _
            rw [hend] at hbj
            have hrl : (Sp.rest (f, true, hs)).length = 496 := Sp.rest_length _ hlen
            have hby : Bytes wr (some ⟨gb, 16, none⟩) (Sp.rest (f, true, hs)) := by
              have h := hbj.bytes.drop (k := 16) (cap := 512) (.inl (by omega))
              rw [if_neg (by decide), List.drop_left' (List.length_replicate ..)] at h
              simpa [Addr.add_lit] using h
            have hSum := sum_any (some ⟨gb, 16, none⟩) 496 (Sp.rest (f, true, hs)) (by omega) (by omega) wr hby
            rw [hrl] at hSum
            have hgl := hbj.lt
            have HJ := Lib.hid (And.intro hbj (And.intro hBj (And.intro hSum (And.intro hrl hgl))))
            clear hbj hBj hby hSum hend hrl hgl hj hlt
            go_wp2_with fail
            refine HJ.out.2.2.1.mono ?_
            rintro e w7 ⟨rfl, hb7⟩
            have a16 := alloc16
            obtain ⟨S, hS⟩ : ∃ S, S = Sha.sum (Sp.rest (f, true, hs)) := ⟨_, rfl⟩
            rw [← hS]
            have hsl : S.length = 16 := by rw [hS]; exact Sha.sum_len _
            have HSL := Lib.hid (And.intro hS hsl)
            have hb57 := HJ.out.2.1.trans (hb7.mono HJ.out.2.1.size)
            have hb17 := HW.out.1.trans ((HA3.out.2.trans (hb57.mono HA3.out.2.size)).mono HW.out.1.size)
            have hres : Blk w7 (w.heap.size + 1) 94 raw0 := (HW.out.2.1.below HA3.out.2 HW.out.2.1.lt).below hb57 (HW.out.2.1.below HA3.out.2 HW.out.2.1.lt).lt
            have hgb7 := HJ.out.1.below hb7 HJ.out.1.lt
            have hne : gb ≠ w.heap.size + 1 := by have h1 := (HW.out.2.1.below HA3.out.2 HW.out.2.1.lt).lt; have h2 := HGB.out; omega
            have H7 := Lib.hid (And.intro hb17 (And.intro hres (And.intro hgb7 hne)))
            clear hS hsl hb57 hb17 hres hgb7 hne hb7
            go_wp2_with (first
              | ((with_reducible show wpList _ _ _ ((⟨none, _, _, _, _, _⟩ : Oper) :: _) _ _); refine wpList_store_blk (o := ⟨none, _, _, _, _, _⟩) ((Blk.new w7 105 zero16)) (by rfl) _ _ _ (by rfl) (by rfl) ((S.map u8v).toArray) (by rfl) (size16) (arr_size _ _) (by simp [HSL.out.2]) (u8_all _) ?_; intro w8 h8 hu8; have HN8 := Lib.hid (And.intro ((Near.below ((Below.refl w7.heap.size w7).alloc (Nat.le_refl _) (.cells zero16 105))).new (X := []) hu8 (Nat.le_refl _)) h8); clear h8 hu8)
              | fail)
            have hC8 := (Near.refl [gb] w8).drew
            simp only [Act.put]
            refine wp_region_tree (Near [gb] w8) [] (PlanT.takes [0, 1] (.opt 2 .done .no)) (by kernel_rfl) (by kernel_rfl) (hC8) ?_
            refine wpTree_pure _ _ _ (by rfl) (by rfl) ?_
            dsimp only [List.filterMap, List.getElem?_cons_zero, List.getElem?_cons_succ]
            repeat (go_big_quiet_step (fail))
            refine wpQuiet_nil ?_
            refine wpTree_one _ rfl ?_
            refine wpList_copy_at (by rfl) _ _ _ _ (by rfl) _ Try.underlying43 size1 gb 0 512 512 (some ⟨w7.heap.size, 0, none⟩) 16 16 (by rfl) (by rfl) (List.replicate 16 0 ++ Sp.rest (f, true, hs)) S 94 (H7.out.2.2.1.near HN8.out.1 (by simp)).drew HSL.out.2 HN8.out.2.drew.bytes (by rw [List.length_append, List.length_replicate, HSL.out.2]; omega) (by rw [HSL.out.2]; omega) ?_
            intro w9 h9 hu9
            have hC9 : Near [gb] w8 w9 := hC8.trans (Near.upd hu9 (List.mem_singleton.2 rfl))
            have e9 : ((List.replicate 16 0 ++ Sp.rest (f, true, hs)).take 0 ++ (S ++ (List.replicate 16 0 ++ Sp.rest (f, true, hs)).drop (0 + S.length))) = Sp.bytes (f, true, hs) := by
              rw [HSL.out.2, List.take_zero, List.nil_append, Nat.zero_add, List.drop_left' (List.length_replicate ..), HSL.out.1]
              rfl
            rw [e9] at h9
            have hres9 := (H7.out.2.1.near HN8.out.1 (by simp)).near hC9 (by simp; exact fun e => H7.out.2.2.2 e.symm)
            have hbl : (Sp.bytes (f, true, hs)).length = 512 := Sp.bytes_length _ hlen
            have hw9 : Below w.heap.size w w9 := below_near (below_near H7.out.1 HN8.out.1 (fun x hx => by cases hx) H7.out.1.size) hC9 (fun x hx => by rw [List.mem_singleton.1 hx, HGB.out]; have h1 := HW.out.1.size; have h2 := HA3.out.2.size; omega) (Nat.le_trans H7.out.1.size HN8.out.1.size)
            have H9 := Lib.hid (And.intro hw9 hbl)
            clear hw9 e9 hu9 hC8
            go_wp2_with fail
            refine TreeQ.in_ hC9 ?_
            refine wpTree_done ?_
            clear hC9
            go_wp2_with (first
              | ((with_reducible show wpList _ _ _ ((⟨some 82, _, _, _, _, _⟩ : Oper) :: _) _ _); refine wpList_load_blk (o := ⟨some 82, _, _, _, _, _⟩) (h9) (by rfl) _ _ (by rfl) (by rfl) _ Try.underlying94 (by rfl) (sizeRaw) (by rw [List.size_toArray, List.length_map]; exact H9.out.2) ?_)
              | ((with_reducible show wpList _ _ _ ((⟨none, _, _, _, _, _⟩ : Oper) :: _) _ _); refine wpList_store_blk (o := ⟨none, _, _, _, _, _⟩) (hres9) (by rfl) _ _ _ (by rfl) (by rfl) (((Sp.bytes (f, true, hs)).map u8v).toArray) (by rfl) (sizeRaw) (arr_size _ _) (by rw [List.size_toArray, List.length_map]; exact H9.out.2) (u8_all _) ?_; intro w10 h10 hu10)
              | fail)
            have HB10 := Lib.hid (H9.out.1.upd hu10 (Nat.le_succ _))
            refine bodyPost_ret (results_cell_row (by rfl) _ _ _ _ _ _ _ (by rfl) h10 Try.underlying94 (by rfl) (sizeRaw.trans (by rw [List.size_toArray, List.length_map, H9.out.2]))) rfl ⟨rfl, HB10.out⟩
          obtain ⟨ab, ao, rfl, hac⟩ := (HA3.out.1.below hBj) (by intro e; have e2 := congrArg List.length e; rw [List.length_map, List.length_nil] at e2; omega)
          obtain ⟨m, hm, hm30⟩ := HNU.out l[j] (by rw [← HLN.out]; exact List.getElem_mem _)
          have dA := hac j (.int .i64 (m : Int)) (by rw [List.getElem?_map, List.getElem?_eq_getElem hlt, hm]; rfl)
          have hgd : l.getD j 0 = (m : Int) := by rw [List.getD_eq_getElem?_getD, List.getElem?_eq_getElem hlt, ← hm]; rfl
          have hSj := (show LbRel w5 gb l j (.int .i64 0) _ from ⟨0, by omega, rfl, hbj, hBj⟩)
          have HM := Lib.hid (And.intro hm30 hgd)
          clear hac hm hm30 hgd hbj hBj hj
          go_wp2_with fail
          clear dA
          go_loopw [61] (fun v wv => LbRel w5 gb l j v wv) (fun v _ => 4 - (intOf v).toNat)
          case atStart => exact hSj
          case round =>
            clear hSj
            obtain ⟨k, hk, rfl, hbk, hBk⟩ := hrel
            have hj75 : j < 75 := by omega
            have hk4 : k = 0 ∨ k = 1 ∨ k = 2 ∨ k = 3 ∨ k = 4 := by omega
            have hlen512 := rawAt_length l j k (by omega) hk (by omega)
            clear hk
            rcases hk4 with rfl | rfl | rfl | rfl | rfl
            · have HK := Lib.hid (And.intro hbk (And.intro hBk hlen512))
              obtain ⟨y, hy⟩ : ∃ y, (rawAt l j 0)[16 + 4 * j]? = some y := ⟨_, List.getElem?_eq_getElem (by omega)⟩
              have dn := hbk.at_ (16 + 4 * j) (v := .int .u8 (iu8 y)) (by rw [List.getElem?_toArray, List.getElem?_map, hy]; rfl)
              have fn := hbk.frozen (16 + 4 * j)
              clear hbk hBk hlen512 hy
              go_wp2
              go_roundw
              case rel => exact la_step (k := 0) (by omega) hlt hnl HM.out.2 HK.out.1 HK.out.2.1 (by rw [HGB.out]; exact Nat.le_refl _) _ (le4_v0 m)
              case measure => simp [intOf]
            · have HK := Lib.hid (And.intro hbk (And.intro hBk hlen512))
              obtain ⟨y, hy⟩ : ∃ y, (rawAt l j 1)[16 + 4 * j + 1]? = some y := ⟨_, List.getElem?_eq_getElem (by omega)⟩
              have dn := hbk.at_ (16 + 4 * j + 1) (v := .int .u8 (iu8 y)) (by rw [List.getElem?_toArray, List.getElem?_map, hy]; rfl)
              have fn := hbk.frozen (16 + 4 * j + 1)
              clear hbk hBk hlen512 hy
              go_wp2
              go_roundw
              case rel => exact la_step (k := 1) (by omega) hlt hnl HM.out.2 HK.out.1 HK.out.2.1 (by rw [HGB.out]; exact Nat.le_refl _) _ (le4_v1 m)
              case measure => simp [intOf]
            · have HK := Lib.hid (And.intro hbk (And.intro hBk hlen512))
              obtain ⟨y, hy⟩ : ∃ y, (rawAt l j 2)[16 + 4 * j + 2]? = some y := ⟨_, List.getElem?_eq_getElem (by omega)⟩
              have dn := hbk.at_ (16 + 4 * j + 2) (v := .int .u8 (iu8 y)) (by rw [List.getElem?_toArray, List.getElem?_map, hy]; rfl)
              have fn := hbk.frozen (16 + 4 * j + 2)
              clear hbk hBk hlen512 hy
              go_wp2
              go_roundw
              case rel => exact la_step (k := 2) (by omega) hlt hnl HM.out.2 HK.out.1 HK.out.2.1 (by rw [HGB.out]; exact Nat.le_refl _) _ (le4_v2 m)
              case measure => simp [intOf]
            · have HK := Lib.hid (And.intro hbk (And.intro hBk hlen512))
              obtain ⟨y, hy⟩ : ∃ y, (rawAt l j 3)[16 + 4 * j + 3]? = some y := ⟨_, List.getElem?_eq_getElem (by omega)⟩
              have dn := hbk.at_ (16 + 4 * j + 3) (v := .int .u8 (iu8 y)) (by rw [List.getElem?_toArray, List.getElem?_map, hy]; rfl)
              have fn := hbk.frozen (16 + 4 * j + 3)
              clear hbk hBk hlen512 hy
              go_wp2
              go_roundw
              case rel => exact la_step (k := 3) (by omega) hlt hnl HM.out.2 HK.out.1 HK.out.2.1 (by rw [HGB.out]; exact Nat.le_refl _) _ ((by have h := le4_v3 m (by have := HM.out; omega); rw [← h]; have := HM.out; omega))
              case measure => simp [intOf]
            · have HF := Lib.hid (show LaRel w5 gb l (.int .i64 ((j + 1 : Nat) : Int)) wr from ⟨j + 1, hlt, rfl, by rw [← rawAt_next l j hlt (by omega)]; exact hbk, hBk⟩)
              clear hbk hBk hlen512
              go_wp2
              go_roundw
              case rel => exact HF.out
              case measure => simp [intOf]; omega
end Go.Proofs.Ytmhfehhpfkjloaa

/- A superblock's bytes: the program's Bytes. Conditions: its heads can be read, and are at most 1000. -/
namespace Go.Proofs.Ytmhfehhpfkjloaa
open Go.RowKit
theorem sizeSuper : (Try.prog.info? 26).map (·.size) = some 11 := by kernel_rfl
set_option maxRecDepth 100000 in
set_option maxHeartbeats 4000000 in
theorem spBytes_any (f : HdF) (fe : Bool) (A : Option Addr) (n c : Nat) (hs : List (Int × Int)) (w : World) (hn : n = hs.length) (hlen : hs.length ≤ 1000) (hh : Heads w A hs) :
    Calls Try.prog 20 #[.agg (spc f fe (.slice A n c))] w fun e w' =>
      ((Sp.ok (f, fe, hs) = true ∧ ∃ g, e = .returned (.tuple #[.slice (some ⟨g, 0, none⟩) 512 512, .int .i64 0]) ∧ w.heap.size ≤ g ∧ Blk w' g 94 ((Sp.bytes (f, fe, hs)).map u8v).toArray) ∨
        (Sp.ok (f, fe, hs) = false ∧ e = .returned (.tuple #[.slice none 0 0, .int .i64 2]))) ∧ Below w.heap.size w w' := by
  subst hn
  have hg := Blk.new w 26 (spc f fe (.slice A hs.length c))
  have hB := (Below.refl w.heap.size w).alloc (Nat.le_refl _) (.cells (spc f fe (.slice A hs.length c)) 26)
  have hh1 := hh.below hB
  have hC := spCheck_any f fe A _ c hs (w.alloc (.cells (spc f fe (.slice A hs.length c)) 26)) rfl hlen hh1
  have hLd := fun (hok : Sp.ok (f, fe, hs) = true) (w' : World) (hw : Heads w' A hs) => spLaid_any f fe A _ c hs w' rfl hok hw
  have HH := Lib.hid (And.intro hg (And.intro hB (And.intro hh1 (And.intro hC hLd))))
  clear hg hB hh1 hC hLd hh
  unfold spc
  by_cases hok : Sp.ok (f, fe, hs) = true
  · have hcode : spCode (f, fe, hs) = 0 := if_pos hok
    rw [hcode] at HH
    go_enter Try.func20, Try.ntmps20
    go_wp2_with fail
    change Calls _ _ #[.agg (spc f fe (.slice A hs.length c))] (w.alloc (.cells (spc f fe (.slice A hs.length c)) 26)) _
    refine HH.out.2.2.2.1.mono ?_
    rintro e w2 ⟨rfl, hb2⟩
    obtain ⟨c0, c1, c2, c3, c4, c5, c6, c7, c8, c9, c10⟩ := sp_cells (f := f) (fe := fe) (hv := .slice A hs.length c) (HH.out.1.below hb2 HH.out.1.lt)
    have hL := HH.out.2.2.2.2 hok w2 (HH.out.2.2.1.below hb2)
    have HB := Lib.hid (HH.out.2.1.trans (hb2.mono HH.out.2.1.size))
    have hlen2 : (Sp.bytes (f, fe, hs)).length = 512 := Sp.bytes_length _ (Sp.ok_spec hok).2.1
    have HL := Lib.hid (And.intro hL hlen2)
    have zr := zeroRaw
    clear hb2 hL hlen2 HH
    go_wp2_with fail
    refine HL.out.1.mono ?_
    rintro e w3 ⟨rfl, hb3⟩
    have HB3 := Lib.hid (HB.out.trans (hb3.mono HB.out.size))
    clear hb3 c0 c1 c2 c3 c4 c5 c6 c7 c8 c9 c10
    go_wp2_with (first
      | ((with_reducible show wpList _ _ _ ((⟨none, _, _, _, _, _⟩ : Oper) :: _) _ _); refine wpList_store_blk (o := ⟨none, _, _, _, _, _⟩) ((Blk.new w3 94 raw0)) (by rfl) _ _ _ (by rfl) (by rfl) (((Sp.bytes (f, fe, hs)).map u8v).toArray) (by rfl) (sizeRaw) (arr_size _ _) (by rw [List.size_toArray, List.length_map]; exact HL.out.2) (u8_all _) ?_; intro w4 h4 hu4; have HB4 := Lib.hid (And.intro (HB3.out.trans ((((Below.refl w3.heap.size w3).alloc (Nat.le_refl _) (.cells raw0 94)).upd hu4 (Nat.le_refl _)).mono HB3.out.size)) h4); clear h4 hu4)
      | fail)
    go_ret2
    exact ⟨.inl ⟨hok, w3.heap.size, rfl, HB3.out.size, HB4.out.2⟩, HB4.out.1⟩
  · have hcode : spCode (f, fe, hs) = 2 := if_neg hok
    rw [hcode] at HH
    go_enter Try.func20, Try.ntmps20
    go_wp2_with fail
    change Calls _ _ #[.agg (spc f fe (.slice A hs.length c))] (w.alloc (.cells (spc f fe (.slice A hs.length c)) 26)) _
    refine HH.out.2.2.2.1.mono ?_
    rintro e w2 ⟨rfl, hb2⟩
    have HB := Lib.hid (HH.out.2.1.trans (hb2.mono HH.out.2.1.size))
    have HO := Lib.hid hok
    clear hb2 HH hok
    go_wp2
    go_ret2
    exact ⟨.inr ⟨by have h := HO.out; simpa using h, rfl⟩, HB.out⟩
end Go.Proofs.Ytmhfehhpfkjloaa

/- Four bytes read as a number. Plain facts. -/
namespace Go.Proofs.Ytmhfehhpfkjloaa
open Go.RowKit
theorem or_sum (a b k : Nat) (n : Nat) (hn : n = 2 ^ k) (ha : a < n) : a ||| (b * n) = a + b * n := by
  subst hn
  rw [Nat.mul_comm, Nat.or_comm, ← Nat.two_pow_add_eq_or_of_lt ha, Nat.add_comm]
theorem i64_or_nat (a b : Nat) (ha : a < 9223372036854775808) (hb : b < 9223372036854775808) : bits .or .i64 (a : Int) (b : Int) = ((a ||| b : Nat) : Int) := by
  have h2 : a ||| b < 2 ^ 63 := Nat.or_lt_two_pow (by omega) (by omega)
  show IntKind.i64.wrap ((BitVec.ofInt 64 (a : Int) ||| BitVec.ofInt 64 (b : Int)).toNat : Int) = _
  rw [BitVec.toNat_or, ofInt_u64 a (by omega), ofInt_u64 b (by omega), IntWalk.i64_left, IntWalk.wrap64_in _ ⟨by omega, by omega⟩]
theorem or4 (x0 x1 x2 x3 : UInt8) : bits BinOp.or IntKind.i64 (bits BinOp.or IntKind.i64 (bits BinOp.or IntKind.i64 (wrap64 (iu8 x0)) (wrap64 (wrap64 (iu8 x1) * 256))) (wrap64 (wrap64 (iu8 x2) * 65536))) (wrap64 (wrap64 (iu8 x3) * 16777216)) = (un4 x0 x1 x2 x3 : Int) := by
  have h0 := x0.toNat_lt; have h1 := x1.toNat_lt; have h2 := x2.toNat_lt; have h3 := x3.toNat_lt
  unfold iu8
  rw [IntWalk.wrap64_in (x0.toNat : Int) (by omega), IntWalk.wrap64_in (x1.toNat : Int) (by omega), IntWalk.wrap64_in (x2.toNat : Int) (by omega), IntWalk.wrap64_in (x3.toNat : Int) (by omega),
    IntWalk.wrap64_in ((x1.toNat : Int) * 256) (by omega), IntWalk.wrap64_in ((x2.toNat : Int) * 65536) (by omega), IntWalk.wrap64_in ((x3.toNat : Int) * 16777216) (by omega)]
  rw [show (x1.toNat : Int) * 256 = ((x1.toNat * 256 : Nat) : Int) by simp, show (x2.toNat : Int) * 65536 = ((x2.toNat * 65536 : Nat) : Int) by simp, show (x3.toNat : Int) * 16777216 = ((x3.toNat * 16777216 : Nat) : Int) by simp]
  rw [i64_or_nat _ _ (by omega) (by omega), or_sum _ _ 8 256 (by decide) (by omega), i64_or_nat _ _ (by omega) (by omega), or_sum _ _ 16 65536 (by decide) (by omega), i64_or_nat _ _ (by omega) (by omega), or_sum _ _ 24 16777216 (by decide) (by omega)]
  unfold un4
  omega
end Go.Proofs.Ytmhfehhpfkjloaa

/- The next number of a superblock's bytes: the closure of the program's Read. Conditions: the bytes can be read, and are 512; four are left. -/
namespace Go.Proofs.Ytmhfehhpfkjloaa
open Go.RowKit
theorem callNext (args : Array Value) (w : World) : (callFunc 62 args).run Try.prog w = .ok (.enter 62 args) w := Try.call62 args w
set_option maxRecDepth 100000 in
set_option maxHeartbeats 4000000 in
theorem next_any (gx ga a c : Nat) (A : Option Addr) (r : List UInt8) (w : World) (hx : Blk w gx 43 #[.slice A 512 c]) (ha : Blk w ga 3 #[.int .i64 (a : Int)]) (hby : Bytes w A r) (hr : r.length = 512) (ha4 : a + 4 ≤ 512) :
    Calls Try.prog 62 #[.pointer (some ⟨gx, 0, none⟩), .pointer (some ⟨ga, 0, none⟩)] w fun e w' => e = .returned (.int .i64 (at4 r a : Int)) ∧ Blk w' ga 3 #[.int .i64 ((a + 4 : Nat) : Int)] ∧ Near [ga] w w' := by
  obtain ⟨b, off, rfl, hbl, hcb⟩ := hby.at_ (by omega)
  have d0 := hcb a (by omega)
  have d1 := hcb (a + 1) (by omega)
  have d2 := hcb (a + 2) (by omega)
  have d3 := hcb (a + 3) (by omega)
  obtain ⟨x0, h0⟩ : ∃ x, x = r.getD a 0 := ⟨_, rfl⟩
  obtain ⟨x1, h1⟩ : ∃ x, x = r.getD (a + 1) 0 := ⟨_, rfl⟩
  obtain ⟨x2, h2⟩ : ∃ x, x = r.getD (a + 2) 0 := ⟨_, rfl⟩
  obtain ⟨x3, h3⟩ : ∃ x, x = r.getD (a + 3) 0 := ⟨_, rfl⟩
  rw [← h0] at d0; rw [← h1] at d1; rw [← h2] at d2; rw [← h3] at d3
  have e4 := or4 x0 x1 x2 x3
  have hat : (at4 r a : Int) = (un4 x0 x1 x2 x3 : Int) := by unfold at4; rw [← h0, ← h1, ← h2, ← h3]
  rw [hat]
  have HH := Lib.hid (And.intro hx (And.intro ha hbl))
  have l0 : a < 512 := by omega
  have l1 : a + 1 < 512 := by omega
  have l2 : a + 2 < 512 := by omega
  have l3 : a + 3 < 512 := by omega
  clear hcb h0 h1 h2 h3 hat hby hr hx ha hbl
  go_enter Try.func62, Try.ntmps62
  go_wp2_with fail
  refine wp_region_tree (Near [] w) [] (PlanT.takes [0, 1, 5, 6, 13, 14, 21, 22] (PlanT.takes [2, 7, 8, 15, 16, 23, 24] (PlanT.takes [3, 9, 17, 25] (PlanT.takes [4, 10, 11, 12, 18, 19, 20, 26, 27, 28, 29] .done)))) (by kernel_rfl) (by kernel_rfl) ((Near.refl _ _).drew) ?_
  refine wpTree_takeL _ _ _ (by rfl) (by rfl) ((Near.refl _ _).drew) ?_
  dsimp only [List.filterMap, List.getElem?_cons_zero, List.getElem?_cons_succ]
  (refine wpQuiet_load_cell (fun w' hw' => (Blk.near HH.out.1 hw' (by simp)).at_ 0 (v := .slice (some ⟨b, off, none⟩) 512 c) rfl) (by rfl) _ _ (by rfl) (by rfl) _ Try.underlying43 (by rfl) ?_; simp only [Act.put, List.setIfInBounds_toArray, List.set_cons_zero, List.set_cons_succ])
  (refine wpQuiet_load_cell (fun w' hw' => (Blk.near HH.out.2.1 hw' (by simp)).at_ 0 (v := .int .i64 (a : Int)) rfl) (by rfl) _ _ (by rfl) (by rfl) _ Try.underlying3 (by rfl) ?_; simp only [Act.put, List.setIfInBounds_toArray, List.set_cons_zero, List.set_cons_succ])
  (refine wpQuiet_load_cell (fun w' hw' => (Blk.near HH.out.1 hw' (by simp)).at_ 0 (v := .slice (some ⟨b, off, none⟩) 512 c) rfl) (by rfl) _ _ (by rfl) (by rfl) _ Try.underlying43 (by rfl) ?_; simp only [Act.put, List.setIfInBounds_toArray, List.set_cons_zero, List.set_cons_succ])
  (refine wpQuiet_load_cell (fun w' hw' => (Blk.near HH.out.2.1 hw' (by simp)).at_ 0 (v := .int .i64 (a : Int)) rfl) (by rfl) _ _ (by rfl) (by rfl) _ Try.underlying3 (by rfl) ?_; simp only [Act.put, List.setIfInBounds_toArray, List.set_cons_zero, List.set_cons_succ])
  (refine wpQuiet_load_cell (fun w' hw' => (Blk.near HH.out.1 hw' (by simp)).at_ 0 (v := .slice (some ⟨b, off, none⟩) 512 c) rfl) (by rfl) _ _ (by rfl) (by rfl) _ Try.underlying43 (by rfl) ?_; simp only [Act.put, List.setIfInBounds_toArray, List.set_cons_zero, List.set_cons_succ])
  (refine wpQuiet_load_cell (fun w' hw' => (Blk.near HH.out.2.1 hw' (by simp)).at_ 0 (v := .int .i64 (a : Int)) rfl) (by rfl) _ _ (by rfl) (by rfl) _ Try.underlying3 (by rfl) ?_; simp only [Act.put, List.setIfInBounds_toArray, List.set_cons_zero, List.set_cons_succ])
  (refine wpQuiet_load_cell (fun w' hw' => (Blk.near HH.out.1 hw' (by simp)).at_ 0 (v := .slice (some ⟨b, off, none⟩) 512 c) rfl) (by rfl) _ _ (by rfl) (by rfl) _ Try.underlying43 (by rfl) ?_; simp only [Act.put, List.setIfInBounds_toArray, List.set_cons_zero, List.set_cons_succ])
  (refine wpQuiet_load_cell (fun w' hw' => (Blk.near HH.out.2.1 hw' (by simp)).at_ 0 (v := .int .i64 (a : Int)) rfl) (by rfl) _ _ (by rfl) (by rfl) _ Try.underlying3 (by rfl) ?_; simp only [Act.put, List.setIfInBounds_toArray, List.set_cons_zero, List.set_cons_succ])
  refine wpQuiet_nil ?_
  refine wpTree_pure _ _ _ (by rfl) (by rfl) ?_
  dsimp only [List.filterMap, List.getElem?_cons_zero, List.getElem?_cons_succ]
  repeat (go_big_quiet_step (fail))
  refine wpQuiet_nil ?_
  refine wpTree_takeL _ _ _ (by rfl) (by rfl) ((Near.refl _ _).drew) ?_
  dsimp only [List.filterMap, List.getElem?_cons_zero, List.getElem?_cons_succ]
  (refine wpQuiet_load_cell (fun w' hw' => (hw'.cell (p := ⟨b, off + a, none⟩) HH.out.2.2 (by simp)).trans d0) (by rfl) _ _ (by rfl) (by rfl) _ Try.underlying5 (by rfl) ?_; simp only [Act.put, List.setIfInBounds_toArray, List.set_cons_zero, List.set_cons_succ])
  (refine wpQuiet_load_cell (fun w' hw' => (hw'.cell (p := ⟨b, off + (a + 1), none⟩) HH.out.2.2 (by simp)).trans d1) (by rfl) _ _ (by rfl) (by rfl) _ Try.underlying5 (by rfl) ?_; simp only [Act.put, List.setIfInBounds_toArray, List.set_cons_zero, List.set_cons_succ])
  (refine wpQuiet_load_cell (fun w' hw' => (hw'.cell (p := ⟨b, off + (a + 2), none⟩) HH.out.2.2 (by simp)).trans d2) (by rfl) _ _ (by rfl) (by rfl) _ Try.underlying5 (by rfl) ?_; simp only [Act.put, List.setIfInBounds_toArray, List.set_cons_zero, List.set_cons_succ])
  (refine wpQuiet_load_cell (fun w' hw' => (hw'.cell (p := ⟨b, off + (a + 3), none⟩) HH.out.2.2 (by simp)).trans d3) (by rfl) _ _ (by rfl) (by rfl) _ Try.underlying5 (by rfl) ?_; simp only [Act.put, List.setIfInBounds_toArray, List.set_cons_zero, List.set_cons_succ])
  refine wpQuiet_nil ?_
  refine wpTree_takeL _ _ _ (by rfl) (by rfl) ((Near.refl _ _).drew) ?_
  dsimp only [List.filterMap, List.getElem?_cons_zero, List.getElem?_cons_succ]
  repeat (go_big_quiet_step (exact fun _ => rfl))
  refine wpQuiet_nil ?_
  refine wpTree_done ?_
  have hga := HH.out.2.1.drew
  have dA := hga.at_ 0 (v := .int .i64 (a : Int)) rfl
  have fA := hga.frozen 0
  have hw4 : wrap64 ((a : Int) + 4) = ((a + 4 : Nat) : Int) := by unfold wrap64; omega
  have hn1 : Near [ga] w (w.drew.setCell ⟨ga, 0, none⟩ (.int .i64 ((a + 4 : Nat) : Int))) := (Near.refl [ga] w).drew.trans (Near.upd ((Upd.refl ga w.drew).set 0 _) (List.mem_singleton.2 rfl))
  have hb1 : Blk (w.drew.setCell ⟨ga, 0, none⟩ (.int .i64 ((a + 4 : Nat) : Int))) ga 3 #[.int .i64 ((a + 4 : Nat) : Int)] := (hga.set_ 0 _).sub rfl
  have HR := Lib.hid (And.intro hb1 hn1)
  clear d0 d1 d2 d3 HH hn1 hb1 hga l0 l1 l2 l3
  generalize w.drew = w1 at HR dA fA ⊢
  clear e4
  go_wp2
  go_ret
  exact ⟨rfl, HR.out⟩
end Go.Proofs.Ytmhfehhpfkjloaa

/- A superblock is read: the program's Read. Conditions: the bytes can be read. -/
namespace Go.Proofs.Ytmhfehhpfkjloaa
open Go.RowKit
def spz : Array Value := spc (fun _ => 0) false (.slice none 0 0)
theorem infoSuper : (Try.prog.info? 26).map (fun i => (i.zero, i.size)) = some (some (.agg spz), 11) := by kernel_rfl
theorem spc_one (f : HdF) (fe : Bool) (hv : Value) (h : hv.oneCell' = true) : (spc f fe hv).all (·.oneCell') = true := by
  rw [Array.all_eq_true']
  intro x hx
  simp only [spc, List.mem_toArray, List.mem_cons, List.not_mem_nil, or_false] at hx
  rcases hx with h | h | h | h | h | h | h | h | h | h | h <;> subst h <;> first | rfl | assumption
theorem spc_size (f : HdF) (fe : Bool) (hv : Value) : (spc f fe hv).size = 11 := rfl
theorem zeroSuper (w : World) : (zeroValue 26).run Try.prog w = .ok (.agg spz) w := (zero_of_info infoSuper).1 w
/-- What Read answers. -/
def RdPost (w : World) (r : List UInt8) (e : Ending) (w' : World) : Prop :=
  ∃ (f : HdF) (fe : Bool) (B : Option Addr) (d : Nat) (hs : List (Int × Int)), e = .returned (.tuple #[.agg (spc f fe (.slice B hs.length d)), .int .i64 (Sp.read r).1]) ∧ Sp.same (f, fe, hs) (Sp.read r).2 ∧ Heads w' B hs ∧ hs.length ≤ d ∧ (∀ ad, B = some ad → w.heap.size ≤ ad.block) ∧ Below w.heap.size w w'
set_option maxRecDepth 100000 in
set_option maxHeartbeats 4000000 in
theorem spRead_len (A : Option Addr) (c : Nat) (r : List UInt8) (w : World) (h : r.length ≠ 512) (_hlen : r.length ≤ 1099511627776) :
    Calls Try.prog 22 #[.slice A r.length c] w (RdPost w r) := by
  have hz := zeroSuper
  have hB := ((Below.refl w.heap.size w).alloc (Nat.le_refl _) (.cells #[.slice A r.length c] 43)).alloc (by simp) (.cells spz 26)
  have hne : ((r.length : Int) != 512) = true := by simp; omega
  have HB := Lib.hid hB
  have H4 := Lib.hid (show Sp.read r = (4, Sp.none_) from if_pos h)
  clear hB h _hlen
  go_enter Try.func22, Try.ntmps22
  have hbr : Blk ((w.alloc (.cells #[.slice A r.length c] 43)).alloc (.cells spz 26)) (w.heap.size + 1) 26 spz := by
    have h := Blk.new (w.alloc (.cells #[.slice A r.length c] 43)) 26 spz
    simpa using h
  go_wp2_with (first
    | ((with_reducible show wpList _ _ _ ((⟨none, _, _, _, _, _⟩ : Oper) :: _) _ _); refine wpList_store_blk (o := ⟨none, _, _, _, _, _⟩) (hbr) (by rfl) _ _ _ (by rfl) (by rfl) (spz) (by rfl) (sizeSuper) (spc_size _ _ _) (spc_size _ _ _) (spc_one _ _ _ rfl) ?_; intro w2 h2 hu2; have HB2 := Lib.hid (HB.out.upd hu2 (Nat.le_succ _)); clear hbr hu2)
    | fail)
  refine bodyPost_ret (results_row_tmp (by rfl) _ _ _ _ _ _ (by rfl) h2 Try.underlying26 (by rfl) sizeSuper) rfl ?_
  refine ⟨fun _ => 0, false, none, 0, [], ?_, ?_, fun h => absurd h (by simp), Nat.le_refl _, (fun _ h => by cases h), HB2.out⟩
  · rw [H4.out]; rfl
  · rw [H4.out]; exact ⟨fun _ _ => rfl, rfl, rfl⟩
end Go.Proofs.Ytmhfehhpfkjloaa

/- The state in which the program's Read takes its numbers, and the next number in that state. Plain facts, and the closure's contract. -/
namespace Go.Proofs.Ytmhfehhpfkjloaa
open Go.RowKit
/-- The blocks of Read: its bytes, its result, how far it is, what it has read. -/
structure RdSt (w0 w : World) (ga gs : Nat) (A : Option Addr) (c : Nat) (a : Nat) (cs : Array Value) : Prop where
  bx : Blk w w0.heap.size 43 #[.slice A 512 c]
  br : Blk w (w0.heap.size + 1) 26 spz
  ba : Blk w ga 3 #[.int .i64 (a : Int)]
  bs : Blk w gs 26 cs
  hb : Below w0.heap.size w0 w
  hga : w0.heap.size + 2 ≤ ga
  hgs : ga < gs
theorem RdSt.set {w0 w : World} {ga gs : Nat} {A : Option Addr} {c a : Nat} {cs : Array Value} (h : RdSt w0 w ga gs A c a cs) (i : Nat) (v : Value) : RdSt w0 (w.setCell ⟨gs, i, none⟩ v) ga gs A c a (cs.setIfInBounds i v) := by
  have h1 := h.hga; have h2 := h.hgs
  exact ⟨h.bx.off (by omega) v, h.br.off (by omega) v, h.ba.off (by omega) v, h.bs.set_ i v, h.hb.set_ (by omega) v, h1, h2⟩
theorem RdSt.near {w0 w w' : World} {ga gs : Nat} {A : Option Addr} {c a : Nat} {cs : Array Value} (h : RdSt w0 w ga gs A c a cs) (k : Near [] w w') : RdSt w0 w' ga gs A c a cs :=
  ⟨h.bx.near k (by simp), h.br.near k (by simp), h.ba.near k (by simp), h.bs.near k (by simp), below_near h.hb k (fun x hx => by cases hx) h.hb.size, h.hga, h.hgs⟩
theorem RdSt.nearX {w0 w w' : World} {ga gs : Nat} {A : Option Addr} {c a : Nat} {cs : Array Value} {X : List Nat} (h : RdSt w0 w ga gs A c a cs) (k : Near X w w') (hX : ∀ x ∈ X, gs < x) : RdSt w0 w' ga gs A c a cs := by
  have g1 := h.hga; have g2 := h.hgs
  have hn : ∀ y, y ≤ gs → y ∉ X := fun y hy hx => by have := hX y hx; omega
  exact ⟨h.bx.near k (hn _ (by omega)), h.br.near k (hn _ (by omega)), h.ba.near k (hn _ (by omega)), h.bs.near k (hn _ (Nat.le_refl _)), below_near h.hb k (fun x hx => by have := hX x hx; omega) h.hb.size, g1, g2⟩
theorem next_st {w0 w : World} {ga gs : Nat} {A : Option Addr} {c a : Nat} {cs : Array Value} (h : RdSt w0 w ga gs A c a cs) {r : List UInt8} (hby : Bytes w0 A r) (hr : r.length = 512) (ha4 : a + 4 ≤ 512) :
    Calls Try.prog 62 #[.pointer (some ⟨w0.heap.size, 0, none⟩), .pointer (some ⟨ga, 0, none⟩)] w fun e w' => e = .returned (.int .i64 (at4 r a : Int)) ∧ RdSt w0 w' ga gs A c (a + 4) cs ∧ Near [ga] w w' :=
  (next_any w0.heap.size ga a c A r w h.bx h.ba (hby.below h.hb) hr ha4).mono fun e w' ⟨h1, h2, h3⟩ => by
    have g1 := h.hga; have g2 := h.hgs
    exact ⟨h1, ⟨h.bx.near h3 (by simp; omega), h.br.near h3 (by simp; omega), h2, h.bs.near h3 (by simp; omega), below_near h.hb h3 (fun x hx => by rw [List.mem_singleton.1 hx]; omega) h.hb.size, g1, g2⟩, h3⟩
/-- What has been read after k numbers. -/
def rdf (r : List UInt8) (k : Nat) : HdF := fun i => if i < k then (at4 r (16 + 4 * i) : Int) else 0
def rdc (r : List UInt8) (k : Nat) : Array Value := spc (rdf r k) false (.slice none 0 0)
theorem rdc_zero (r : List UInt8) (k i : Nat) (hk : k ≤ i) (hi : i < 9) : (rdc r k)[i]? = some (.int .i64 0) := by
  have h : rdf r k i = 0 := if_neg (by omega)
  have : (rdc r k)[i]? = some (.int .i64 (rdf r k i)) := by
    unfold rdc spc
    match i, hi with
    | 0, _ => rfl
    | 1, _ => rfl
    | 2, _ => rfl
    | 3, _ => rfl
    | 4, _ => rfl
    | 5, _ => rfl
    | 6, _ => rfl
    | 7, _ => rfl
    | 8, _ => rfl
  rw [this, h]
theorem rdc_set (r : List UInt8) (k : Nat) (hk : k < 9) : (rdc r k).setIfInBounds k (.int .i64 (at4 r (16 + 4 * k) : Int)) = rdc r (k + 1) := by
  match k, hk with
  | 0, _ => rfl
  | 1, _ => rfl
  | 2, _ => rfl
  | 3, _ => rfl
  | 4, _ => rfl
  | 5, _ => rfl
  | 6, _ => rfl
  | 7, _ => rfl
  | 8, _ => rfl
theorem RdSt.put {w0 w : World} {ga gs : Nat} {A : Option Addr} {c a : Nat} {r : List UInt8} {k : Nat} (h : RdSt w0 w ga gs A c a (rdc r k)) (hk : k < 9) : RdSt w0 (w.setCell ⟨gs, k, none⟩ (.int .i64 (at4 r (16 + 4 * k) : Int))) ga gs A c a (rdc r (k + 1)) := by
  rw [← rdc_set r k hk]; exact h.set k _
end Go.Proofs.Ytmhfehhpfkjloaa

/- A superblock is read: the bytes are 512. Conditions: the bytes can be read. -/
namespace Go.Proofs.Ytmhfehhpfkjloaa
open Go.RowKit
theorem takeBytes {w : World} {b off : Nat} {l : List UInt8} (h : ∀ i (_ : i < l.length), w.cell? ⟨b, off + i, none⟩ = some (.int .u8 (iu8 (l.getD i 0)))) (n : Nat) : w.rangeAt b off ((l.take n).map u8v) := fun j v hv => by
  rw [List.getElem?_map, List.getElem?_take] at hv
  split at hv
  · rw [Option.map_eq_some_iff] at hv
    obtain ⟨x, hx, rfl⟩ := hv
    obtain ⟨hj, e⟩ := List.getElem?_eq_some_iff.1 hx
    rw [h j hj, ← e, List.getD_eq_getElem?_getD, List.getElem?_eq_getElem hj]; rfl
  · simp at hv
set_option maxRecDepth 100000 in
set_option maxHeartbeats 4000000 in
theorem spRead_sum (A : Option Addr) (c : Nat) (r : List UInt8) (w : World) (hr : r.length = 512) (hc : 512 ≤ c) (hc2 : c ≤ 9223372036854775807) (hby : Bytes w A r) (hS : Sha.sum (r.drop 16) ≠ r.take 16) :
    Calls Try.prog 22 #[.slice A 512 c] w (RdPost w r) := by
  have hz := zeroSuper
  obtain ⟨w0, hw0⟩ : ∃ w0, w0 = (w.alloc (.cells #[.slice A 512 c] 43)).alloc (.cells spz 26) := ⟨_, rfl⟩
  have hB : Below w.heap.size w w0 := hw0 ▸ ((Below.refl w.heap.size w).alloc (Nat.le_refl _) (.cells #[.slice A 512 c] 43)).alloc (by simp) (.cells spz 26)
  have hbx : Blk w0 w.heap.size 43 #[.slice A 512 c] := hw0 ▸ (Blk.new w 43 #[.slice A 512 c]).alloc _
  have hbr : Blk w0 (w.heap.size + 1) 26 spz := by
    have h := Blk.new (w.alloc (.cells #[.slice A 512 c] 43)) 26 spz
    rw [hw0]; simpa using h
  obtain ⟨b, off, rfl, hbl, hcb⟩ := hby.at_ (by omega)
  have hd : Bytes w (if c = 16 then some ⟨b, off, none⟩ else some ⟨b, off + 16, none⟩) (r.drop 16) := hby.drop (k := 16) (cap := c) (by omega)
  rw [if_neg (by omega)] at hd
  obtain ⟨T, hT⟩ : ∃ T, T = r.take 16 := ⟨_, rfl⟩
  obtain ⟨D, hD⟩ : ∃ D, D = r.drop 16 := ⟨_, rfl⟩
  have hTl : T.length = 16 := by rw [hT]; simp; omega
  have hDl : D.length = 496 := by rw [hD]; simp; omega
  have hst : ∀ w', Near [] w0 w' → Calls Try.prog 61 #[.slice (some ⟨b, off + 16, none⟩) 496 (c - 16), .agg (T.map u8v).toArray] w' fun e w'' => e = .returned (.bool (decide (Sha.sum D = T))) ∧ Near [] w0 w'' := fun w' hw' =>
    (right_seal_any _ _ (c - 16) D T hDl.symm (by omega) (by omega) hTl w' ((hD ▸ hd : Bytes w _ D).below (below_near hB hw' (fun x hx => by cases hx) hB.size))).mono fun e w'' h => ⟨h.1, hw'.trans (Near.below h.2)⟩
  have hcs : ∀ w', Near [] w0 w' → w'.rangeAt b off (T.map u8v) := fun w' hw' => by
    rw [hT]
    exact takeBytes (fun i hi => ((below_near hB hw' (fun x hx => by cases hx) hB.size).cell (p := ⟨b, off + i, none⟩) hbl).trans (hcb i hi)) 16
  have H0 := Lib.hid (And.intro hB (And.intro hbx hbr))
  have HT := Lib.hid hTl
  have HS := Lib.hid (show decide (Sha.sum D = T) = false from by rw [hD, hT]; exact decide_eq_false hS)
  have H12 := Lib.hid (show Sp.read r = (12, Sp.none_) from by unfold Sp.read; rw [if_neg (by omega), if_pos hS])
  clear hT hD hd hcb hbl hby hr hS hB hbx hbr hTl hDl
  go_enter Try.func22, Try.ntmps22
  go_wp2_with fail
  rw [← hw0]
  clear hw0
  refine wp_region_tree (Near [] w0) [] (PlanT.takes [0, 2] (PlanT.takes [1, 3, 4] (PlanT.takes [5] (.opt 6 (PlanT.takes [7] .done) .no)))) (by kernel_rfl) (by kernel_rfl) ((Near.refl _ _).drew) ?_
  refine wpTree_takeL _ _ _ (by rfl) (by rfl) ((Near.refl _ _).drew) ?_
  dsimp only [List.filterMap, List.getElem?_cons_zero, List.getElem?_cons_succ]
  (refine wpQuiet_load_cell (fun w' hw' => (Blk.near H0.out.2.1 hw' (by simp)).at_ 0 (v := .slice (some ⟨b, off, none⟩) 512 c) rfl) (by rfl) _ _ (by rfl) (by rfl) _ Try.underlying43 (by rfl) ?_; simp only [Act.put, List.setIfInBounds_toArray, List.set_cons_zero, List.set_cons_succ])
  (refine wpQuiet_load_cell (fun w' hw' => (Blk.near H0.out.2.1 hw' (by simp)).at_ 0 (v := .slice (some ⟨b, off, none⟩) 512 c) rfl) (by rfl) _ _ (by rfl) (by rfl) _ Try.underlying43 (by rfl) ?_; simp only [Act.put, List.setIfInBounds_toArray, List.set_cons_zero, List.set_cons_succ])
  refine wpQuiet_nil ?_
  refine wpTree_takeL _ _ _ (by rfl) (by rfl) ((Near.refl _ _).drew) ?_
  dsimp only [List.filterMap, List.getElem?_cons_zero, List.getElem?_cons_succ]
  repeat (go_big_quiet_step (exact fun _ => rfl))
  refine wpQuiet_array (by rfl) _ _ (by rfl) 16 _ Try.underlying105 (some ⟨b, off, none⟩) 16 c (by rfl) (Nat.le_refl _) ?_
  simp only [Act.put, List.setIfInBounds_toArray, List.set_cons_zero, List.set_cons_succ]
  refine wpQuiet_nil ?_
  refine wpTree_takeL _ _ _ (by rfl) (by rfl) ((Near.refl _ _).drew) ?_
  dsimp only [List.filterMap, List.getElem?_cons_zero, List.getElem?_cons_succ]
  refine wpQuiet_load_mid hcs (by rfl) _ _ (by rfl) (by rfl) _ Try.underlying105 (by rfl) size16 (by rw [List.length_map]; exact HT.out) ?_
  simp only [Act.put, List.setIfInBounds_toArray, List.set_cons_zero, List.set_cons_succ]
  refine wpQuiet_nil ?_
  refine wpTree_one _ rfl ?_
  go_wp2_with fail
  refine (hst _ (Near.refl _ _).drew).mono ?_
  rintro e w1 ⟨rfl, h1⟩
  rw [HS.out]
  clear hst hcs
  have H1 := Lib.hid (And.intro (H0.out.2.2.near h1 (by simp)) (below_near H0.out.1 h1 (fun x hx => by cases hx) H0.out.1.size))
  have hbr := H1.out.1
  go_wp2_with fail
  refine TreeQ.in_ h1 ?_
  refine wpTree_pure _ _ _ (by rfl) (by rfl) ?_
  dsimp only [List.filterMap, List.getElem?_cons_zero, List.getElem?_cons_succ]
  repeat (go_big_quiet_step (fail))
  refine wpQuiet_nil ?_
  refine wpTree_done ?_
  go_wp2_with (first
    | ((with_reducible show wpList _ _ _ ((⟨none, _, _, _, _, _⟩ : Oper) :: _) _ _); refine wpList_store_blk (o := ⟨none, _, _, _, _, _⟩) (hbr) (by rfl) _ _ _ (by rfl) (by rfl) (spz) (by rfl) (sizeSuper) (spc_size _ _ _) (spc_size _ _ _) (spc_one _ _ _ rfl) ?_; intro w2 h2 hu2; have HB2 := Lib.hid (H1.out.2.upd hu2 (Nat.le_succ _)); clear hbr hu2)
    | fail)
  refine bodyPost_ret (results_row_tmp (by rfl) _ _ _ _ _ _ (by rfl) h2 Try.underlying26 (by rfl) sizeSuper) rfl ?_
  refine ⟨fun _ => 0, false, none, 0, [], ?_, ?_, fun h => absurd h (by simp), Nat.le_refl _, (fun _ h => by cases h), HB2.out⟩
  · rw [H12.out]; rfl
  · rw [H12.out]; exact ⟨fun _ _ => rfl, rfl, rfl⟩
end Go.Proofs.Ytmhfehhpfkjloaa
