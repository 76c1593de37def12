/- A disk as plain data, and what its calls do to it; where it lies. Plain facts. No condition. -/
import Derived.Test.YtgkljncigbiffaaDoorMTableTurned7
namespace Go
open Go.RowKit
/-- A disk: its sectors' bytes, the old bytes of its loose sectors, is it out, its changes. -/
structure Dsk where
  N : Nat
  L : List UInt8
  old : Nat → Option (List UInt8)
  out : Bool
  ops : Int
structure Fus where
  left : Int
  gone : Bool
def Dsk.isOut (d : Dsk) (f : Option Fus) : Bool := d.out || (match f with | none => false | some f => f.gone)
structure Dsk.Ok (d : Dsk) : Prop where
  n1 : 1 ≤ d.N
  n2 : d.N ≤ 65536
  len : d.L.length = d.N * 256
  old : ∀ k l, d.old k = some l → k < d.N ∧ l.length = 256
/-- One more change. -/
def Dsk.tick (d : Dsk) : Dsk := { d with ops := wrap64 (d.ops + 1) }
def chg (d : Dsk) (f : Option Fus) (g : Dsk → Dsk) : Int × Dsk × Option Fus :=
  match f with
  | none => (0, g d.tick, none)
  | some f => if f.left = 0 then (11, d, some { f with gone := true }) else (0, g d.tick, some { f with left := wrap64 (f.left - 1) })
/-- What a write does. -/
def Dsk.put (d : Dsk) (at_ : Nat) (b : List UInt8) : Dsk := { d with L := wr d.L (256 * at_) b, old := oldW d.old d.L at_ (b.length / 256) }
def Dsk.write (d : Dsk) (f : Option Fus) (at_ : Int) (b : List UInt8) : Int × Dsk × Option Fus :=
  if d.isOut f = true then (11, d, f)
  else if b.length / 256 = 0 ∨ b.length % 256 ≠ 0 then (2, d, f)
  else if at_ < 0 ∨ (d.N : Int) - (b.length / 256 : Nat) < at_ then (5, d, f)
  else chg d f fun d => d.put at_.toNat b
def Dsk.read (d : Dsk) (f : Option Fus) (at_ n : Int) : List UInt8 × Int :=
  if d.isOut f = true then ([], 11)
  else if n < 0 ∨ at_ < 0 ∨ (d.N : Int) < at_ ∨ (d.N : Int) - at_ < n then ([], 5)
  else ((d.L.drop (256 * at_.toNat)).take (256 * n.toNat), 0)
def Dsk.turn (d : Dsk) (s a : Int) (m : UInt8) : Int × Dsk :=
  if s < 0 ∨ (d.N : Int) ≤ s ∨ a < 0 ∨ 256 ≤ a then (5, d)
  else (0, { d with L := d.L.set (s.toNat * 256 + a.toNat) (d.L.getD (s.toNat * 256 + a.toNat) 0 ^^^ m) })
def Dsk.new (N : Nat) : Dsk := ⟨N, List.replicate (N * 256) 0, fun _ => none, false, 0⟩
section
variable {d : Dsk}
theorem Dsk.Ok.new {N : Nat} (h : 1 ≤ N ∧ N ≤ 65536) : (Dsk.new N).Ok := ⟨h.1, h.2, List.length_replicate .., fun k l h => by cases h⟩
theorem Dsk.Ok.tick (h : d.Ok) : d.tick.Ok := ⟨h.n1, h.n2, h.len, h.old⟩
theorem sec_len {L : List UInt8} {i : Nat} (hi : 256 * (i + 1) ≤ L.length) : (sec L i).length = 256 := by unfold sec; rw [List.length_take, List.length_drop]; omega
theorem Dsk.Ok.put (h : d.Ok) {at_ : Nat} {b : List UInt8} (hb : b.length % 256 = 0) (hat : at_ + b.length / 256 ≤ d.N) : (d.put at_ b).Ok := by
  have hl := h.len
  refine ⟨h.n1, h.n2, ?_, fun k l hk => ?_⟩
  · show (wr d.L (256 * at_) b).length = _
    rw [wr_length (by omega)]; exact hl
  · show k < d.N ∧ _
    have hk : oldW d.old d.L at_ (b.length / 256) k = some l := hk
    unfold oldW at hk
    split at hk
    · rename_i hc
      injection hk with hk
      cases ho : d.old k with
      | none => rw [ho] at hk; rw [← hk]; exact ⟨by omega, sec_len (by omega)⟩
      | some m => rw [ho] at hk; rw [← hk]; exact h.old k m ho
    · exact h.old k l hk
theorem chg_ok {f : Option Fus} {g : Dsk → Dsk} (h : d.Ok) (hg : (g d.tick).Ok) : (chg d f g).2.1.Ok := by
  unfold chg
  split
  · exact hg
  · split
    · exact h
    · exact hg
theorem Dsk.write_ok {f : Option Fus} {at_ : Int} {b : List UInt8} (h : d.Ok) : (d.write f at_ b).2.1.Ok := by
  unfold Dsk.write
  split
  · exact h
  split
  · exact h
  split
  · exact h
  · exact chg_ok h (h.tick.put (by omega) (by show _ ≤ d.N; omega))
theorem Dsk.turn_ok {s a : Int} {m : UInt8} (h : d.Ok) : (d.turn s a m).2.Ok := by
  unfold Dsk.turn
  split
  · exact h
  · exact ⟨h.n1, h.n2, by rw [List.length_set]; exact h.len, h.old⟩
end
theorem Blk.apart {w : World} {g g' : Nat} {t t' : TypeId} {cs cs' : Array Value} (h : Blk w g t cs) (h' : Blk w g' t' cs') (hne : t ≠ t') : g ≠ g' := fun e => by
  subst e
  have h1 : w.heap[g]? = some (.cells cs t) := h
  have h2 : w.heap[g]? = some (.cells cs' t') := h'
  rw [h1] at h2
  injection h2 with h2
  injection h2 with _ h2
  exact hne h2
theorem Blk.offMap {w : World} {g g' : Nat} {t : TypeId} {cs : Array Value} {es : Array MapEntry} {c : Nat} (h : Blk w g t cs) (h' : MapB w g' es c) : g ≠ g' := fun e => by
  subst e
  have h1 : w.heap[g]? = some (.cells cs t) := h
  have h2 : w.heap[g]? = some (.map es c) := h'
  rw [h1] at h2
  cases h2
end Go
namespace Go.Proofs.YtgkljncigbiffaaDoor
open Go.RowKit
/-- Where a disk's blocks are: itself, its sectors, its map. -/
structure Pl where
  gd : Nat
  gl : Nat
  gm : Nat
def Pl.all (p : Pl) (gf : Option Nat) : List Nat := [p.gd, p.gl, p.gm] ++ gf.toList
def DskR (w : World) (p : Pl) (gf : Option Nat) (d : Dsk) : Prop := ∃ es c, DiskB w p.gd p.gl p.gm d.N d.L es c d.out gf d.ops ∧ OldIs es c d.old
def FusR (w : World) (gf : Option Nat) (f : Option Fus) : Prop := match gf, f with
  | none, none => True
  | some g, some f => FuseB w g f.left f.gone
  | _, _ => False
section
variable {w w' : World} {p : Pl} {gf : Option Nat} {d : Dsk} {f : Option Fus}
theorem DskR.apart (h : DskR w p gf d) : p.gd ≠ p.gl ∧ p.gd ≠ p.gm ∧ p.gl ≠ p.gm := by
  obtain ⟨es, c, ⟨h1, h2, h3⟩, _⟩ := h
  exact ⟨h1.apart h2 (by decide), h1.offMap h3, h2.offMap h3⟩
theorem FusR.has {g : Nat} (h : FusR w (some g) f) : ∃ x, f = some x ∧ FuseB w g x.left x.gone := by
  cases f with
  | none => cases h
  | some x => exact ⟨x, rfl, h⟩
theorem FusR.none_ (h : FusR w none f) : f = none := by
  cases f with
  | none => rfl
  | some x => cases h
theorem DskR.off (h : DskR w p gf d) (hf : FusR w gf f) {g : Nat} (hg : gf = some g) : g ≠ p.gd ∧ g ≠ p.gl ∧ g ≠ p.gm := by
  obtain ⟨es, c, ⟨h1, h2, h3⟩, _⟩ := h
  subst hg
  obtain ⟨x, rfl, hx⟩ := hf.has
  have hx : Blk w g _ _ := hx
  exact ⟨hx.apart h1 (by decide), hx.apart h2 (by decide), hx.offMap h3⟩
theorem DskR.near {X : List Nat} (h : DskR w p gf d) (k : Near X w w') (hX : p.gd ∉ X ∧ p.gl ∉ X ∧ p.gm ∉ X) : DskR w' p gf d := by
  obtain ⟨es, c, h1, h2⟩ := h
  exact ⟨es, c, h1.near k hX, h2⟩
theorem FusR.near {X : List Nat} (h : FusR w gf f) (k : Near X w w') (hX : ∀ g, gf = some g → g ∉ X) : FusR w' gf f := by
  cases gf with
  | none => obtain rfl := h.none_; exact trivial
  | some g =>
    obtain ⟨x, rfl, hx⟩ := h.has
    exact (show FuseB w' g x.left x.gone from Blk.near (hx : Blk w g _ _) k (hX g rfl))
theorem DskR.lt (h : DskR w p gf d) : p.gd < w.heap.size ∧ p.gl < w.heap.size ∧ p.gm < w.heap.size := by
  obtain ⟨es, c, ⟨h1, h2, h3⟩, _⟩ := h
  exact ⟨h1.lt, h2.lt, h3.lt⟩
theorem FusR.lt (h : FusR w gf f) {g : Nat} (hg : gf = some g) : g < w.heap.size := by
  subst hg
  obtain ⟨x, rfl, hx⟩ := h.has
  exact Blk.lt (hx : Blk w g _ _)
theorem isOut_all (h : DskR w p gf d) (hf : FusR w gf f) : Calls Tryd.prog 123 #[.pointer (some ⟨p.gd, 0, none⟩)] w fun e w' => e = .returned (.bool (d.isOut f)) ∧ w' = w := by
  obtain ⟨es, c, h1, _⟩ := h
  cases gf with
  | none =>
    obtain rfl := hf.none_
    have := isOut_none w h1
    simpa [Dsk.isOut] using this
  | some g =>
    obtain ⟨x, rfl, hx⟩ := hf.has
    exact isOut_some g x.left x.gone w h1 hx
theorem ready_all (h : DskR w p gf d) (hf : FusR w gf f) : Calls Tryd.prog 84 #[.pointer (some ⟨p.gd, 0, none⟩)] w fun e w' => e = .returned (.int .i64 (if d.isOut f = true then 11 else 0)) ∧ w' = w := by
  have h0 := h
  obtain ⟨es, c, h1, _⟩ := h
  exact ready_made w (d.isOut f) (fun w' e => by rw [e]; exact isOut_all h0 hf) h1
theorem up_all (h : DskR w p gf d) (hf : FusR w gf f) : Calls Tryd.prog 115 #[.pointer (some ⟨p.gd, 0, none⟩)] w fun e w' => e = .returned (.bool (!d.isOut f)) ∧ w' = w := by
  have h0 := h
  obtain ⟨es, c, h1, _⟩ := h
  exact up_made w (d.isOut f) (fun w' e => by rw [e]; exact isOut_all h0 hf) h1
theorem sectors_all (h : DskR w p gf d) : Calls Tryd.prog 114 #[.pointer (some ⟨p.gd, 0, none⟩)] w fun e w' => e = .returned (.int .i64 (d.N : Int)) ∧ w' = w := by
  obtain ⟨es, c, h1, _⟩ := h
  exact sectors_made w h1
end
theorem new_all (N : Nat) (h : 1 ≤ N ∧ N ≤ 65536) (w : World) : Calls Tryd.prog 17 #[.int .i64 (N : Int)] w fun e w' => ∃ p : Pl, e = .returned (.tuple #[.pointer (some ⟨p.gd, 0, none⟩), .int .i64 0]) ∧ DskR w' p none (Dsk.new N) ∧ (w.heap.size ≤ p.gd ∧ w.heap.size ≤ p.gl ∧ w.heap.size ≤ p.gm) ∧ Below w.heap.size w w' := by
  refine (new_any N h w).mono ?_
  rintro e w' ⟨gd, gl, gm, rfl, hd, hs, hb⟩
  exact ⟨⟨gd, gl, gm⟩, rfl, ⟨#[], 0, hd, OldIs.nil 0⟩, ⟨hs.1, hs.2.1, hs.2.2.1⟩, hb⟩
end Go.Proofs.YtgkljncigbiffaaDoor

/- A change of a disk, whatever its fuse; Flush. Conditions: what is to be done keeps to its contract. -/
namespace Go.Proofs.YtgkljncigbiffaaDoor
open Go.RowKit
section
variable {w w' : World} {p : Pl} {gf : Option Nat} {d : Dsk} {f : Option Fus}
theorem DskR.ticked (h : DskR w p gf d) : DskR (w.setCell ⟨p.gd, 4, none⟩ (.int .i64 (wrap64 (d.ops + 1)))) p gf d.tick := by
  have hne := h.apart
  obtain ⟨es, c, h1, h2⟩ := h
  exact ⟨es, c, h1.ops_ ⟨hne.1, hne.2.1⟩ _, h2⟩
set_option maxRecDepth 100000 in
set_option maxHeartbeats 1000000 in
theorem change_all (hd : DskR w p gf d) (hf : FusR w gf f) (k : Nat) (caps : Array Value) (g : Dsk → Dsk) (hcall : ∀ (args : Array Value) (w : World), (callFunc k args).run Tryd.prog w = .ok (.enter k args) w)
    (hk : ∀ w', DskR w' p gf d.tick → Near (p.gd :: gf.toList) w w' → Calls Tryd.prog k caps w' fun e w'' => e = .returned (.tuple #[]) ∧ DskR w'' p gf (g d.tick) ∧ Near [p.gl, p.gm] w' w'') :
    Calls Tryd.prog 111 #[.pointer (some ⟨p.gd, 0, none⟩), .func (.func k) #[] caps] w fun e w' => e = .returned (.int .i64 (chg d f g).1) ∧ DskR w' p gf (chg d f g).2.1 ∧ FusR w' gf (chg d f g).2.2 ∧ Near (p.all gf) w w' := by
  have hoff := fun g hg => hd.off hf (g := g) hg
  cases gf with
  | none =>
    obtain rfl := hf.none_
    have hK := Lib.hid (hk _ hd.ticked (Near.upd ((Upd.refl p.gd w).set 4 _) (.head _)))
    obtain ⟨es, c, h, ho⟩ := hd
    have d3 := h.1.at_ 3 (v := .pointer none) rfl
    have d4 := h.1.at_ 4 (v := .int .i64 d.ops) rfl
    have f4 := h.1.frozen 4
    have HN := Lib.hid (show Near [p.gd, p.gl, p.gm] w (w.setCell ⟨p.gd, 4, none⟩ (.int .i64 (wrap64 (d.ops + 1)))) from Near.upd ((Upd.refl p.gd w).set 4 _) (.head _))
    clear h hk ho hoff hf
    go_enter Tryd.func111, Tryd.ntmps111
    go_wp2_with fail
    refine hK.out.mono ?_
    rintro e w2 ⟨rfl, hq, hn⟩
    have HQ := Lib.hid (And.intro hq (HN.out.trans (hn.wider (fun x hx => by simp at hx; simp [hx]))))
    clear hq hn hK d3 d4 f4 HN
    go_wp2
    go_ret
    exact ⟨rfl, HQ.out.1, trivial, HQ.out.2⟩
  | some gq =>
    obtain ⟨x, rfl, hx⟩ := hf.has
    have hx : Blk w gq 211 #[.int .i64 x.left, .bool x.gone] := hx
    have hofq := hoff gq rfl
    have hd0 := hd
    obtain ⟨es, c, h, ho⟩ := hd
    have d3 := h.1.at_ 3 (v := .pointer (some ⟨gq, 0, none⟩)) rfl
    have q0 := hx.at_ 0 (v := .int .i64 x.left) rfl
    by_cases hz : x.left = 0
    · have hu := (Upd.refl gq w).set 1 (.bool true)
      have f1 := hx.frozen 1
      have q1 := hx.at_ 1 (v := .bool x.gone) rfl
      have HR := Lib.hid (show DskR (w.setCell ⟨gq, 1, none⟩ (.bool true)) p (some gq) d ∧ FusR (w.setCell ⟨gq, 1, none⟩ (.bool true)) (some gq) (some { x with gone := true }) ∧ Near (p.all (some gq)) w (w.setCell ⟨gq, 1, none⟩ (.bool true)) from
        ⟨hd0.near (Near.upd hu (List.mem_singleton.2 rfl)) (by simp; exact ⟨fun e => hofq.1 e.symm, fun e => hofq.2.1 e.symm, fun e => hofq.2.2 e.symm⟩), (hx.set_ 1 (.bool true)).sub rfl, Near.upd hu (by simp [Pl.all])⟩)
      have e1 : chg d (some x) g = (11, d, some { x with gone := true }) := if_pos hz
      rw [e1]
      rw [hz] at q0
      clear h ho hd0 hx hk hoff hofq e1 hz hu hf
      go_enter Tryd.func111, Tryd.ntmps111
      go_wp2
      go_ret
      exact ⟨rfl, HR.out⟩
    · have hu := (Upd.refl gq w).set 0 (.int .i64 (wrap64 (x.left - 1)))
      have f0 := hx.frozen 0
      have hn1 := Near.upd hu (List.mem_singleton.2 rfl)
      have hX1 : p.gd ∉ [gq] ∧ p.gl ∉ [gq] ∧ p.gm ∉ [gq] := by simp; exact ⟨fun e => hofq.1 e.symm, fun e => hofq.2.1 e.symm, fun e => hofq.2.2 e.symm⟩
      have hd1 := hd0.near hn1 hX1
      have hx1 : Blk (w.setCell ⟨gq, 0, none⟩ (.int .i64 (wrap64 (x.left - 1)))) gq 211 #[.int .i64 (wrap64 (x.left - 1)), .bool x.gone] := (hx.set_ 0 _).sub rfl
      have h1 := h.1.near hn1 hX1.1
      have d4 := h1.at_ 4 (v := .int .i64 d.ops) rfl
      have f4 := h1.frozen 4
      have hn2 := Near.upd ((Upd.refl p.gd (w.setCell ⟨gq, 0, none⟩ (.int .i64 (wrap64 (x.left - 1))))).set 4 (.int .i64 (wrap64 (d.ops + 1)))) (List.mem_singleton.2 rfl)
      have hn12 : Near (p.gd :: [gq]) w ((w.setCell ⟨gq, 0, none⟩ (.int .i64 (wrap64 (x.left - 1)))).setCell ⟨p.gd, 4, none⟩ (.int .i64 (wrap64 (d.ops + 1)))) := (hn1.wider (fun x hx => by simp at hx; simp [hx])).trans (hn2.wider (fun x hx => by simp at hx; simp [hx]))
      have hx2 := hx1.near hn2 (by simp; exact hofq.1)
      have HK := Lib.hid (And.intro (hk _ hd1.ticked hn12) (And.intro hn12 (And.intro hx2 hofq)))
      have e1 : chg d (some x) g = (0, g d.tick, some { x with left := wrap64 (x.left - 1) }) := if_neg hz
      rw [e1]
      have hz2 : (x.left == 0) = false := by simp [hz]
      clear h ho hd0 hx hk hoff hofq e1 hu hf hn1 hX1 hd1 hx1 h1 hn2 hn12 hx2 hz
      go_enter Tryd.func111, Tryd.ntmps111
      go_wp2_with fail
      refine HK.out.1.mono ?_
      rintro e w2 ⟨rfl, hq, hn⟩
      have HQ := Lib.hid (show DskR w2 p (some gq) (g d.tick) ∧ FusR w2 (some gq) (some { x with left := wrap64 (x.left - 1) }) ∧ Near (p.all (some gq)) w w2 from
        ⟨hq, HK.out.2.2.1.near hn (by simp; exact HK.out.2.2.2.2), (HK.out.2.1.wider (fun x hx => by simp at hx; rcases hx with rfl | rfl <;> simp [Pl.all])).trans (hn.wider (fun x hx => by simp at hx; rcases hx with rfl | rfl <;> simp [Pl.all]))⟩)
      clear hq hn HK d3 q0 f0 d4 f4 hz2
      go_wp2
      go_ret
      exact ⟨rfl, HQ.out⟩
end
end Go.Proofs.YtgkljncigbiffaaDoor

/- Three boxes of a call. Plain facts. No condition. -/
namespace Go.Proofs.YtgkljncigbiffaaDoor
open Go.RowKit
section
variable {gd gl gm N c : Nat} {L : List UInt8} {es : Array MapEntry} {out : Bool} {fz : Option Nat} {ops : Int}
theorem DiskB.drew {w : World} (h : DiskB w gd gl gm N L es c out fz ops) : DiskB w.drew gd gl gm N L es c out fz ops := ⟨h.1.drew, h.2.1.drew, h.2.2.drew⟩
theorem DiskB.apart {w : World} (h : DiskB w gd gl gm N L es c out fz ops) : gd < w.heap.size ∧ gl < w.heap.size ∧ gm < w.heap.size := ⟨h.1.lt, h.2.1.lt, h.2.2.lt⟩
theorem boxes3 (w : World) (t1 t2 t3 : TypeId) (v1 v2 v3 : Value) : Blk (((w.alloc (.cells #[v1] t1)).alloc (.cells #[v2] t2)).alloc (.cells #[v3] t3)) w.heap.size t1 #[v1] ∧ Blk (((w.alloc (.cells #[v1] t1)).alloc (.cells #[v2] t2)).alloc (.cells #[v3] t3)) (w.heap.size + 1) t2 #[v2] ∧
    Blk (((w.alloc (.cells #[v1] t1)).alloc (.cells #[v2] t2)).alloc (.cells #[v3] t3)) (w.heap.size + 1 + 1) t3 #[v3] ∧ Near [] w (((w.alloc (.cells #[v1] t1)).alloc (.cells #[v2] t2)).alloc (.cells #[v3] t3)) ∧ (((w.alloc (.cells #[v1] t1)).alloc (.cells #[v2] t2)).alloc (.cells #[v3] t3)).heap.size = w.heap.size + 3 := by
  have h0 := Blk.new w t1 #[v1]
  have h1 := Blk.new (w.alloc (.cells #[v1] t1)) t2 #[v2]
  have h2 := Blk.new ((w.alloc (.cells #[v1] t1)).alloc (.cells #[v2] t2)) t3 #[v3]
  have e1 : (w.alloc (.cells #[v1] t1)).heap.size = w.heap.size + 1 := by simp only [World.size_alloc]
  have e2 : ((w.alloc (.cells #[v1] t1)).alloc (.cells #[v2] t2)).heap.size = w.heap.size + 1 + 1 := by simp only [World.size_alloc]
  rw [e1] at h1
  rw [e2] at h2
  have b1 := (Below.refl (w.alloc (.cells #[v1] t1)).heap.size (w.alloc (.cells #[v1] t1))).alloc (Nat.le_refl _) (.cells #[v2] t2)
  have b2 := (Below.refl ((w.alloc (.cells #[v1] t1)).alloc (.cells #[v2] t2)).heap.size ((w.alloc (.cells #[v1] t1)).alloc (.cells #[v2] t2))).alloc (Nat.le_refl _) (.cells #[v3] t3)
  refine ⟨(h0.below b1 h0.lt).below b2 (h0.below b1 h0.lt).lt, h1.below b2 h1.lt, h2, ?_, by simp only [World.size_alloc]⟩
  exact (Near.below ((Below.refl w.heap.size w).alloc (Nat.le_refl _) _)).trans ((Near.below b1).trans (Near.below b2))
theorem callWr1 (args : Array Value) (w : World) : (callFunc 112 args).run Tryd.prog w = .ok (.enter 112 args) w := Tryd.call112 args w
end
end Go.Proofs.YtgkljncigbiffaaDoor

/- Write, of a disk that was made, in all cases. Conditions: the bytes can be read, lie apart from the disk's, and are fewer than 2^47. -/
namespace Go.Proofs.YtgkljncigbiffaaDoor
open Go.RowKit
section
variable {w w' : World} {p : Pl} {gf : Option Nat} {d : Dsk} {f : Option Fus}

set_option maxRecDepth 100000 in
set_option maxHeartbeats 4000000 in
theorem write_out (at_ : Int) (cap : Nat) (A : Option Addr) (b : List UInt8) (hby : Bytes w A b) (hA : ∀ ad, A = some ad → ad.block ∉ p.all gf) (hcap : b.length ≤ cap) (hbl : b.length ≤ 140737488355328) (hd : DskR w p gf d) (hok : d.Ok) (hf : FusR w gf f) (hq : d.isOut f = true) :
    Calls Tryd.prog 69 #[.pointer (some ⟨p.gd, 0, none⟩), .int .i64 at_, .slice A b.length cap] w fun e w' => e = .returned (.int .i64 11) ∧ DskR w' p gf d ∧ FusR w' gf f ∧ Near (p.all gf) w w' := by
  have HH := Lib.hid (And.intro hby (And.intro hA (And.intro hd hf)))
  have HN := Lib.hid (And.intro hcap (And.intro hbl hok))
  have hlt := Lib.hid (And.intro hd.lt (fun g hg => hf.lt (g := g) hg))
  clear hby hA hcap hbl hd hok hf
  go_enter Tryd.func69, Tryd.ntmps69
  go_wp2_with fail
  obtain ⟨hp, ha, hb, hnr, hsz⟩ := boxes3 w 25 3 22 (.pointer (some ⟨p.gd, 0, none⟩)) (.int .i64 at_) (.slice A b.length cap)
  generalize (((w.alloc (.cells #[.pointer (some ⟨p.gd, 0, none⟩)] 25)).alloc (.cells #[.int .i64 at_] 3)).alloc (.cells #[.slice A b.length cap] 22)) = w3 at hp ha hb hnr hsz ⊢
  have hX0 : ∀ g, g ∉ ([] : List Nat) := fun g h => by cases h
  have hd3 := HH.out.2.2.1.near hnr ⟨hX0 _, hX0 _, hX0 _⟩
  have hf3 := HH.out.2.2.2.near hnr (fun g _ => hX0 g)
  refine (ready_all hd3 hf3).mono ?_
  rintro e w4 ⟨rfl, hw⟩
  obtain rfl := hw.symm
  clear hw
  rw [if_pos hq]
  have HR := Lib.hid (show DskR w3 p gf d ∧ FusR w3 gf f ∧ Near (p.all gf) w w3 from ⟨hd3, hf3, hnr.wider (fun x hx => by cases hx)⟩)
  clear hd3 hf3 hnr hp ha hb hq HH HN hlt
  go_wp2
  go_ret
  exact ⟨rfl, HR.out⟩

set_option maxRecDepth 100000 in
set_option maxHeartbeats 4000000 in
theorem write_arg0 (at_ : Int) (cap : Nat) (A : Option Addr) (b : List UInt8) (hby : Bytes w A b) (hA : ∀ ad, A = some ad → ad.block ∉ p.all gf) (hcap : b.length ≤ cap) (hbl : b.length ≤ 140737488355328) (hd : DskR w p gf d) (hok : d.Ok) (hf : FusR w gf f) (hq : ¬ d.isOut f = true) (hn0 : b.length / 256 = 0) :
    Calls Tryd.prog 69 #[.pointer (some ⟨p.gd, 0, none⟩), .int .i64 at_, .slice A b.length cap] w fun e w' => e = .returned (.int .i64 2) ∧ DskR w' p gf d ∧ FusR w' gf f ∧ Near (p.all gf) w w' := by
  have HH := Lib.hid (And.intro hby (And.intro hA (And.intro hd hf)))
  have HN := Lib.hid (And.intro hcap (And.intro hbl hok))
  have hlt := Lib.hid (And.intro hd.lt (fun g hg => hf.lt (g := g) hg))
  clear hby hA hcap hbl hd hok hf
  go_enter Tryd.func69, Tryd.ntmps69
  go_wp2_with fail
  obtain ⟨hp, ha, hb, hnr, hsz⟩ := boxes3 w 25 3 22 (.pointer (some ⟨p.gd, 0, none⟩)) (.int .i64 at_) (.slice A b.length cap)
  generalize (((w.alloc (.cells #[.pointer (some ⟨p.gd, 0, none⟩)] 25)).alloc (.cells #[.int .i64 at_] 3)).alloc (.cells #[.slice A b.length cap] 22)) = w3 at hp ha hb hnr hsz ⊢
  have hX0 : ∀ g, g ∉ ([] : List Nat) := fun g h => by cases h
  have hd3 := HH.out.2.2.1.near hnr ⟨hX0 _, hX0 _, hX0 _⟩
  have hf3 := HH.out.2.2.2.near hnr (fun g _ => hX0 g)
  refine (ready_all hd3 hf3).mono ?_
  rintro e w4 ⟨rfl, hw⟩
  obtain rfl := hw.symm
  clear hw
  rw [if_neg hq]
  have dn := hb.at_ 0 (v := .slice A b.length cap) rfl
  have dp := hp.at_ 0 (v := .pointer (some ⟨p.gd, 0, none⟩)) rfl
  have da := ha.at_ 0 (v := .int .i64 at_) rfl
  have hq1 : (b.length : Int) / 256 = 0 := by omega
  have hnr5 := Near.below (X := []) ((Below.refl w3.heap.size w3).alloc (Nat.le_refl _) (.cells #[.int .i64 0] 3))
  have HR := Lib.hid (show DskR (w3.alloc (.cells #[.int .i64 0] 3)) p gf d ∧ FusR (w3.alloc (.cells #[.int .i64 0] 3)) gf f ∧ Near (p.all gf) w (w3.alloc (.cells #[.int .i64 0] 3)) from ⟨hd3.near hnr5 ⟨hX0 _, hX0 _, hX0 _⟩, hf3.near hnr5 (fun g _ => hX0 g), (hnr.trans hnr5).wider (fun x hx => by cases hx)⟩)
  have dn6 := (hb.near hnr5 (hX0 _)).at_ 0 (v := .slice A b.length cap) rfl
  clear hd3 hf3 hnr hnr5 hp ha hb HH HN hlt hq hsz hn0
  go_wp2
  go_ret
  exact ⟨rfl, HR.out⟩

set_option maxRecDepth 100000 in
set_option maxHeartbeats 4000000 in
theorem write_arg1 (at_ : Int) (cap : Nat) (A : Option Addr) (b : List UInt8) (hby : Bytes w A b) (hA : ∀ ad, A = some ad → ad.block ∉ p.all gf) (hcap : b.length ≤ cap) (hbl : b.length ≤ 140737488355328) (hd : DskR w p gf d) (hok : d.Ok) (hf : FusR w gf f) (hq : ¬ d.isOut f = true) (hn0 : ¬ b.length / 256 = 0) (hn1 : b.length % 256 ≠ 0) :
    Calls Tryd.prog 69 #[.pointer (some ⟨p.gd, 0, none⟩), .int .i64 at_, .slice A b.length cap] w fun e w' => e = .returned (.int .i64 2) ∧ DskR w' p gf d ∧ FusR w' gf f ∧ Near (p.all gf) w w' := by
  have HH := Lib.hid (And.intro hby (And.intro hA (And.intro hd hf)))
  have HN := Lib.hid (And.intro hcap (And.intro hbl hok))
  have hlt := Lib.hid (And.intro hd.lt (fun g hg => hf.lt (g := g) hg))
  clear hby hA hcap hbl hd hok hf
  go_enter Tryd.func69, Tryd.ntmps69
  go_wp2_with fail
  obtain ⟨hp, ha, hb, hnr, hsz⟩ := boxes3 w 25 3 22 (.pointer (some ⟨p.gd, 0, none⟩)) (.int .i64 at_) (.slice A b.length cap)
  generalize (((w.alloc (.cells #[.pointer (some ⟨p.gd, 0, none⟩)] 25)).alloc (.cells #[.int .i64 at_] 3)).alloc (.cells #[.slice A b.length cap] 22)) = w3 at hp ha hb hnr hsz ⊢
  have hX0 : ∀ g, g ∉ ([] : List Nat) := fun g h => by cases h
  have hd3 := HH.out.2.2.1.near hnr ⟨hX0 _, hX0 _, hX0 _⟩
  have hf3 := HH.out.2.2.2.near hnr (fun g _ => hX0 g)
  refine (ready_all hd3 hf3).mono ?_
  rintro e w4 ⟨rfl, hw⟩
  obtain rfl := hw.symm
  clear hw
  rw [if_neg hq]
  have dn := hb.at_ 0 (v := .slice A b.length cap) rfl
  have dp := hp.at_ 0 (v := .pointer (some ⟨p.gd, 0, none⟩)) rfl
  have da := ha.at_ 0 (v := .int .i64 at_) rfl
  obtain ⟨n, hn⟩ : ∃ n, n = b.length / 256 := ⟨_, rfl⟩
  have hq1 : (b.length : Int) / 256 = (n : Int) := by omega
  have hq1w : wrap64 (n : Int) = (n : Int) := by have := HN.out; unfold wrap64; omega
  have hq2 : ((b.length : Int) % 256 != 0) = true := by simp; omega
  have hq3 : ((n : Int) == 0) = false := by simp; omega
  have hnr5 := Near.below (X := []) ((Below.refl w3.heap.size w3).alloc (Nat.le_refl _) (.cells #[.int .i64 (n : Int)] 3))
  have HR := Lib.hid (show DskR (w3.alloc (.cells #[.int .i64 (n : Int)] 3)) p gf d ∧ FusR (w3.alloc (.cells #[.int .i64 (n : Int)] 3)) gf f ∧ Near (p.all gf) w (w3.alloc (.cells #[.int .i64 (n : Int)] 3)) from ⟨hd3.near hnr5 ⟨hX0 _, hX0 _, hX0 _⟩, hf3.near hnr5 (fun g _ => hX0 g), (hnr.trans hnr5).wider (fun x hx => by cases hx)⟩)
  have dn6 := (hb.near hnr5 (hX0 _)).at_ 0 (v := .slice A b.length cap) rfl
  clear hd3 hf3 hnr hnr5 hp ha hb HH HN hlt hq hsz hn0 hn
  go_wp2
  go_ret
  exact ⟨rfl, HR.out⟩

set_option maxRecDepth 100000 in
set_option maxHeartbeats 4000000 in
theorem write_range (at_ : Int) (cap : Nat) (A : Option Addr) (b : List UInt8) (hby : Bytes w A b) (hA : ∀ ad, A = some ad → ad.block ∉ p.all gf) (hcap : b.length ≤ cap) (hbl : b.length ≤ 140737488355328) (hd : DskR w p gf d) (hok : d.Ok) (hf : FusR w gf f) (hq : ¬ d.isOut f = true) (hn0 : ¬ b.length / 256 = 0) (hn1 : b.length % 256 = 0) (hr : at_ < 0 ∨ (d.N : Int) - (b.length / 256 : Nat) < at_) :
    Calls Tryd.prog 69 #[.pointer (some ⟨p.gd, 0, none⟩), .int .i64 at_, .slice A b.length cap] w fun e w' => e = .returned (.int .i64 5) ∧ DskR w' p gf d ∧ FusR w' gf f ∧ Near (p.all gf) w w' := by
  have HH := Lib.hid (And.intro hby (And.intro hA (And.intro hd hf)))
  have HN := Lib.hid (And.intro hcap (And.intro hbl hok))
  have hlt := Lib.hid (And.intro hd.lt (fun g hg => hf.lt (g := g) hg))
  clear hby hA hcap hbl hd hok hf
  go_enter Tryd.func69, Tryd.ntmps69
  go_wp2_with fail
  obtain ⟨hp, ha, hb, hnr, hsz⟩ := boxes3 w 25 3 22 (.pointer (some ⟨p.gd, 0, none⟩)) (.int .i64 at_) (.slice A b.length cap)
  generalize (((w.alloc (.cells #[.pointer (some ⟨p.gd, 0, none⟩)] 25)).alloc (.cells #[.int .i64 at_] 3)).alloc (.cells #[.slice A b.length cap] 22)) = w3 at hp ha hb hnr hsz ⊢
  have hX0 : ∀ g, g ∉ ([] : List Nat) := fun g h => by cases h
  have hd3 := HH.out.2.2.1.near hnr ⟨hX0 _, hX0 _, hX0 _⟩
  have hf3 := HH.out.2.2.2.near hnr (fun g _ => hX0 g)
  refine (ready_all hd3 hf3).mono ?_
  rintro e w4 ⟨rfl, hw⟩
  obtain rfl := hw.symm
  clear hw
  rw [if_neg hq]
  obtain ⟨n, hn⟩ : ∃ n, n = b.length / 256 := ⟨_, rfl⟩
  have hq1 : (b.length : Int) / 256 = (n : Int) := by omega
  have hq1w : wrap64 (n : Int) = (n : Int) := by have := HN.out; unfold wrap64; omega
  have dn := hb.at_ 0 (v := .slice A b.length cap) rfl
  have dp := hp.at_ 0 (v := .pointer (some ⟨p.gd, 0, none⟩)) rfl
  have da := ha.at_ 0 (v := .int .i64 at_) rfl
  have hq2 : ((b.length : Int) % 256) = 0 := by omega
  have hq3 : ((n : Int) == 0) = false := by simp; omega
  have HB := Lib.hid (And.intro hn0 hn)
  clear hn hn0
  go_wp2_with fail
  have hn5 := Blk.new w3 3 #[.int .i64 (n : Int)]
  have hnr5 := Near.below (X := []) ((Below.refl w3.heap.size w3).alloc (Nat.le_refl _) (.cells #[.int .i64 (n : Int)] 3))
  rw [hsz] at hn5
  generalize w3.alloc (.cells #[.int .i64 (n : Int)] 3) = w5 at hn5 hnr5 ⊢
  have hd5 := hd3.near hnr5 ⟨hX0 _, hX0 _, hX0 _⟩
  have hf5 := hf3.near hnr5 (fun g _ => hX0 g)
  replace hp := hp.near hnr5 (hX0 _)
  replace ha := ha.near hnr5 (hX0 _)
  replace hb := hb.near hnr5 (hX0 _)
  have hN7 := hnr.trans hnr5
  clear dn dp da hd3 hf3 hnr hnr5 hq1 hq1w
  have HE := Lib.hid hr
  by_cases hneg : at_ < 0
  all_goals clear hr
  · have hlt0 : decide (at_ < 0) = true := by simp [hneg]
    clear hsz hneg
    go_wp2_with fail
    have hd5' := hd5
    obtain ⟨es5, c5, hd5c, -⟩ := hd5'
    refine wp_region_tree (Near [] w5) [] (PlanT.takes [0] (PlanT.takes [1, 2] (PlanT.takes [3, 4, 9] (PlanT.takes [5, 6] (PlanT.takes [7] (PlanT.takes [8, 10, 11, 12, 13] .done)))))) (by kernel_rfl) (by kernel_rfl) ((Near.refl _ _).drew) ?_
    refine wpTree_takeL _ _ _ (by rfl) (by rfl) ((Near.refl _ _).drew) ?_
    dsimp only [List.filterMap, List.getElem?_cons_zero, List.getElem?_cons_succ]
    (refine wpQuiet_load_cell (fun w' hw' => (Blk.near ha hw' (hX0 _)).at_ 0 (v := .int .i64 at_) rfl) (by rfl) _ _ (by rfl) (by rfl) _ Tryd.underlying3 (by rfl) ?_; simp only [Act.put, List.setIfInBounds_toArray, List.set_cons_zero, List.set_cons_succ])
    refine wpQuiet_nil ?_
    refine wpTree_pure _ _ _ (by rfl) (by rfl) ?_
    dsimp only [List.filterMap, List.getElem?_cons_zero, List.getElem?_cons_succ]
    repeat (go_big_quiet_step (fail))
    refine wpQuiet_nil ?_
    refine wpTree_takeL _ _ _ (by rfl) (by rfl) ((Near.refl _ _).drew) ?_
    dsimp only [List.filterMap, List.getElem?_cons_zero, List.getElem?_cons_succ]
    go_big_quiet_step (fail)
    go_big_quiet_step (fail)
    go_big_quiet_step (fail)
    refine wpQuiet_nil ?_
    refine wpTree_pure _ _ _ (by rfl) (by rfl) ?_
    dsimp only [List.filterMap, List.getElem?_cons_zero, List.getElem?_cons_succ]
    repeat (go_big_quiet_step (fail))
    refine wpQuiet_nil ?_
    refine wpTree_takeL _ _ _ (by rfl) (by rfl) ((Near.refl _ _).drew) ?_
    dsimp only [List.filterMap, List.getElem?_cons_zero, List.getElem?_cons_succ]
    go_big_quiet_step (fail)
    refine wpQuiet_nil ?_
    refine wpTree_pure _ _ _ (by rfl) (by rfl) ?_
    dsimp only [List.filterMap, List.getElem?_cons_zero, List.getElem?_cons_succ]
    repeat (go_big_quiet_step (fail))
    refine wpQuiet_nil ?_
    refine wpTree_done ?_
    have HR := Lib.hid (show DskR w5.drew p gf d ∧ FusR w5.drew gf f ∧ Near (p.all gf) w w5.drew from ⟨hd5.near (Near.refl [] _).drew ⟨hX0 _, hX0 _, hX0 _⟩, hf5.near (Near.refl [] _).drew (fun g _ => hX0 g), (hN7.wider (fun x hx => by cases hx)).drew⟩)
    clear hd5 hf5 hN7 hp ha hb hn5 HH HN hlt hq HB hd5c HE hlt0
    go_wp2
    go_ret
    exact ⟨rfl, HR.out⟩
  · have hlt0 : decide (at_ < 0) = false := by simp; omega
    have hgt : decide (wrap64 ((d.N : Int) - (n : Int)) < at_) = true := by have h1 := HN.out.2.2.n2; have h2 := HE.out; have h3 := HN.out; have h4 := HB.out; rw [show wrap64 ((d.N : Int) - (n : Int)) = (d.N : Int) - n by unfold wrap64; omega]; simp; omega
    clear hsz hneg
    go_wp2_with fail
    have hd5' := hd5
    obtain ⟨es5, c5, hd5c, -⟩ := hd5'
    refine wp_region_tree (Near [] w5) [] (PlanT.takes [0] (PlanT.takes [1, 2] (PlanT.takes [3, 4, 9] (PlanT.takes [5, 6] (PlanT.takes [7] (PlanT.takes [8, 10, 11, 12, 13] .done)))))) (by kernel_rfl) (by kernel_rfl) ((Near.refl _ _).drew) ?_
    refine wpTree_takeL _ _ _ (by rfl) (by rfl) ((Near.refl _ _).drew) ?_
    dsimp only [List.filterMap, List.getElem?_cons_zero, List.getElem?_cons_succ]
    (refine wpQuiet_load_cell (fun w' hw' => (Blk.near ha hw' (hX0 _)).at_ 0 (v := .int .i64 at_) rfl) (by rfl) _ _ (by rfl) (by rfl) _ Tryd.underlying3 (by rfl) ?_; simp only [Act.put, List.setIfInBounds_toArray, List.set_cons_zero, List.set_cons_succ])
    refine wpQuiet_nil ?_
    refine wpTree_pure _ _ _ (by rfl) (by rfl) ?_
    dsimp only [List.filterMap, List.getElem?_cons_zero, List.getElem?_cons_succ]
    repeat (go_big_quiet_step (fail))
    refine wpQuiet_nil ?_
    refine wpTree_takeL _ _ _ (by rfl) (by rfl) ((Near.refl _ _).drew) ?_
    dsimp only [List.filterMap, List.getElem?_cons_zero, List.getElem?_cons_succ]
    (refine wpQuiet_want' (by rfl) ?_; refine wpQuiet_load_cell (fun w' hw' => (Blk.near ha hw' (hX0 _)).at_ 0 (v := .int .i64 at_) rfl) (by rfl) _ _ (by rfl) (by rfl) _ Tryd.underlying3 (by rfl) ?_; simp only [Act.put, List.setIfInBounds_toArray, List.set_cons_zero, List.set_cons_succ])
    (refine wpQuiet_want' (by rfl) ?_; refine wpQuiet_load_cell (fun w' hw' => (Blk.near hp hw' (hX0 _)).at_ 0 (v := .pointer (some ⟨p.gd, 0, none⟩)) rfl) (by rfl) _ _ (by rfl) (by rfl) _ Tryd.underlying25 (by rfl) ?_; simp only [Act.put, List.setIfInBounds_toArray, List.set_cons_zero, List.set_cons_succ])
    (refine wpQuiet_want' (by rfl) ?_; refine wpQuiet_load_cell (fun w' hw' => (Blk.near hn5 hw' (hX0 _)).at_ 0 (v := .int .i64 (n : Int)) rfl) (by rfl) _ _ (by rfl) (by rfl) _ Tryd.underlying3 (by rfl) ?_; simp only [Act.put, List.setIfInBounds_toArray, List.set_cons_zero, List.set_cons_succ])
    refine wpQuiet_nil ?_
    refine wpTree_pure _ _ _ (by rfl) (by rfl) ?_
    dsimp only [List.filterMap, List.getElem?_cons_zero, List.getElem?_cons_succ]
    repeat (go_big_quiet_step (fail))
    refine wpQuiet_nil ?_
    refine wpTree_takeL _ _ _ (by rfl) (by rfl) ((Near.refl _ _).drew) ?_
    dsimp only [List.filterMap, List.getElem?_cons_zero, List.getElem?_cons_succ]
    (refine wpQuiet_want' (by rfl) ?_; refine wpQuiet_load_cell (fun w' hw' => (Blk.near hd5c.1 hw' (hX0 _)).at_ 0 (v := .slice (some ⟨p.gl, 0, none⟩) d.N d.N) rfl) (by rfl) _ _ (by rfl) (by rfl) _ Tryd.underlying101 (by rfl) ?_; simp only [Act.put, List.setIfInBounds_toArray, List.set_cons_zero, List.set_cons_succ])
    refine wpQuiet_nil ?_
    refine wpTree_pure _ _ _ (by rfl) (by rfl) ?_
    dsimp only [List.filterMap, List.getElem?_cons_zero, List.getElem?_cons_succ]
    repeat (go_big_quiet_step (fail))
    refine wpQuiet_nil ?_
    refine wpTree_done ?_
    have HR := Lib.hid (show DskR w5.drew p gf d ∧ FusR w5.drew gf f ∧ Near (p.all gf) w w5.drew from ⟨hd5.near (Near.refl [] _).drew ⟨hX0 _, hX0 _, hX0 _⟩, hf5.near (Near.refl [] _).drew (fun g _ => hX0 g), (hN7.wider (fun x hx => by cases hx)).drew⟩)
    clear hd5 hf5 hN7 hp ha hb hn5 HH HN hlt hq HB hd5c HE hlt0 hgt
    go_wp2
    go_ret
    exact ⟨rfl, HR.out⟩

set_option maxRecDepth 100000 in
set_option maxHeartbeats 4000000 in
theorem write_go (at_ : Int) (cap : Nat) (A : Option Addr) (b : List UInt8) (hby : Bytes w A b) (hA : ∀ ad, A = some ad → ad.block ∉ p.all gf) (hcap : b.length ≤ cap) (hbl : b.length ≤ 140737488355328) (hd : DskR w p gf d) (hok : d.Ok) (hf : FusR w gf f) (hq : ¬ d.isOut f = true) (hn0 : ¬ b.length / 256 = 0) (hn1 : b.length % 256 = 0) (k : Nat) (hk : at_ = (k : Int)) (hr : k + b.length / 256 ≤ d.N) :
    Calls Tryd.prog 69 #[.pointer (some ⟨p.gd, 0, none⟩), .int .i64 at_, .slice A b.length cap] w fun e w' => e = .returned (.int .i64 (chg d f fun d => d.put k b).1) ∧ DskR w' p gf (chg d f fun d => d.put k b).2.1 ∧ FusR w' gf (chg d f fun d => d.put k b).2.2 ∧ Near (p.all gf) w w' := by
  subst hk
  have HH := Lib.hid (And.intro hby (And.intro hA (And.intro hd hf)))
  have HN := Lib.hid (And.intro hcap (And.intro hbl hok))
  have hlt := Lib.hid (And.intro hd.lt (fun g hg => hf.lt (g := g) hg))
  clear hby hA hcap hbl hd hok hf
  go_enter Tryd.func69, Tryd.ntmps69
  go_wp2_with fail
  obtain ⟨hp, ha, hb, hnr, hsz⟩ := boxes3 w 25 3 22 (.pointer (some ⟨p.gd, 0, none⟩)) (.int .i64 (k : Int)) (.slice A b.length cap)
  generalize (((w.alloc (.cells #[.pointer (some ⟨p.gd, 0, none⟩)] 25)).alloc (.cells #[.int .i64 (k : Int)] 3)).alloc (.cells #[.slice A b.length cap] 22)) = w3 at hp ha hb hnr hsz ⊢
  have hX0 : ∀ g, g ∉ ([] : List Nat) := fun g h => by cases h
  have hd3 := HH.out.2.2.1.near hnr ⟨hX0 _, hX0 _, hX0 _⟩
  have hf3 := HH.out.2.2.2.near hnr (fun g _ => hX0 g)
  refine (ready_all hd3 hf3).mono ?_
  rintro e w4 ⟨rfl, hw⟩
  obtain rfl := hw.symm
  clear hw
  rw [if_neg hq]
  obtain ⟨n, hn⟩ : ∃ n, n = b.length / 256 := ⟨_, rfl⟩
  have hq1 : (b.length : Int) / 256 = (n : Int) := by omega
  have hq1w : wrap64 (n : Int) = (n : Int) := by have := HN.out; unfold wrap64; omega
  have dn := hb.at_ 0 (v := .slice A b.length cap) rfl
  have dp := hp.at_ 0 (v := .pointer (some ⟨p.gd, 0, none⟩)) rfl
  have da := ha.at_ 0 (v := .int .i64 (k : Int)) rfl
  have hq2 : ((b.length : Int) % 256) = 0 := by omega
  have hq3 : ((n : Int) == 0) = false := by simp; omega
  have HB := Lib.hid (And.intro hn0 hn)
  clear hn hn0
  go_wp2_with fail
  have hn5 := Blk.new w3 3 #[.int .i64 (n : Int)]
  have hnr5 := Near.below (X := []) ((Below.refl w3.heap.size w3).alloc (Nat.le_refl _) (.cells #[.int .i64 (n : Int)] 3))
  rw [hsz] at hn5
  generalize w3.alloc (.cells #[.int .i64 (n : Int)] 3) = w5 at hn5 hnr5 ⊢
  have hd5 := hd3.near hnr5 ⟨hX0 _, hX0 _, hX0 _⟩
  have hf5 := hf3.near hnr5 (fun g _ => hX0 g)
  replace hp := hp.near hnr5 (hX0 _)
  replace ha := ha.near hnr5 (hX0 _)
  replace hb := hb.near hnr5 (hX0 _)
  have hN7 := hnr.trans hnr5
  clear dn dp da hd3 hf3 hnr hnr5 hq1 hq1w
  have hrn : k + n ≤ d.N := by have := HB.out; omega
  have hlt0 : ((k : Int) < 0) = False := by simp
  have hgt : decide (wrap64 ((d.N : Int) - (n : Int)) < (k : Int)) = false := by have h1 := HN.out.2.2.n2; have h4 := HB.out; rw [show wrap64 ((d.N : Int) - (n : Int)) = (d.N : Int) - n by unfold wrap64; omega]; simp; omega
  clear hsz
  go_wp2_with fail
  have hd5' := hd5
  obtain ⟨es5, c5, hd5c, -⟩ := hd5'
  refine wp_region_tree (Near [] w5) [] (PlanT.takes [0] (PlanT.takes [1, 2] (PlanT.takes [3, 4, 9] (PlanT.takes [5, 6] (PlanT.takes [7] (PlanT.takes [8, 10, 11, 12, 13] .done)))))) (by kernel_rfl) (by kernel_rfl) ((Near.refl _ _).drew) ?_
  refine wpTree_takeL _ _ _ (by rfl) (by rfl) ((Near.refl _ _).drew) ?_
  dsimp only [List.filterMap, List.getElem?_cons_zero, List.getElem?_cons_succ]
  (refine wpQuiet_load_cell (fun w' hw' => (Blk.near ha hw' (hX0 _)).at_ 0 (v := .int .i64 (k : Int)) rfl) (by rfl) _ _ (by rfl) (by rfl) _ Tryd.underlying3 (by rfl) ?_; simp only [Act.put, List.setIfInBounds_toArray, List.set_cons_zero, List.set_cons_succ])
  refine wpQuiet_nil ?_
  refine wpTree_pure _ _ _ (by rfl) (by rfl) ?_
  dsimp only [List.filterMap, List.getElem?_cons_zero, List.getElem?_cons_succ]
  repeat (go_big_quiet_step (fail))
  refine wpQuiet_nil ?_
  refine wpTree_takeL _ _ _ (by rfl) (by rfl) ((Near.refl _ _).drew) ?_
  dsimp only [List.filterMap, List.getElem?_cons_zero, List.getElem?_cons_succ]
  (refine wpQuiet_want' (by rfl) ?_; refine wpQuiet_load_cell (fun w' hw' => (Blk.near ha hw' (hX0 _)).at_ 0 (v := .int .i64 (k : Int)) rfl) (by rfl) _ _ (by rfl) (by rfl) _ Tryd.underlying3 (by rfl) ?_; simp only [Act.put, List.setIfInBounds_toArray, List.set_cons_zero, List.set_cons_succ])
  (refine wpQuiet_want' (by rfl) ?_; refine wpQuiet_load_cell (fun w' hw' => (Blk.near hp hw' (hX0 _)).at_ 0 (v := .pointer (some ⟨p.gd, 0, none⟩)) rfl) (by rfl) _ _ (by rfl) (by rfl) _ Tryd.underlying25 (by rfl) ?_; simp only [Act.put, List.setIfInBounds_toArray, List.set_cons_zero, List.set_cons_succ])
  (refine wpQuiet_want' (by rfl) ?_; refine wpQuiet_load_cell (fun w' hw' => (Blk.near hn5 hw' (hX0 _)).at_ 0 (v := .int .i64 (n : Int)) rfl) (by rfl) _ _ (by rfl) (by rfl) _ Tryd.underlying3 (by rfl) ?_; simp only [Act.put, List.setIfInBounds_toArray, List.set_cons_zero, List.set_cons_succ])
  refine wpQuiet_nil ?_
  refine wpTree_pure _ _ _ (by rfl) (by rfl) ?_
  dsimp only [List.filterMap, List.getElem?_cons_zero, List.getElem?_cons_succ]
  repeat (go_big_quiet_step (fail))
  refine wpQuiet_nil ?_
  refine wpTree_takeL _ _ _ (by rfl) (by rfl) ((Near.refl _ _).drew) ?_
  dsimp only [List.filterMap, List.getElem?_cons_zero, List.getElem?_cons_succ]
  (refine wpQuiet_want' (by rfl) ?_; refine wpQuiet_load_cell (fun w' hw' => (Blk.near hd5c.1 hw' (hX0 _)).at_ 0 (v := .slice (some ⟨p.gl, 0, none⟩) d.N d.N) rfl) (by rfl) _ _ (by rfl) (by rfl) _ Tryd.underlying101 (by rfl) ?_; simp only [Act.put, List.setIfInBounds_toArray, List.set_cons_zero, List.set_cons_succ])
  refine wpQuiet_nil ?_
  refine wpTree_pure _ _ _ (by rfl) (by rfl) ?_
  dsimp only [List.filterMap, List.getElem?_cons_zero, List.getElem?_cons_succ]
  repeat (go_big_quiet_step (fail))
  refine wpQuiet_nil ?_
  refine wpTree_done ?_
  have HK := Lib.hid (And.intro hn5.drew (And.intro hp.drew (And.intro ha.drew (And.intro hb.drew (And.intro (hd5.near (Near.refl [] _).drew ⟨hX0 _, hX0 _, hX0 _⟩) (And.intro (hf5.near (Near.refl [] _).drew (fun g _ => hX0 g)) hN7.drew))))))
  have dp := hp.drew.at_ 0 (v := .pointer (some ⟨p.gd, 0, none⟩)) rfl
  generalize w5.drew = w6 at HK dp ⊢
  clear hgt hlt0 hq3 hn5 hp ha hb hd5 hN7 hd5c hf5 hq2
  go_wp2_with fail
  clear dp
  have hn0 := HB.out.1
  have hn := HB.out.2
  refine (change_all HK.out.2.2.2.2.1 HK.out.2.2.2.2.2.1 112 _ (fun d => d.put k b) callWr1 (fun w7 hd7 hn7 => ?_)).mono ?_
  · have hX : ∀ x, w.heap.size ≤ x → x ∉ p.gd :: gf.toList ∧ x ∉ [p.gl, p.gm] := fun x hx => by
      have h := hlt.out
      simp
      exact ⟨⟨by omega, fun e => by have := h.2 _ e; omega⟩, by omega, by omega⟩
    have hap := hd7.apart
    have hAA := HH.out.2.1
    obtain ⟨es7, c7, hd7c, ho7⟩ := hd7
    have hA1 : ∀ ad, A = some ad → ad.block ∉ p.gd :: gf.toList := fun ad e => by have h := hAA ad e; simp [Pl.all] at h ⊢; exact ⟨h.1, h.2.2.2⟩
    have hA2 : ∀ ad, A = some ad → ad.block ∉ [p.gl, p.gm] := fun ad e => by have h := hAA ad e; simp [Pl.all] at h ⊢; exact ⟨h.2.1, h.2.2.1⟩
    refine (write1_any (w.heap.size + 3) w.heap.size (w.heap.size + 1) (w.heap.size + 1 + 1) n k cap A b w7 (HK.out.1.near hn7 (hX _ (by omega)).1) (HK.out.2.1.near hn7 (hX _ (by omega)).1) (HK.out.2.2.1.near hn7 (hX _ (by omega)).1) (HK.out.2.2.2.1.near hn7 (hX _ (by omega)).1)
      (Bytes.near (Bytes.near HH.out.1 HK.out.2.2.2.2.2.2 (fun ad _ => hX0 _)) hn7 hA1) hA2 (by omega) HN.out.1 (by show k + n ≤ d.N; omega) HN.out.2.2.n2 HN.out.2.2.len
      hd7c ho7 ⟨(hX _ (by omega)).2, (hX _ (by omega)).2, (hX _ (by omega)).2, (hX _ (by omega)).2, by simp; exact ⟨hap.1, hap.2.1⟩, hap.2.2⟩).mono ?_
    rintro e w8 ⟨rfl, es', c', h1, h2, h4⟩
    exact ⟨rfl, ⟨es', c', h1, by show OldIs es' c' (oldW d.old d.L k (b.length / 256)); rw [← hn]; exact h2⟩, h4⟩
  · rintro e w8 ⟨rfl, h1, h2, h4⟩
    have HR := Lib.hid (And.intro h1 (And.intro h2 (show Near (p.all gf) w w8 from (HK.out.2.2.2.2.2.2.wider (fun x hx => by cases hx)).trans h4)))
    clear h1 h2 h4
    go_wp2
    go_ret
    exact ⟨rfl, HR.out⟩

theorem write_all (at_ : Int) (cap : Nat) (A : Option Addr) (b : List UInt8) (hby : Bytes w A b) (hA : ∀ ad, A = some ad → ad.block ∉ p.all gf) (hcap : b.length ≤ cap) (hbl : b.length ≤ 140737488355328) (hd : DskR w p gf d) (hok : d.Ok) (hf : FusR w gf f) :
    Calls Tryd.prog 69 #[.pointer (some ⟨p.gd, 0, none⟩), .int .i64 at_, .slice A b.length cap] w fun e w' => e = .returned (.int .i64 (d.write f at_ b).1) ∧ DskR w' p gf (d.write f at_ b).2.1 ∧ FusR w' gf (d.write f at_ b).2.2 ∧ Near (p.all gf) w w' := by
  by_cases hq : d.isOut f = true
  · rw [show d.write f at_ b = (11, d, f) from if_pos hq]; exact write_out at_ cap A b hby hA hcap hbl hd hok hf hq
  by_cases hn0 : b.length / 256 = 0
  · rw [show d.write f at_ b = (2, d, f) by unfold Dsk.write; rw [if_neg hq, if_pos (.inl hn0)]]; exact write_arg0 at_ cap A b hby hA hcap hbl hd hok hf hq hn0
  by_cases hn1 : b.length % 256 = 0
  case neg => rw [show d.write f at_ b = (2, d, f) by unfold Dsk.write; rw [if_neg hq, if_pos (.inr hn1)]]; exact write_arg1 at_ cap A b hby hA hcap hbl hd hok hf hq hn0 hn1
  by_cases hr : at_ < 0 ∨ (d.N : Int) - (b.length / 256 : Nat) < at_
  · rw [show d.write f at_ b = (5, d, f) by unfold Dsk.write; rw [if_neg hq, if_neg (by omega), if_pos hr]]; exact write_range at_ cap A b hby hA hcap hbl hd hok hf hq hn0 hn1 hr
  · rw [show d.write f at_ b = chg d f (fun d => d.put at_.toNat b) by unfold Dsk.write; rw [if_neg hq, if_neg (by omega), if_neg hr]]
    exact write_go at_ cap A b hby hA hcap hbl hd hok hf hq hn0 hn1 at_.toNat (by omega) (by omega)
end
end Go.Proofs.YtgkljncigbiffaaDoor

/- append(s, x...) where the room suffices: in place. Plain facts over any program. Condition: the slice begins at its block's front. -/
namespace Go
open Go.RowKit
theorem wpList_append_room {P : Program} {w : World} {ops : Array Oper} {rest : List Oper} {o : Oper} {a : Act} {Q : Exit → Act → World → Prop} (hgd : o.guard = none) (s x : Operand) (t : TypeId)
    (ho : o.op = .call { callee := .builtin .append, args := #[s, x], argTypes := #[t, t] })
    (e : TypeId) (ht : P.underlying t = some (.slice e)) (hi : (P.info? e).map (fun i => (i.zero, i.size, i.bytes)) = some (some (.int .u8 0), 1, 1))
    (g n cap : Nat) (l sp : List UInt8) (hn : l.length = n) (hs : a.eval s = .slice (some ⟨g, 0, none⟩) n cap) (hg : Blk w g e ((l ++ sp).map u8v).toArray) (hcap : n + sp.length = cap)
    (A : Option Addr) (m c : Nat) (xs : List UInt8) (hm : xs.length = m) (hx : a.eval x = .slice A m c) (hr : Bytes w A xs) (hroom : m ≤ sp.length)
    (h : ∀ w', Blk w' g e ((l ++ (xs ++ sp.drop m)).map u8v).toArray → Upd g w w' → wpList P ops Q rest (a.put o.dst (.slice (some ⟨g, 0, none⟩) (n + m) cap)) w') : wpList P ops Q (o :: rest) a w := by
  subst hn hm
  refine wpList_plain hgd fun _ hK => ?_
  obtain ⟨i, hi0, hz, hsize, hby⟩ := info_parts hi
  rcases Nat.eq_zero_or_pos xs.length with h0 | h0
  · obtain rfl : xs = [] := List.eq_nil_of_length_eq_zero h0
    have hrun : (Builtin.append_ #[t, t] o.type #[.slice (some ⟨g, 0, none⟩) l.length cap, .slice A 0 c]).run P w = .ok (.slice (some ⟨g, 0, none⟩) l.length cap) w := by
      have hf : ∀ (s : Nat), (Builtin.firstCells s 0 (.slice A 0 c)).run P w = .ok #[] w := fun s => by
        cases A <;> simp [Builtin.firstCells, loadCells, loadCellsFrom]
      have hle : l.length ≤ cap := by omega
      simp [Builtin.append_, run_underlying ht, sizeOf, typeInfo, hi0, Builtin.lenOf, hf, hle, storeCells]
    unfold Oper.wp execOp
    simp only [List.length_nil] at hx
    simp only [ho, resolve, invoke, builtin, Sem.run_bind, Sem.run_pure, Result.andThen_ok, List.map_toArray, List.map_cons, List.map_nil, hs, hx, hrun]
    exact hK _ _ (h w (by simpa using hg) (Upd.refl g w))
  · have hne : xs.map u8v ≠ [] := by intro e; simp at e; rw [e] at h0; simp at h0
    obtain ⟨b, off, rfl, hc⟩ := hr hne
    have hrun := run_append_room (P := P) w t o.type e i ht hi0 g l.length cap ((l ++ sp).map u8v).toArray hg ⟨b, off, none⟩ xs.length c (xs.map u8v) (by simp [hsize]) (fun j u hu => by rw [Addr.add_lit]; exact hc j u hu) (u8v_one xs) (by omega) (by rw [hsize]; simp; omega)
    unfold Oper.wp execOp
    simp only [ho, resolve, invoke, builtin, Sem.run_bind, Sem.run_pure, Result.andThen_ok, List.map_toArray, List.map_cons, List.map_nil, hs, hx]
    rw [hrun]
    refine hK _ _ (h _ ((Blk.setRow hg _).sub ?_) (Upd.setRow _ _ _))
    simp [hsize, List.drop_append]
end Go

/- Read, of a disk that is ready. Conditions: it is ready; the sectors are there. -/
namespace Go.Proofs.YtgkljncigbiffaaDoor
open Go.RowKit
section
variable {gd gl gm N c : Nat} {L : List UInt8} {es : Array MapEntry} {out : Bool} {fz : Option Nat} {ops : Int}
def RdRel (w : World) (at_ n : Nat) (L : List UInt8) (v9 v56 : Value) (wr : World) : Prop :=
  ∃ i, i ≤ n ∧ v9 = .slice (some ⟨w.heap.size, 0, none⟩) (256 * i) (256 * n) ∧ v56 = .int .i64 (i : Int) ∧ Blk wr w.heap.size 5 ((((L.drop (256 * at_)).take (256 * i)) ++ List.replicate (256 * (n - i)) 0).map u8v).toArray ∧ Below w.heap.size w wr
theorem sec_snoc (at_ i : Nat) : (L.drop (256 * at_)).take (256 * (i + 1)) = (L.drop (256 * at_)).take (256 * i) ++ sec L (at_ + i) := by
  unfold sec
  rw [Nat.mul_add 256 i, Nat.mul_one, List.take_add, List.drop_drop, Nat.mul_add]
theorem rdRel_step {w w7 : World} {at_ n i : Nat} (hlt : i + 1 ≤ n) (h7 : Blk w7 w.heap.size 5 ((((L.drop (256 * at_)).take (256 * i)) ++ (sec L (at_ + i) ++ (List.replicate (256 * (n - i)) 0).drop 256)).map u8v).toArray) (hB : Below w.heap.size w w7) :
    RdRel w at_ n L (.slice (some ⟨w.heap.size, 0, none⟩) (256 * i + 256) (256 * n)) (.int .i64 ((i + 1 : Nat) : Int)) w7 := by
  refine ⟨i + 1, hlt, by rw [Nat.mul_add, Nat.mul_one], rfl, ?_, hB⟩
  rw [sec_snoc, List.append_assoc]
  rw [List.drop_replicate, show 256 * (n - i) - 256 = 256 * (n - (i + 1)) by omega] at h7
  exact h7
set_option maxRecDepth 100000 in
set_option maxHeartbeats 4000000 in
theorem read_any (at_ n : Nat) (w : World) (hd : DiskB w gd gl gm N L es c out fz ops) (hr : Calls Tryd.prog 84 #[.pointer (some ⟨gd, 0, none⟩)] w fun e w' => e = .returned (.int .i64 0) ∧ w' = w) (hn : 1 ≤ n) (hat : at_ + n ≤ N) (hN : N ≤ 65536) (hL : L.length = N * 256) :
    Calls Tryd.prog 36 #[.pointer (some ⟨gd, 0, none⟩), .int .i64 (at_ : Int), .int .i64 (n : Int)] w fun e w' => ∃ g, e = .returned (.tuple #[.slice (some ⟨g, 0, none⟩) (256 * n) (256 * n), .int .i64 0]) ∧
      Blk w' g 5 (((L.drop (256 * at_)).take (256 * n)).map u8v).toArray ∧ Below w.heap.size w w' ∧ w.heap.size ≤ g := by
  have HN := Lib.hid (And.intro hat (And.intro hN (And.intro hL hn)))
  have d0 := hd.1.at_ 0 (v := .slice (some ⟨gl, 0, none⟩) N N) rfl
  have hc1 : decide ((n : Int) < 0) = false := by simp
  have hc2 : decide ((at_ : Int) < 0) = false := by simp
  have hc3 : decide (N < at_) = false := by simp; omega
  have hc5 : wrap64 ((n : Int) * 256) = ((256 * n : Nat) : Int) := by unfold wrap64; omega
  have hc4 : decide (wrap64 ((N : Int) - (at_ : Int)) < (n : Int)) = false := by rw [show wrap64 ((N : Int) - (at_ : Int)) = (N : Int) - at_ by unfold wrap64; omega]; simp; omega
  have hne : ¬ N = at_ := by omega
  have HD := Lib.hid hd
  clear hn hat hN hL
  go_enter Tryd.func36, Tryd.ntmps36
  go_wp2_with fail
  refine hr.mono ?_
  rintro e w4 ⟨rfl, hw⟩
  obtain rfl := hw.symm
  clear hw hr
  go_wp2_with (first
    | ((with_reducible show wpList _ _ _ ((⟨some 45, _, _, _, _, _⟩ : Oper) :: _) _ _); refine wpList_make_bytes (o := ⟨some 45, _, _, _, _, _⟩) _ (by rfl) _ _ _ (by rfl) _ Tryd.underlying22 u8info .i64 .i64 _ _ 0 (256 * n) (by rfl) (by rfl) (by rfl) (by omega) (by omega) (by have := HN.out; omega) ?_; intro w5 h5 hb5 hs5; have d05 := (hd.1.below hb5 hd.1.lt).at_ 0 (v := .slice (some ⟨gl, 0, none⟩) N N) rfl; have hat5 : at_ + n ≤ N := HN.out.1; have hc6 : wrap64 ((at_ : Int) + (n : Int)) = ((at_ + n : Nat) : Int) := by have := HN.out; unfold wrap64; omega)
    | fail)
  have hS : RdRel w at_ n L (.slice (some ⟨w.heap.size, 0, none⟩) 0 (256 * n)) (.int .i64 0) w5 := ⟨0, Nat.zero_le _, rfl, rfl, by simpa using h5, hb5⟩
  clear d0 hc1 hc2 hc3 hc4 hc5 hc6 hne h5 hb5 hs5 d05 hat5 hd
  simp only [Nat.add_sub_cancel_left]
  go_loopw [9, 56] (fun v9 v56 wr => RdRel w at_ n L v9 v56 wr) (fun _ v _ => n - (intOf v).toNat)
  case atStart => exact hS
  case round =>
    clear hS
    obtain ⟨i, hi, rfl, rfl, hg, hB⟩ := hrel
    by_cases hlt : i < n
    case neg =>
      obtain rfl : i = n := by omega
      rw [Nat.sub_self, Nat.mul_zero, List.replicate_zero, List.append_nil] at hg
      have HR := Lib.hid (And.intro hg hB)
      clear hg hB hi hlt
      go_wp2
      go_ret2
      exact ⟨_, rfl, HR.out.1, HR.out.2, Nat.le_refl _⟩
    have aS := allocSec
    have hib : i < 65536 := by have := HN.out; omega
    have hib2 : wrap64 ((i : Int) + 1) = ((i + 1 : Nat) : Int) := by unfold wrap64; omega
    have HG := Lib.hid (And.intro hg hB)
    clear hg hB
    have hdr := HD.out.below HG.out.2
    have hrd : wr.rangeAt gl (at_ * 256 + i * 256) ((sec L (at_ + i)).map u8v) := by rw [← Nat.add_mul]; exact sec_mid' wr hdr.2.1 (at_ + i) (by have := HN.out; omega)
    have hsl : (sec L (at_ + i)).length = 256 := sec_length _ (by have := HN.out; omega)
    have hz := (Blk.new wr 145 zeroSec).sub zeroSec_list
    have hbz := (Below.refl wr.heap.size wr).alloc (Nat.le_refl _) (.cells zeroSec 145)
    clear hdr
    go_wp2_with (first
      | ((with_reducible show wpList _ _ _ ((⟨some 59, _, _, _, _, _⟩ : Oper) :: _) _ _); refine wpList_load_mid (o := ⟨some 59, _, _, _, _, _⟩) hrd (by rfl) _ _ (by rfl) (by rfl) _ Tryd.underlying145 (by rfl) sizeSec (by rw [List.length_map]; exact hsl) ?_)
      | ((with_reducible show wpList _ _ _ ((⟨none, _, _, _, _, _⟩ : Oper) :: _) _ _); refine wpList_store_blk (o := ⟨none, _, _, _, _, _⟩) (hz) (by rfl) _ _ _ (by rfl) (by rfl) (((sec L (at_ + i)).map u8v).toArray) (by rfl) (sizeSec) (by simp) (by rw [List.size_toArray, List.length_map]; exact hsl) (sec_one _) ?_; intro w6 h6 hu6; have hg6 := (HG.out.1.below hbz HG.out.1.lt).upd hu6 (Nat.ne_of_lt HG.out.1.lt); have hB6 := HG.out.2.trans ((hbz.upd hu6 (Nat.le_refl _)).mono HG.out.2.size); have hby6 := h6.bytes; clear HG hrd hz hbz h6 hu6)
      | ((with_reducible show wpList _ _ _ ((⟨some 62, _, _, _, _, _⟩ : Oper) :: _) _ _); refine wpList_append_room (o := ⟨some 62, _, _, _, _, _⟩) (by rfl) _ _ _ (by rfl) _ Tryd.underlying22 u8info w.heap.size (256 * i) (256 * n) ((L.drop (256 * at_)).take (256 * i)) (List.replicate (256 * (n - i)) 0) (by rw [List.length_take, List.length_drop]; have := HN.out; omega) (by rfl) hg6 (by rw [List.length_replicate]; omega) (some ⟨wr.heap.size, 0, none⟩) 256 256 (sec L (at_ + i)) hsl (by rfl) hby6 (by rw [List.length_replicate]; omega) ?_; intro w7 h7 hu7; have HE := Lib.hid (show RdRel w at_ n L (.slice (some ⟨w.heap.size, 0, none⟩) (256 * i + 256) (256 * n)) (.int .i64 ((i + 1 : Nat) : Int)) w7 from rdRel_step (by omega) h7 (hB6.upd hu7 (Nat.le_refl _))); clear hg6 hB6 hby6 h7 hu7)
      | fail)
    go_roundw
    case rel => exact HE.out
    case measure => simp [intOf]; omega
end
end Go.Proofs.YtgkljncigbiffaaDoor

/- Read, of a disk that was made, in all cases. Conditions: the disk is whole. -/
namespace Go.Proofs.YtgkljncigbiffaaDoor
open Go.RowKit
section
variable {w w' : World} {p : Pl} {gf : Option Nat} {d : Dsk} {f : Option Fus}
set_option maxRecDepth 100000 in
set_option maxHeartbeats 4000000 in
theorem read_out (at_ n : Int) (hd : DskR w p gf d) (hf : FusR w gf f) (hq : d.isOut f = true) :
    Calls Tryd.prog 36 #[.pointer (some ⟨p.gd, 0, none⟩), .int .i64 at_, .int .i64 n] w fun e w' => e = .returned (.tuple #[.slice none 0 0, .int .i64 11]) ∧ w' = w := by
  go_enter Tryd.func36, Tryd.ntmps36
  go_wp2_with fail
  refine (ready_all hd hf).mono ?_
  rintro e w4 ⟨rfl, hw⟩
  obtain rfl := hw.symm
  rw [if_pos hq]
  clear hw hd hf hq
  go_wp2
  go_ret2
  exact ⟨rfl, rfl⟩
set_option maxRecDepth 100000 in
set_option maxHeartbeats 4000000 in
theorem read_range (at_ n : Int) (hd : DskR w p gf d) (hf : FusR w gf f) (hok : d.Ok) (hq : ¬ d.isOut f = true) (hr : n < 0 ∨ at_ < 0 ∨ (d.N : Int) < at_ ∨ (d.N : Int) - at_ < n) :
    Calls Tryd.prog 36 #[.pointer (some ⟨p.gd, 0, none⟩), .int .i64 at_, .int .i64 n] w fun e w' => e = .returned (.tuple #[.slice none 0 0, .int .i64 5]) ∧ w' = w := by
  have hN := hok.n2
  have hrd := ready_all hd hf
  rw [if_neg hq] at hrd
  obtain ⟨es, c, hdc, -⟩ := hd
  have d0 := hdc.1.at_ 0 (v := .slice (some ⟨p.gl, 0, none⟩) d.N d.N) rfl
  have HR := Lib.hid (And.intro hr hN)
  clear hq hf hok hdc hr hN
  obtain ⟨b1, hb1⟩ : ∃ b, b = decide (n < 0) := ⟨_, rfl⟩
  obtain ⟨b2, hb2⟩ : ∃ b, b = decide (at_ < 0) := ⟨_, rfl⟩
  obtain ⟨b3, hb3⟩ : ∃ b, b = decide ((d.N : Int) < at_) := ⟨_, rfl⟩
  obtain ⟨b4, hb4⟩ : ∃ b, b = decide (wrap64 ((d.N : Int) - at_) < n) := ⟨_, rfl⟩
  have hor : b1 = true ∨ b2 = true ∨ b3 = true ∨ b4 = true := by
    have h := HR.out
    subst hb1 hb2 hb3 hb4
    simp only [decide_eq_true_eq]
    by_cases h1 : n < 0
    · exact .inl h1
    by_cases h2 : at_ < 0
    · exact .inr (.inl h2)
    by_cases h3 : (d.N : Int) < at_
    · exact .inr (.inr (.inl h3))
    · exact .inr (.inr (.inr (by rw [show wrap64 ((d.N : Int) - at_) = (d.N : Int) - at_ by unfold wrap64; omega]; omega)))
  have HB := Lib.hid hor
  clear hor HR
  replace hb1 := hb1.symm
  replace hb2 := hb2.symm
  replace hb3 := hb3.symm
  replace hb4 := hb4.symm
  cases b1 <;> cases b2 <;> cases b3 <;> cases b4
  case false.false.false.false => exact absurd HB.out (by simp)
  all_goals
    clear HB
    go_enter Tryd.func36, Tryd.ntmps36
    go_wp2_with fail
    refine hrd.mono ?_
    rintro e w4 ⟨rfl, hw⟩
    obtain rfl := hw.symm
    clear hw hrd
    go_wp2
    go_ret2
    exact ⟨rfl, rfl⟩
set_option maxRecDepth 100000 in
set_option maxHeartbeats 4000000 in
theorem read_nil (at_ : Nat) (hd : DskR w p gf d) (hf : FusR w gf f) (hok : d.Ok) (hq : ¬ d.isOut f = true) (hat : at_ ≤ d.N) :
    Calls Tryd.prog 36 #[.pointer (some ⟨p.gd, 0, none⟩), .int .i64 (at_ : Int), .int .i64 0] w fun e w' => ∃ g, e = .returned (.tuple #[.slice (some ⟨g, 0, none⟩) 0 0, .int .i64 0]) ∧
      Blk w' g 5 ((([] : List UInt8)).map u8v).toArray ∧ Below w.heap.size w w' ∧ w.heap.size ≤ g := by
  have hN := hok.n2
  have hrd := ready_all hd hf
  rw [if_neg hq] at hrd
  obtain ⟨es, c, hdc, -⟩ := hd
  have d0 := hdc.1.at_ 0 (v := .slice (some ⟨p.gl, 0, none⟩) d.N d.N) rfl
  have hc2 : decide ((at_ : Int) < 0) = false := by simp
  have hc3 : decide (d.N < at_) = false := by simp; omega
  have hc4 : decide (wrap64 ((d.N : Int) - (at_ : Int)) < 0) = false := by rw [show wrap64 ((d.N : Int) - (at_ : Int)) = (d.N : Int) - at_ by unfold wrap64; omega]; simp; omega
  have HN := Lib.hid (And.intro hat hN)
  have hc7 : wrap64 (at_ : Int) = (at_ : Int) := by unfold wrap64; omega
  clear hq hf hok hat hN
  by_cases hne : d.N = at_
  case' neg => have hne2 : ¬ at_ = d.N := fun e => hne e.symm
  all_goals
    try rw [hne] at d0 hc3 hc4
    go_enter Tryd.func36, Tryd.ntmps36
    go_wp2_with fail
    refine hrd.mono ?_
    rintro e w4 ⟨rfl, hw⟩
    obtain rfl := hw.symm
    clear hw hrd
    go_wp2_with (first
      | ((with_reducible show wpList _ _ _ ((⟨some 45, _, _, _, _, _⟩ : Oper) :: _) _ _); refine wpList_make_bytes (o := ⟨some 45, _, _, _, _, _⟩) _ (by rfl) _ _ _ (by rfl) _ Tryd.underlying22 u8info .i64 .i64 _ _ 0 0 (by rfl) (by rfl) (by rfl) (by omega) (by omega) (by omega) ?_; intro w5 h5 hb5 hs5; have d05 := (hdc.1.below hb5 hdc.1.lt).at_ 0 (v := .slice (some ⟨p.gl, 0, none⟩) d.N d.N) rfl; (try rw [hne] at d05); have HE := Lib.hid (And.intro h5 hb5); have hat5 := HN.out.1; clear h5 hb5 hs5 hdc d0)
      | fail)
    try simp only [Int.sub_self, Nat.sub_self, Nat.add_sub_cancel_left]
    clear hc2 hc3 hc4
    go_loopw [9, 56] (fun v9 v wr => v9 = .slice (some ⟨w.heap.size, 0, none⟩) 0 0 ∧ v = .int .i64 0 ∧ wr = w5) (fun _ _ _ => 0)
    case atStart => exact ⟨rfl, rfl, rfl⟩
    case round =>
      obtain ⟨rfl, rfl, rfl⟩ := hrel
      clear d05
      go_wp2
      go_ret2
      exact ⟨_, rfl, HE.out.1, HE.out.2, Nat.le_refl _⟩
theorem read_all (at_ n : Int) (hd : DskR w p gf d) (hf : FusR w gf f) (hok : d.Ok) :
    Calls Tryd.prog 36 #[.pointer (some ⟨p.gd, 0, none⟩), .int .i64 at_, .int .i64 n] w fun e w' => ∃ A, e = .returned (.tuple #[.slice A (d.read f at_ n).1.length (d.read f at_ n).1.length, .int .i64 (d.read f at_ n).2]) ∧
      ((d.read f at_ n).2 = 0 ∧ (∃ g, A = some ⟨g, 0, none⟩ ∧ w.heap.size ≤ g ∧ Blk w' g 5 ((d.read f at_ n).1.map u8v).toArray) ∨ (d.read f at_ n).2 ≠ 0 ∧ A = none ∧ (d.read f at_ n).1 = []) ∧ Below w.heap.size w w' := by
  by_cases hq : d.isOut f = true
  · rw [show d.read f at_ n = ([], 11) from if_pos hq]
    refine (read_out at_ n hd hf hq).mono ?_
    rintro e w' ⟨rfl, rfl⟩
    exact ⟨none, rfl, .inr ⟨by decide, rfl, rfl⟩, Below.refl _ _⟩
  by_cases hr : n < 0 ∨ at_ < 0 ∨ (d.N : Int) < at_ ∨ (d.N : Int) - at_ < n
  · rw [show d.read f at_ n = ([], 5) by unfold Dsk.read; rw [if_neg hq, if_pos hr]]
    refine (read_range at_ n hd hf hok hq hr).mono ?_
    rintro e w' ⟨rfl, rfl⟩
    exact ⟨none, rfl, .inr ⟨by decide, rfl, rfl⟩, Below.refl _ _⟩
  rw [show d.read f at_ n = ((d.L.drop (256 * at_.toNat)).take (256 * n.toNat), 0) by unfold Dsk.read; rw [if_neg hq, if_neg hr]]
  obtain ⟨a, rfl⟩ : ∃ a : Nat, at_ = (a : Int) := ⟨at_.toNat, by omega⟩
  obtain ⟨m, rfl⟩ : ∃ m : Nat, n = (m : Int) := ⟨n.toNat, by omega⟩
  rw [Int.toNat_natCast, Int.toNat_natCast]
  have hlen : ((d.L.drop (256 * a)).take (256 * m)).length = 256 * m := by rw [List.length_take, List.length_drop, hok.len]; omega
  rw [hlen]
  by_cases hm : m = 0
  · subst hm
    refine (read_nil a hd hf hok hq (by omega)).mono ?_
    rintro e w' ⟨g, rfl, h1, h2, h3⟩
    exact ⟨_, rfl, .inl ⟨rfl, g, rfl, h3, h1⟩, h2⟩
  · have hrd := ready_all hd hf
    rw [if_neg hq] at hrd
    obtain ⟨es, c, hdc, -⟩ := hd
    refine (read_any a m w hdc hrd (by omega) (by omega) hok.n2 hok.len).mono ?_
    rintro e w' ⟨g, rfl, h1, h2, h3⟩
    exact ⟨_, rfl, .inl ⟨rfl, g, rfl, h3, h1⟩, h2⟩
end
end Go.Proofs.YtgkljncigbiffaaDoor

/- What a disk that is nil, or that nobody made, answers. No condition. -/
namespace Go.Proofs.YtgkljncigbiffaaDoor
open Go.RowKit
/-- A disk that is nil, or that nobody made. -/
def NoDisk (D : Option Addr) (w : World) : Prop := D = none ∨ ∃ g, D = some ⟨g, 0, none⟩ ∧ Blk w g 105 noDisk
theorem NoDisk.near {D : Option Addr} {w w' : World} (h : NoDisk D w) (k : Near [] w w') : NoDisk D w' := by
  rcases h with rfl | ⟨g, rfl, h⟩
  · exact .inl rfl
  · exact .inr ⟨g, rfl, h.near k (fun x => by cases x)⟩
section
variable (D : Option Addr) (w : World) (h : NoDisk D w)
include h
end
end Go.Proofs.YtgkljncigbiffaaDoor

/- Turn, of a place that is there. Conditions: the sector and the place in it are there. -/
namespace Go.Proofs.YtgkljncigbiffaaDoor
open Go.RowKit
section
variable {gd gl gm N c : Nat} {L : List UInt8} {es : Array MapEntry} {out : Bool} {fz : Option Nat} {ops : Int}
theorem cell_set {k : Nat} (x : UInt8) : (L.map u8v).toArray.setIfInBounds k (u8v x) = ((L.set k x).map u8v).toArray := by simp [List.map_set]
set_option maxRecDepth 100000 in
set_option maxHeartbeats 4000000 in
theorem turn_any (s a : Nat) (m : UInt8) (w : World) (hd : DiskB w gd gl gm N L es c out fz ops) (hs : s < N) (ha : a < 256) (hL : L.length = N * 256) (hX : gd ≠ gl ∧ gd ≠ gm ∧ gl ≠ gm) :
    Calls Tryd.prog 22 #[.pointer (some ⟨gd, 0, none⟩), .int .i64 (s : Int), .int .i64 (a : Int), .int .u8 (iu8 m)] w fun e w' => e = .returned (.int .i64 0) ∧ DiskB w' gd gl gm N (L.set (s * 256 + a) (L.getD (s * 256 + a) 0 ^^^ m)) es c out fz ops ∧ Near [gl] w w' := by
  have hlt : s * 256 + a < L.length := by omega
  obtain ⟨x, hx⟩ : ∃ x, x = L.getD (s * 256 + a) 0 := ⟨_, rfl⟩
  have hgx : L[s * 256 + a]? = some x := by rw [hx, List.getD_eq_getElem?_getD, List.getElem?_eq_getElem hlt]; rfl
  have dc : (L.map u8v).toArray[s * 256 + a]? = some (.int .u8 (iu8 x)) := by rw [List.getElem?_toArray, List.getElem?_map, hgx]; rfl
  rw [← hx]
  have HH := Lib.hid (And.intro hd (And.intro hX dc))
  have hc1 : decide ((s : Int) < 0) = false := by simp
  have hc2 : decide (N ≤ s) = false := by simp; omega
  have hc3 : decide ((a : Int) < 0) = false := by simp
  have hc4 : decide (256 ≤ a) = false := by simp; omega
  have d0 := hd.1.at_ 0 (v := .slice (some ⟨gl, 0, none⟩) N N) rfl
  have hX0 : ∀ g, g ∉ ([] : List Nat) := fun g h => by cases h
  clear hd hlt hgx hx dc hX hL
  go_enter Tryd.func22, Tryd.ntmps22
  go_wp2_with fail
  refine (none_made w HH.out.1).mono ?_
  rintro e w1 ⟨rfl, hw⟩
  obtain rfl := hw.symm
  clear hw
  go_wp2_with fail
  refine wp_region_tree (Near [gl] w) [] (PlanT.takes [0, 1, 2, 4, 5, 9] (PlanT.takes [3] (PlanT.takes [6, 7, 11] (.opt 8 (PlanT.takes [10, 12] (.opt 13 .done .no)) .no)))) (by kernel_rfl) (by kernel_rfl) ((Near.refl _ _).drew) ?_
  refine wpTree_pure _ _ _ (by rfl) (by rfl) ?_
  dsimp only [List.filterMap, List.getElem?_cons_zero, List.getElem?_cons_succ]
  repeat (go_big_quiet_step (fail))
  refine wpQuiet_nil ?_
  refine wpTree_takeL _ _ _ (by rfl) (by rfl) ((Near.refl _ _).drew) ?_
  dsimp only [List.filterMap, List.getElem?_cons_zero, List.getElem?_cons_succ]
  (refine wpQuiet_load_cell (fun w' hw' => (Blk.near HH.out.1.1 hw' (by simp; exact HH.out.2.1.1)).at_ 0 (v := .slice (some ⟨gl, 0, none⟩) N N) rfl) (by rfl) _ _ (by rfl) (by rfl) _ Tryd.underlying101 (by rfl) ?_; simp only [Act.put, List.setIfInBounds_toArray, List.set_cons_zero, List.set_cons_succ])
  refine wpQuiet_nil ?_
  refine wpTree_pure _ _ _ (by rfl) (by rfl) ?_
  dsimp only [List.filterMap, List.getElem?_cons_zero, List.getElem?_cons_succ]
  repeat (go_big_quiet_step (fail))
  refine wpQuiet_nil ?_
  refine wpTree_one _ rfl ?_
  have dg := HH.out.1.2.1.at_ (s * 256 + a) (v := .int .u8 (iu8 x)) HH.out.2.2
  have fg := HH.out.1.2.1.frozen (s * 256 + a)
  go_wp2_with fail
  refine TreeQ.in_ ((Near.refl _ _).drew) ?_
  refine wpTree_pure _ _ _ (by rfl) (by rfl) ?_
  dsimp only [List.filterMap, List.getElem?_cons_zero, List.getElem?_cons_succ]
  repeat (go_big_quiet_step (fail))
  refine wpQuiet_nil ?_
  refine wpTree_one _ rfl ?_
  go_wp2_with fail
  clear dg fg d0 hc1 hc2 hc3 hc4
  rw [u8_xor_w]
  have hB : DiskB (w.setCell ⟨gl, s * 256 + a, none⟩ (.int .u8 (iu8 (x ^^^ m)))).drew gd gl gm N (L.set (s * 256 + a) (x ^^^ m)) es c out fz ops :=
    ⟨(HH.out.1.1.off HH.out.2.1.1 _).drew, ((HH.out.1.2.1.set_ (s * 256 + a) (.int .u8 (iu8 (x ^^^ m)))).sub (cell_set _)).drew, (HH.out.1.2.2.upd ((Upd.refl gl w).set (s * 256 + a) _) (fun e => HH.out.2.1.2.2 e.symm)).drew⟩
  have hnr : Near [gl] w (w.setCell ⟨gl, s * 256 + a, none⟩ (.int .u8 (iu8 (x ^^^ m)))).drew := (Near.upd ((Upd.refl gl w).set (s * 256 + a) _) (List.mem_singleton.2 rfl)).drew
  generalize (w.setCell ⟨gl, s * 256 + a, none⟩ (.int .u8 (iu8 (x ^^^ m)))).drew = w9 at hB hnr ⊢
  have HR := Lib.hid (And.intro hB hnr)
  refine TreeQ.in_ hnr ?_
  clear hB hnr
  refine wpTree_done ?_
  go_wp2
  go_ret
  exact ⟨rfl, HR.out⟩
end
end Go.Proofs.YtgkljncigbiffaaDoor

/- Turn, Ops, of a disk that was made, in all cases. Conditions: the disk is whole. -/
namespace Go.Proofs.YtgkljncigbiffaaDoor
open Go.RowKit
section
variable {w w' : World} {p : Pl} {gf : Option Nat} {d : Dsk} {f : Option Fus}
set_option maxRecDepth 100000 in
set_option maxHeartbeats 4000000 in
theorem turn_range (s a : Int) (m : Int) (hd : DskR w p gf d) (hr : s < 0 ∨ (d.N : Int) ≤ s ∨ a < 0 ∨ 256 ≤ a) :
    Calls Tryd.prog 22 #[.pointer (some ⟨p.gd, 0, none⟩), .int .i64 s, .int .i64 a, .int .u8 m] w fun e w' => e = .returned (.int .i64 5) ∧ w' = w := by
  obtain ⟨es, c, hdc, -⟩ := hd
  have hrd := none_made w hdc
  have d0 := hdc.1.at_ 0 (v := .slice (some ⟨p.gl, 0, none⟩) d.N d.N) rfl
  have HR := Lib.hid hr
  clear hdc hr
  obtain ⟨b1, hb1⟩ : ∃ b, b = decide (s < 0) := ⟨_, rfl⟩
  obtain ⟨b2, hb2⟩ : ∃ b, b = decide ((d.N : Int) ≤ s) := ⟨_, rfl⟩
  obtain ⟨b3, hb3⟩ : ∃ b, b = decide (a < 0) := ⟨_, rfl⟩
  obtain ⟨b4, hb4⟩ : ∃ b, b = decide (256 ≤ a) := ⟨_, rfl⟩
  have hor : b1 = true ∨ b2 = true ∨ b3 = true ∨ b4 = true := by
    have h := HR.out
    subst hb1 hb2 hb3 hb4
    simpa only [decide_eq_true_eq] using h
  have HB := Lib.hid hor
  clear hor HR
  replace hb1 := hb1.symm
  replace hb2 := hb2.symm
  replace hb3 := hb3.symm
  replace hb4 := hb4.symm
  cases b1 <;> cases b2 <;> cases b3 <;> cases b4
  case false.false.false.false => exact absurd HB.out (by simp)
  all_goals
    clear HB
    go_enter Tryd.func22, Tryd.ntmps22
    go_wp2_with fail
    refine hrd.mono ?_
    rintro e w4 ⟨rfl, hw⟩
    obtain rfl := hw.symm
    clear hw hrd
    go_wp2
    go_ret
    exact ⟨rfl, rfl⟩
theorem turn_all (s a : Int) (m : UInt8) (hd : DskR w p gf d) (hok : d.Ok) :
    Calls Tryd.prog 22 #[.pointer (some ⟨p.gd, 0, none⟩), .int .i64 s, .int .i64 a, .int .u8 (iu8 m)] w fun e w' => e = .returned (.int .i64 (d.turn s a m).1) ∧ DskR w' p gf (d.turn s a m).2 ∧ Near [p.gl] w w' := by
  by_cases hr : s < 0 ∨ (d.N : Int) ≤ s ∨ a < 0 ∨ 256 ≤ a
  · rw [show d.turn s a m = (5, d) from if_pos hr]
    refine (turn_range s a (iu8 m) hd hr).mono ?_
    rintro e w' ⟨rfl, rfl⟩
    exact ⟨rfl, hd, Near.refl _ _⟩
  · rw [show d.turn s a m = (0, { d with L := d.L.set (s.toNat * 256 + a.toNat) (d.L.getD (s.toNat * 256 + a.toNat) 0 ^^^ m) }) from if_neg hr]
    obtain ⟨x, rfl⟩ : ∃ x : Nat, s = (x : Int) := ⟨s.toNat, by omega⟩
    obtain ⟨y, rfl⟩ : ∃ y : Nat, a = (y : Int) := ⟨a.toNat, by omega⟩
    rw [Int.toNat_natCast, Int.toNat_natCast]
    have hap := hd.apart
    obtain ⟨es, c, hdc, ho⟩ := hd
    refine (turn_any x y m w hdc (by omega) (by omega) hok.len hap).mono ?_
    rintro e w' ⟨rfl, h1, h2⟩
    exact ⟨rfl, ⟨es, c, h1, ho⟩, h2⟩
end
end Go.Proofs.YtgkljncigbiffaaDoor

/- A disk that is known; what calls that change it leave. Conditions: the disk is known. -/
namespace Go.Proofs.YtgkljncigbiffaaDoor
open Go.RowKit
/-- A disk, known. -/
structure DkOk (w : World) (p : Pl) (gf : Option Nat) (d : Dsk) (f : Option Fus) : Prop where
  dr : DskR w p gf d
  fr : FusR w gf f
  ok : d.Ok
theorem DkOk.near {w w' : World} {p : Pl} {gf : Option Nat} {d : Dsk} {f : Option Fus} (h : DkOk w p gf d f) (k : Near [] w w') : DkOk w' p gf d f := ⟨h.dr.near k ⟨by simp, by simp, by simp⟩, h.fr.near k (fun _ _ => by simp), h.ok⟩
/-- What a call that changes the disk leaves. -/
def DkPost (w : World) (p : Pl) (gf : Option Nat) (r : Int × Dsk × Option Fus) (e : Ending) (w' : World) : Prop := e = .returned (.int .i64 r.1) ∧ DkOk w' p gf r.2.1 r.2.2 ∧ Near (p.all gf) w w'
theorem DkOk.lt {w : World} {p : Pl} {gf : Option Nat} {d : Dsk} {f : Option Fus} (h : DkOk w p gf d f) : ∀ x ∈ p.all gf, x < w.heap.size := fun x hx => by
  obtain ⟨h1, h2, h3⟩ := h.dr.lt
  unfold Pl.all at hx
  simp only [List.cons_append, List.nil_append, List.mem_cons, Option.mem_toList] at hx
  rcases hx with rfl | rfl | rfl | hx
  · exact h1
  · exact h2
  · exact h3
  · exact h.fr.lt hx
theorem write_ok' (at_ : Int) (n cap : Nat) (A : Option Addr) (b : List UInt8) (w : World) {p : Pl} {gf : Option Nat} {d : Dsk} {f : Option Fus} (hn : n = b.length) (hby : Bytes w A b) (hA : ∀ ad, A = some ad → ad.block ∉ p.all gf) (hcap : b.length ≤ cap) (hbl : b.length ≤ 140737488355328) (h : DkOk w p gf d f) :
    Calls Tryd.prog 69 #[.pointer (some ⟨p.gd, 0, none⟩), .int .i64 at_, .slice A n cap] w (DkPost w p gf (d.write f at_ b)) := by
  subst hn
  exact (write_all at_ cap A b hby hA hcap hbl h.dr h.ok h.fr).mono fun e w' ⟨h1, h2, h3, h4⟩ => ⟨h1, ⟨h2, h3, Dsk.write_ok h.ok⟩, h4⟩
end Go.Proofs.YtgkljncigbiffaaDoor
