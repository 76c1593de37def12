/- append(s, make([]byte, n)...) as the program's text has it: noughts behind an own list. Plain facts over any program. No condition. -/
import Derived.Test.YtfpcldnefpmgcaaOwn
namespace Go
open Go.RowKit
section
variable {P : Program} (w : World)
theorem run_append_zeros (base : Nat) (t tx ty e : TypeId) (k : IntKind) (i : TypeInfo) (ht : P.underlying t = some (.slice e)) (htx : P.underlying tx = some (.int k)) (hi : P.info? e = some i) (hz : i.zero = some (.int .u8 0))
    (hsize : i.size = 1) (hby : i.bytes = 1) (v : Value) (l sp : List UInt8) (hown : OwnB e w base v l sp) (m : Nat) (h63 : l.length + m ≤ 140737488355328) (hbase : base ≤ w.heap.size) :
    ∃ v' w' sp', (Builtin.append_ #[t, tx] ty #[v, .int .i64 (m : Int)]).run P w = .ok v' w' ∧ OwnB e w' base v' (l ++ List.replicate m 0) sp' ∧ w.grownBy w' v.ownBlock ∧
      (v'.ownBlock = v.ownBlock ∨ v'.ownBlock = some w.heap.size) := by
  have hwr : IntKind.i64.wrap (m : Int) = m := by rw [IntKind.wrap_i64]; omega
  have hzc : ∀ j, Builtin.zeroCells (Value.int .u8 0).cells j = ((List.replicate j (0 : UInt8)).map u8v).toArray := fun j => by
    unfold Builtin.zeroCells
    apply Array.ext_getElem?
    intro a
    rw [List.map_replicate]
    by_cases ha : a < j
    · simp [Value.cells, ha, Nat.mod_one]; rfl
    · simp [Value.cells, ha]
  have hA : ∀ w' : World, (asInt (.int .i64 (m : Int))).run P w' = .ok (m : Int) w' := fun w' => by simp [asInt, asIntOf]
  have hA0 : ∀ w' : World, (asInt (.int .i64 0)).run P w' = .ok 0 w' := fun w' => by simp [asInt, asIntOf]
  have hw0 : IntKind.i64.wrap 0 = 0 := by rw [IntKind.wrap_i64]; omega
  have hi63 : IntKind.i64.wrap (m : Int) = m := hwr
  have n0 : ¬ ((m : Int) < 0) := by omega
  have n1 : ¬ (281474976710656 < (m : Int)) := by omega
  have grown : ∀ (old : Nat) (row : Option Nat),
      OwnB e (w.drew.alloc (.cells ((l.map u8v).toArray ++ ((List.replicate m (0 : UInt8)).map u8v).toArray ++ ((List.replicate (grownCap w (l.length + m) old e - (l.length + m)) (0 : UInt8)).map u8v).toArray) e)) base
        (.slice (some ⟨w.heap.size, 0, none⟩) (l.length + m) (grownCap w (l.length + m) old e)) (l ++ List.replicate m 0) (List.replicate (grownCap w (l.length + m) old e - (l.length + m)) 0) ∧
      w.grownBy (w.drew.alloc (.cells ((l.map u8v).toArray ++ ((List.replicate m (0 : UInt8)).map u8v).toArray ++ ((List.replicate (grownCap w (l.length + m) old e - (l.length + m)) (0 : UInt8)).map u8v).toArray) e)) row := by
    intro old row
    refine ⟨.inr ⟨w.heap.size, _, by simp, hbase, ?_, by simpa using grownCap_ge w (l.length + m) old e, grownCap_le_maxLen w (l.length + m) old e (by unfold maxLen; omega), by simp, by simp⟩, ⟨rfl, rfl, rfl, by simp, fun k (hk : k < w.drew.heap.size) _ => Below.heap_alloc w.drew _ k hk⟩⟩
    refine (Blk.new w.drew e _).sub ?_
    simp
  rcases hown with ⟨rfl, hl0, hx0, hs0⟩ | ⟨g, cap, rfl, hbg, hg, hnc, hcm, hxl, hspl⟩
  · obtain rfl : l = [] := List.eq_nil_of_length_eq_zero hl0
    obtain rfl : sp = [] := by simpa using hs0
    rcases Nat.eq_zero_or_pos m with hm | hm
    · subst hm
      refine ⟨.slice none 0 0, w, [], ?_, Own.nil e 1 w base, World.grownBy.refl w _, .inl rfl⟩
      simp [Builtin.append_, run_underlying ht, run_underlying htx, sizeOf, typeInfo, hi, hA0, hby, hw0]
    · have hgr := grown 0 (Value.ownBlock (.slice none 0 0))
      simp only [List.length_nil, Nat.zero_add] at hgr ⊢
      refine ⟨_, _, _, ?_, hgr.1, hgr.2, .inr rfl⟩
      have h5 : ¬ (m = 0) := by omega
      have h63' : ¬ (9223372036854775807 < (m : Int)) := by omega
      have h48' : ¬ (281474976710656 < Builtin.nextslicecap m 0) := by rw [nextslicecap_zero hm]; omega
      simp [Builtin.append_, run_underlying ht, run_underlying htx, sizeOf, typeInfo, zeroValue, hi, hz, hA, hsize, hby, hwr, n0, n1, h5, h63', h48', Question.forced, run_firstCells_none, newRow, grownCap, hzc]
  · by_cases hroom : l.length + m ≤ cap
    · rcases Nat.eq_zero_or_pos m with hm | hm
      · subst hm
        refine ⟨_, w, sp, ?_, by rw [List.replicate_zero, List.append_nil]; exact .inr ⟨g, cap, rfl, hbg, hg, hnc, hcm, hxl, hspl⟩, World.grownBy.refl w _, .inl rfl⟩
        simp [Builtin.append_, run_underlying ht, run_underlying htx, sizeOf, typeInfo, hi, hA0, hby, hw0, hnc, storeCells]
      · have hspl' : sp.length = cap - l.length := by simpa using hspl
        have hst := run_storeCells_at P g (l.length * 1) e ((List.replicate m (0 : UInt8)).map u8v) 0 ((l.map u8v ++ sp.map u8v).toArray) w hg (by simp; omega) (u8v_one _)
        simp only [Nat.add_zero, Nat.mul_one] at hst
        have h5 : ¬ (m = 0) := by omega
        refine ⟨.slice (some ⟨g, 0, none⟩) (l.length + m) cap, w.setRow g (((l.map u8v ++ sp.map u8v).toArray.toList.take l.length ++ (List.replicate m (0 : UInt8)).map u8v ++ (l.map u8v ++ sp.map u8v).toArray.toList.drop (l.length + ((List.replicate m (0 : UInt8)).map u8v).length)).toArray), sp.drop m, ?_, .inr ⟨g, cap, by simp, hbg, ?_, by simpa using hroom, hcm, by simp, ?_⟩, ⟨rfl, rfl, rfl, by simp, fun k _ hk => setRow_other w g k _ (fun e => hk (by simp [Value.ownBlock, e]))⟩, .inl rfl⟩
        rotate_left
        · refine (Blk.setRow (cs := (l.map u8v ++ sp.map u8v).toArray) hg _).sub ?_
          simp [List.drop_append]
        · simp; omega
        · simp [Builtin.append_, run_underlying ht, run_underlying htx, sizeOf, typeInfo, zeroValue, hi, hz, hA, hsize, hby, hwr, n0, n1, h5, hroom, hzc, Addr.add_lit]
          simp at hst
          rw [hst]
          simp
    · have hgr := grown cap (Value.ownBlock (.slice (some ⟨g, 0, none⟩) l.length cap))
      refine ⟨_, _, _, ?_, hgr.1, hgr.2, .inr rfl⟩
      have h5 : ¬ (m = 0) := by omega
      have h63' : ¬ (9223372036854775807 < ((l.length : Int) + (m : Int))) := by omega
      have h48' : ¬ (281474976710656 < Builtin.nextslicecap (l.length + m) cap) := by
        have := growslice_fits (need := l.length + m) (old := cap) (bytes := 1) (by omega) (by omega)
        omega
      have hfo := run_firstCells_some (P := P) w.drew 1 l.length ⟨g, 0, none⟩ l.length cap (l.map u8v) (by simp) (fun j u hu => by
        rw [Addr.add_lit, Nat.zero_add]
        have : w.cell? ⟨g, j, none⟩ = some u := by
          rw [Blk.cell hg]
          simp only [List.getElem?_toArray]
          rw [List.getElem?_append_left (List.getElem?_eq_some_iff.1 hu).1]; exact hu
        exact this)
      simp [Builtin.append_, run_underlying ht, run_underlying htx, sizeOf, typeInfo, zeroValue, hi, hz, hA, hsize, hby, hwr, n0, n1, h5, hroom, h63', h48', Question.forced, hfo, newRow, grownCap, hzc]
theorem wpList_append_zeros {w : World} {ops : Array Oper} {rest : List Oper} {o : Oper} {a : Act} {Q : Exit → Act → World → Prop} (hgd : o.guard = none) (s x : Operand) (t tx : TypeId)
    (ho : o.op = .call { callee := .builtin .append, args := #[s, x], argTypes := #[t, tx] })
    (base : Nat) (e : TypeId) (k : IntKind) (ht : P.underlying t = some (.slice e)) (htx : P.underlying tx = some (.int k)) (hi : (P.info? e).map (fun i => (i.zero, i.size, i.bytes)) = some (some (.int .u8 0), 1, 1))
    (v : Value) (l sp : List UInt8) (hs : a.eval s = v) (hown : OwnB e w base v l sp) (m : Nat) (hx : a.eval x = .int .i64 (m : Int)) (hlen : l.length + m ≤ 140737488355328) (hbase : base ≤ w.heap.size)
    (h : ∀ v' w' sp', OwnB e w' base v' (l ++ List.replicate m 0) sp' → w.grownBy w' v.ownBlock → (v'.ownBlock = v.ownBlock ∨ v'.ownBlock = some w.heap.size) → wpList P ops Q rest (a.put o.dst v') w') : wpList P ops Q (o :: rest) a w := by
  obtain ⟨i, hi0, hz, hsize, hby⟩ := info_parts hi
  obtain ⟨v', w', sp', hrun, h2, h3, h4⟩ := run_append_zeros (P := P) w base t tx o.type e k i ht htx hi0 hz hsize hby v l sp hown m hlen hbase
  refine wpList_plain hgd fun _ hK => ?_
  unfold Oper.wp execOp
  simp only [ho, resolve, invoke, builtin, Sem.run_bind, Sem.run_pure, Result.andThen_ok, List.map_toArray, List.map_cons, List.map_nil, hs, hx, hrun]
  exact hK _ _ (h v' w' sp' h2 h3 h4)
end
end Go
