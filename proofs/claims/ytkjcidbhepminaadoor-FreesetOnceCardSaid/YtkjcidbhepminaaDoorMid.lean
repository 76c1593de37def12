/- Loads of whole arrays and structs out of the middle of a block. Plain facts. Condition: the cells are known. -/
import Derived.Test.YtkjcidbhepminaaDoorKeep
import Derived.Deep.MidRow
namespace Go.Proofs.YtkjcidbhepminaaDoor
open Go.RowKit
/-- A load of a whole array or struct out of the middle of a block. -/
theorem wpList_load_mid {P : Program} {w : World} {Q : Exit → Act → World → Prop} {ops : Array Oper} {rest : List Oper} {o : Oper} {a : Act} {b off : Nat} {cs : List Value} (hb : w.rangeAt b off cs) (hgd : o.guard = none) (ty : TypeId) (x : Operand) (ho : o.op = .load ty x)
    (hx : a.eval x = .pointer (some ⟨b, off, none⟩)) (d : TypeDesc) (hu : P.underlying ty = some d) (hd : d.isRow = true) {n : Nat} (hi : (P.info? ty).map (·.size) = some n) (hn : cs.length = n)
    (h : wpList P ops Q rest (a.put o.dst (.agg cs.toArray)) w) : wpList P ops Q (o :: rest) a w :=
  wpList_run (.agg cs.toArray) hgd (by
    unfold execOp
    simp only [ho, hx, Instr.loadAt, Instr.sureAddr, Sem.run_bind, Sem.run_pure, Result.andThen_ok, run_loadVar_mid w b off ty cs d hb hu hd (hn ▸ hi)]) h
theorem range2 {w : World} {b off : Nat} {u v : Value} (h1 : w.cell? ⟨b, off, none⟩ = some u) (h2 : w.cell? ⟨b, off + 1, none⟩ = some v) : w.rangeAt b off [u, v] := fun j x hx => by
  match j with
  | 0 => simp at hx; subst hx; exact h1
  | 1 => simp at hx; subst hx; exact h2
theorem Blk.range {w : World} {b : Nat} {t : TypeId} {cs : Array Value} (h : Blk w b t cs) (o : Nat) (l : List Value) (hl : ∀ j v, l[j]? = some v → cs[o + j]? = some v) : w.rangeAt b o l := fun j v hv => h.at_ (o + j) (hl j v hv)
end Go.Proofs.YtkjcidbhepminaaDoor
