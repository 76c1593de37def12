/- What is known of a world stays known where only new memory has come: one word for all such facts. Plain facts over any program. No condition. -/
import Derived.Test.YtkjcidbhepminaaDoorOwn
namespace Go
open Go.RowKit
/-- A fact that stays as long as nothing that was there is written, and how it reads then. -/
class KeepsTo (w w' : World) (a : Prop) (b : outParam Prop) : Prop where
  go : Below w.heap.size w w' → a → b
theorem keep {a b : Prop} {w w' : World} (hb : Below w.heap.size w w') (h : a) [k : KeepsTo w w' a b] : b := k.go hb h
section
variable {w w' : World}
instance {A : Option Addr} {xs : List Value} : KeepsTo w w' (Reads w A xs) (Reads w' A xs) := ⟨fun hb h => h.below hb⟩
instance {A : Option Addr} {l : List UInt8} : KeepsTo w w' (Bytes w A l) (Bytes w' A l) := ⟨fun hb h => Reads.below h hb⟩
instance {g : Nat} {t : TypeId} {cs : Array Value} : KeepsTo w w' (Blk w g t cs) (Blk w' g t cs) := ⟨fun hb h => h.below hb h.lt⟩
instance {e : TypeId} {base : Nat} {v : Value} {l sp : List UInt8} : KeepsTo w w' (OwnB e w base v l sp) (OwnB e w' base v l sp) := ⟨fun hb h => OwnsC.ownBelow h hb⟩
instance {e : TypeId} {size base n : Nat} {v : Value} {xs sp : List Value} : KeepsTo w w' (OwnsC e size w base v n xs sp) (OwnsC e size w' base v n xs sp) := ⟨fun hb h => OwnsC.ownBelow h hb⟩
end
theorem Blk.at_ {w : World} {b : Nat} {t : TypeId} {cs : Array Value} (h : Blk w b t cs) (i : Nat) {v : Value} (hv : cs[i]? = some v) : w.cell? ⟨b, i, none⟩ = some v := (h.cell i).trans hv
theorem u8_xor_w (a b : UInt8) : bits .xor .u8 (iu8 a) (iu8 b) = iu8 (a ^^^ b) := by
  unfold iu8; rw [u8_xor_nat _ _ a.toNat_lt b.toNat_lt, UInt8.toNat_xor]
/-- An own slice of bytes, as a slice that is read. -/
theorem OwnB.open_ {e : TypeId} {w : World} {base : Nat} {v : Value} {l sp : List UInt8} (h : OwnB e w base v l sp) : ∃ A c, v = .slice A l.length c ∧ l.length ≤ c ∧ c ≤ 9223372036854775807 ∧ Bytes w A l := by
  obtain ⟨A, c, h1, h2, h3, h4, _⟩ := OwnsC.reads h
  exact ⟨A, c, h1, h2, by simpa [maxLen] using h3, h4⟩
theorem Upd.refl (g : Nat) (w : World) : Upd g w w := ⟨rfl, rfl, rfl, rfl, fun _ _ => rfl⟩
theorem Upd.trans {g : Nat} {a b c : World} (h : Upd g a b) (k : Upd g b c) : Upd g a c := ⟨k.os.trans h.os, k.tape.trans h.tape, k.output.trans h.output, k.size.trans h.size, fun x hx => (k.block x hx).trans (h.block x hx)⟩
theorem Upd.set {g : Nat} {a b : World} (h : Upd g a b) (i : Nat) (v : Value) : Upd g a (b.setCell ⟨g, i, none⟩ v) :=
  h.trans ⟨rfl, rfl, rfl, by simp [World.setCell], fun k hk => Below.heap_setCell b ⟨g, i, none⟩ v k hk⟩
theorem OwnB.at_ {e : TypeId} {w : World} {base : Nat} {v : Value} {l sp : List UInt8} (h : OwnB e w base v l sp) (hl : 0 < l.length) : ∃ g cap, v = .slice (some ⟨g, 0, none⟩) l.length cap ∧ base ≤ g ∧ Blk w g e ((l ++ sp).map u8v).toArray ∧ l.length ≤ cap ∧ cap ≤ maxLen ∧ sp.length = cap - l.length := by
  rcases h with ⟨_, h0, _, _⟩ | ⟨g, cap, rfl, hb, hg, hc, hm, _, hs⟩
  · omega
  · exact ⟨g, cap, rfl, hb, by simpa using hg, hc, hm, by simpa using hs⟩
end Go
