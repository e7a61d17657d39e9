/-
  The laws' helpers on scripts: a copy, equality of two.
-/
import Derived.Test.YtcfbnlkkoifiiaaDoorSc
namespace Go.Proofs.YtcfbnlkkoifiiaaDoor
set_option maxRecDepth 100000
open Go.RowKit

theorem Own.far {α : Type} {enc : α → List Value} {w : World} {base : Nat} {T : TypeId} {k g n c : Nat} {xs : List α} (h : Own w base T k enc (.slice (some ⟨g, 0, none⟩) n c) xs) (p : Addr) (hne : g ≠ p.block) (u : Value) : Own (w.setCell p u) base T k enc (.slice (some ⟨g, 0, none⟩) n c) xs :=
  h.grown (only_setCell (World.grownBy.refl w (some p.block)) (.inl rfl) u) (.inr (by simp [Value.ownBlock]; exact hne))

end Go.Proofs.YtcfbnlkkoifiiaaDoor
