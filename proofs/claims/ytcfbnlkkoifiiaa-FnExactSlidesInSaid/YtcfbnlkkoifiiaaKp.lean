/-
  What calls keep that write to a few blocks (the text stands in cues/XLsA too: never import both).
-/
import Derived.Test.YtcfbnlkkoifiiaaWords
namespace Go.Proofs.Ytcfbnlkkoifiiaa
open Go.RowKit

/-- but for the blocks of S all is as it was -/
structure Kp (S : Nat → Prop) (w w' : World) : Prop where
  os : w'.os = w.os
  tape : w'.tape = w.tape
  output : w'.output = w.output
  size : w.heap.size ≤ w'.heap.size
  block : ∀ k, k < w.heap.size → ¬ S k → w'.heap[k]? = w.heap[k]?
section
variable {S : Nat → Prop} {a b c w w' : World}
theorem Kp.refl (S : Nat → Prop) (w : World) : Kp S w w := ⟨rfl, rfl, rfl, Nat.le_refl _, fun _ _ _ => rfl⟩
theorem Kp.trans (h : Kp S a b) (k : Kp S b c) : Kp S a c :=
  ⟨k.os.trans h.os, k.tape.trans h.tape, k.output.trans h.output, Nat.le_trans h.size k.size, fun i hi hs => (k.block i (Nat.lt_of_lt_of_le hi h.size) hs).trans (h.block i hi hs)⟩
theorem Kp.of_below (h : Below w.heap.size w w') : Kp S w w' := ⟨h.os, h.tape, h.output, h.size, fun k hk _ => h.block k hk⟩
theorem Kp.setCell (h : Kp S a b) {p : Addr} (hp : S p.block) (u : Value) : Kp S a (b.setCell p u) :=
  h.trans ⟨rfl, rfl, rfl, by simp [World.setCell], fun k _ hs => Below.heap_setCell _ _ _ _ (fun e => hs (e ▸ hp))⟩
theorem Kp.below (h : Kp S w w') {B : Nat} (hS : ∀ k, S k → B ≤ k) (hB : B ≤ w.heap.size) : Below B w w' :=
  ⟨h.os, h.tape, h.output, h.size, fun k hk => h.block k (by omega) (fun hs => by have := hS k hs; omega)⟩
theorem Kp.cell (h : Kp S w w') {p : Addr} {v : Value} (hc : w.cell? p = some v) (hs : ¬ S p.block) : w'.cell? p = some v :=
  (World.cell?_of_block (h.block _ (World.block_lt_of_cell? _ _ hc) hs)).trans hc
theorem Kp.frz (h : Kp S w w') {p : Addr} {v : Value} {q : Bool} (hc : w.cell? p = some v) (hf : w.frozen? p = q) (hs : ¬ S p.block) : w'.frozen? p = q :=
  (World.frozen?_of_block (h.block _ (World.block_lt_of_cell? _ _ hc) hs)).trans hf
theorem Sl.kp {α : Type} {k n : Nat} {enc : α → List Value} {A : Option Addr} {xs : List α} (h : Sl w k enc A n xs) (hk : Kp S w w') (hA : 0 < n → ∀ a, A = some a → ¬ S a.block) : Sl w' k enc A n xs :=
  ⟨h.1, fun hn => by
    obtain ⟨b, off, e, hb, hc⟩ := h.2 hn
    exact ⟨b, off, e, by have := hk.size; omega, fun i x hx j u hu => hk.cell (hc i x hx j u hu) (hA hn ⟨b, off, none⟩ e)⟩⟩
theorem Sl.lt {α : Type} {k n : Nat} {enc : α → List Value} {A : Option Addr} {xs : List α} (h : Sl w k enc A n xs) : 0 < n → ∀ a, A = some a → a.block < w.heap.size := by
  intro hn a ha
  obtain ⟨b, off, e, hb, _⟩ := h.2 hn
  rw [ha] at e; injection e with e; rw [e]; exact hb
theorem Own.kp {α : Type} {base : Nat} {e : TypeId} {k : Nat} {enc : α → List Value} {v : Value} {xs : List α} (h : Own w base e k enc v xs) (hk : Kp S w w') (hv : ∀ g, v.ownBlock = some g → ¬ S g) : Own w' base e k enc v xs := by
  obtain ⟨h1, h2⟩ := h
  refine ⟨h1, ?_⟩
  rcases h2 with h2 | ⟨g, cap, cur, hv2, hg, hh, r⟩
  · exact .inl h2
  · exact .inr ⟨g, cap, cur, hv2, hg, (hk.block g (Array.getElem?_eq_some_iff.1 hh).1 (hv g (by rw [hv2]; rfl))).trans hh, r⟩
end
theorem Own.setc {α : Type} {w : World} {base : Nat} {e : TypeId} {k : Nat} {enc : α → List Value} {v : Value} {xs : List α} (h : Own w base e k enc v xs) (p : Addr) (u : Value) (hv : ∀ g, v.ownBlock = some g → g ≠ p.block) : Own (w.setCell p u) base e k enc v xs :=
  h.kp (S := fun k => k = p.block) ((Kp.refl (fun k => k = p.block) w).setCell (p := p) rfl u) fun g hg e => hv g hg e

end Go.Proofs.Ytcfbnlkkoifiiaa
