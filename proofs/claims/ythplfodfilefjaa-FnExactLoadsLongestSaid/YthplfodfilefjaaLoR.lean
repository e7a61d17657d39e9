/-
  A row of bytes of the call's own that begins anywhere in its block.
-/
import Derived.Test.YthplfodfilefjaaBByte
import Derived.Test.YthplfodfilefjaaW2
import Derived.ArgAppend
namespace Go.Proofs.Ythplfodfilefjaa
open Go.RowKit

/-- the slice value lies at block g from off on, with room up to cap, and holds xs -/
structure RowAt (w : World) (base g off cap : Nat) (xs : List UInt8) : Prop where
  r0 : base ≤ g
  r1 : g < w.heap.size
  r2 : xs.length ≤ cap
  r3 : cap ≤ maxLen
  there : ∀ j, j < cap → (w.cell? ⟨g, off + j, none⟩).isSome = true ∧ w.frozen? ⟨g, off + j, none⟩ = false
  cells : ∀ i x, xs[i]? = some x → w.cell? ⟨g, off + i, none⟩ = some (.int .u8 (x.toNat : Int))
def RowO (w : World) (base : Nat) (v : Value) (xs : List UInt8) : Prop := ∃ g off cap, v = .slice (some ⟨g, off, none⟩) xs.length cap ∧ RowAt w base g off cap xs

section
variable {w w' : World} {base g off cap : Nat} {xs : List UInt8}
theorem RowAt.sl (h : RowAt w base g off cap xs) : Sl w 1 eB (some ⟨g, off, none⟩) xs.length xs :=
  ⟨rfl, fun _ => ⟨g, off, rfl, h.r1, fun i x hx j u hu => by
    match j, hu with
    | 0, hu =>
      have : u = .int .u8 (x.toNat : Int) := by simpa [eB] using hu.symm
      subst this
      rw [Nat.mul_one, Nat.add_zero]; exact h.cells i x hx
    | j + 1, hu => simp [eB] at hu⟩⟩
theorem RowAt.keep (h : RowAt w base g off cap xs) (hs : w.heap.size ≤ w'.heap.size) (hc : ∀ p : Addr, p.block < w.heap.size → w'.cell? p = w.cell? p) (hf : ∀ p : Addr, p.block < w.heap.size → w'.frozen? p = w.frozen? p) : RowAt w' base g off cap xs :=
  ⟨h.r0, Nat.lt_of_lt_of_le h.r1 hs, h.r2, h.r3, fun j hj => by rw [hc _ h.r1, hf _ h.r1]; exact h.there j hj, fun i x hx => (hc _ h.r1).trans (h.cells i x hx)⟩
theorem RowAt.below (h : RowAt w base g off cap xs) (hb : Below w.heap.size w w') : RowAt w' base g off cap xs := h.keep hb.size (fun _ hp => hb.cell hp) (fun _ hp => hb.frozen hp)
theorem RowAt.alloc (h : RowAt w base g off cap xs) (o : Obj) : RowAt (w.alloc o) base g off cap xs := h.below (below_alloc w o)
theorem RowAt.drewN (h : RowAt w base g off cap xs) (m : Nat) : RowAt (w.drewN m) base g off cap xs := h.below (below_drewN (Below.refl _ _) m)
theorem RowAt.tail {x : UInt8} {ys : List UInt8} (h : RowAt w base g off (cap + 1) (x :: ys)) : RowAt w base g (off + 1) cap ys :=
  ⟨h.r0, h.r1, by have := h.r2; simp at this; exact this, by have := h.r3; omega, fun j hj => by
    have := h.there (j + 1) (by omega)
    rwa [show off + 1 + j = off + (j + 1) by omega], fun i y hy => by
    have := h.cells (i + 1) y (by simpa using hy)
    rwa [show off + 1 + i = off + (i + 1) by omega]⟩
/-- a byte stored behind the last one, where there is room -/
theorem RowAt.push (h : RowAt w base g off cap xs) (hr : xs.length + 1 ≤ cap) (y : UInt8) : RowAt (w.setCell ⟨g, off + xs.length, none⟩ (.int .u8 (y.toNat : Int))) base g off cap (xs ++ [y]) := by
  obtain ⟨u0, hu0⟩ := Option.isSome_iff_exists.1 (h.there xs.length (by omega)).1
  have same : (w.setCell ⟨g, off + xs.length, none⟩ (.int .u8 (y.toNat : Int))).cell? ⟨g, off + xs.length, none⟩ = some (.int .u8 (y.toNat : Int)) := World.cell?_setCell_same _ _ _ hu0
  have other : ∀ j, j ≠ xs.length → (w.setCell ⟨g, off + xs.length, none⟩ (.int .u8 (y.toNat : Int))).cell? ⟨g, off + j, none⟩ = w.cell? ⟨g, off + j, none⟩ := fun j hj =>
    World.cell?_setCell_other _ _ _ _ (by intro e; injection e with _ e2 _; omega)
  refine ⟨h.r0, by simpa using h.r1, by simpa using hr, h.r3, fun j hj => ?_, fun i x hx => ?_⟩
  · refine ⟨?_, by rw [World.frozen?_setCell]; exact (h.there j hj).2⟩
    by_cases e : j = xs.length
    · subst e; rw [same]; rfl
    · rw [other j e]; exact (h.there j hj).1
  · by_cases e : i = xs.length
    · subst e
      have : y = x := by simpa using hx
      subst this; exact same
    · rw [other i e]
      refine h.cells i x ?_
      have hi : i < (xs ++ [y]).length := (List.getElem?_eq_some_iff.1 hx).1
      rw [List.getElem?_append_left (by simp at hi; omega)] at hx
      exact hx
theorem RowO.of_own {v : Value} {n : Nat} {T : TypeId} (h : w.ownsRow base T 1 v n (xs.flatMap eB)) (hn : n = xs.length) (h0 : 0 < n) : RowO w base v xs := by
  subst hn
  have hx : ∀ (i : Nat) (x : UInt8), xs[i]? = some x → (xs.flatMap eB)[i]? = some (Value.int .u8 (x.toNat : Int)) := fun i x hx => by
    have := flat_at eB_len xs i x hx 0 (by omega)
    simpa [eB] using this
  rcases h.2 with ⟨_, hz⟩ | ⟨g, cap, cur, hv, hbg, hg, hnc, hcm, hcs, htake⟩
  · omega
  · have hcell : ∀ j, w.cell? ⟨g, 0 + j, none⟩ = cur[j]? := fun j => by rw [Nat.zero_add]; exact cell_of_row w g j cur T _ hg
    refine ⟨g, 0, cap, hv, hbg, (Array.getElem?_eq_some_iff.1 hg).1, hnc, hcm, fun j hj => ⟨?_, ?_⟩, fun i x hi => ?_⟩
    · rw [hcell]
      have : j < cur.size := by omega
      simp [this]
    · exact frozen_of_row w g (0 + j) cur T hg
    · rw [hcell]
      have h1 := hx i x hi
      rw [← htake] at h1
      rw [List.getElem?_take] at h1
      split at h1
      · simpa using h1
      · cases h1
theorem RowO.lit (w : World) (T : TypeId) (hb : base ≤ w.heap.size) : RowO (w.alloc (.cells #[] T)) base (.slice (some ⟨w.heap.size, 0, none⟩) 0 0) [] :=
  ⟨w.heap.size, 0, 0, rfl, hb, by simp, Nat.le_refl _, by simp [maxLen], fun j hj => by omega, fun i x hx => by simp at hx⟩
end

/-- append of one byte -/
theorem wpList_appO {P : Program} {w : World} {ops : Array Oper} {rest : List Oper} {o : Oper} {a : Act} {Q : Exit → Act → World → Prop} (hgd : o.guard = none) (s x : Operand) (t T : TypeId)
    (ho : o.op = .call { callee := .builtin .append, args := #[s, x], argTypes := #[t, t] })
    (base : Nat) (i : TypeInfo) (z : Value) (ht : P.underlying t = some (.slice T)) (hi : P.info? T = some i) (hz : i.zero = some z)
    (hsize : i.size = 1) (hby : i.bytes = 1) (hzs : z.cells.size = 1)
    (g off cap : Nat) (xs : List UInt8) (hs : a.eval s = .slice (some ⟨g, off, none⟩) xs.length cap) (own : RowAt w base g off cap xs)
    (y : UInt8) (gb c : Nat) (hx : a.eval x = .slice (some ⟨gb, 0, none⟩) 1 c) (hcell : w.cell? ⟨gb, 0, none⟩ = some (.int .u8 (y.toNat : Int)))
    (hlen : xs.length ≤ 1000) (hbase : base ≤ w.heap.size)
    (h : ∀ v' w', RowO w' base v' (xs ++ [y]) → Below base w w' → wpList P ops Q rest (a.put o.dst v') w') : wpList P ops Q (o :: rest) a w := by
  have hcap := own.r3
  refine wpList_append_arg w hgd s x t ho T i z 1 1 ht hi hz hsize hby hzs (by omega) g off xs.length cap (xs.flatMap eB) hs (by rw [flat_len eB_len]) (fun j u hu => ?_)
    ⟨gb, 0, none⟩ 1 c [.int .u8 (y.toNat : Int)] hx rfl (fun j u hu => ?_) (fun u hu => by simp at hu; subst hu; rfl) (fun hr j hj => ?_) (by unfold maxLen; omega) (by omega) (fun hr => ?_) (fun hr v' w' h2 h3 => ?_)
  · have hj : j < xs.length := by
      have := (List.getElem?_eq_some_iff.1 hu).1
      rwa [flat_len eB_len, Nat.mul_one] at this
    have hxj : xs[j]? = some (xs[j]'hj) := List.getElem?_eq_getElem hj
    have := flat_at eB_len xs j _ hxj 0 (by omega)
    rw [Nat.mul_one, Nat.add_zero, hu] at this
    have e : u = .int .u8 ((xs[j]'hj).toNat : Int) := by simpa [eB] using this
    subst e
    exact own.cells j _ hxj
  · match j, hu with
    | 0, hu =>
      have : u = .int .u8 (y.toNat : Int) := by simpa using hu.symm
      subst this
      rw [show ((⟨gb, 0, none⟩ : Addr).add 0) = ⟨gb, 0, none⟩ from rfl]; exact hcell
    | j + 1, hu => simp at hu
  · have : j = 0 := by simpa using hj
    subst this
    rw [Nat.mul_one, Nat.add_zero]
    exact own.there xs.length (by omega)
  · have e : w.setCells g (off + xs.length * 1) [.int .u8 (y.toNat : Int)] = w.setCell ⟨g, off + xs.length, none⟩ (.int .u8 (y.toNat : Int)) := by simp [World.setCells]
    rw [e]
    refine h _ _ ⟨g, off, cap, by simp, own.push hr y⟩ ((Below.refl _ _).setCell (by exact own.r0) _)
  · have h4 : w'.ownsRow w.heap.size T 1 v' (xs.length + 1) ((xs ++ [y]).flatMap eB) := by simpa [eB] using h2
    obtain ⟨g', o', c', hv, hr'⟩ := RowO.of_own h4 (by simp) (by omega)
    exact h _ _ ⟨g', o', c', hv, { hr' with r0 := Nat.le_trans hbase hr'.r0 }⟩ ((Below.refl _ _).grown h3 hbase (fun q hq => by cases hq))
end Go.Proofs.Ythplfodfilefjaa
