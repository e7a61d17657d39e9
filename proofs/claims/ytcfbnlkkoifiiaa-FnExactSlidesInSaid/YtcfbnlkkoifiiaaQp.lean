/-
  The partition of a row around a pivot, in plain mathematics.
-/
import Derived.Sort.LotA
import Derived.Sort.Lot0
namespace Go.Proofs.Ytcfbnlkkoifiiaa
open Go.Sort

/-- a partition under way: behind a all below i is of q, all above j is not -/
structure PI (q : Int → Bool) (a b : Nat) (d : Array Int) (p : Int) (dk : Array Int) (i j : Nat) : Prop where
  bs : b ≤ d.size
  sz : dk.size = d.size
  perm : PermIn a b d dk
  piv : dk[a]! = p
  lo : ∀ t, a < t → t < i → q dk[t]! = true
  hi : ∀ t, j < t → t < b → q dk[t]! = false
  ia : a < i
  ij : i ≤ j + 1
  jb : j < b
section
variable {q : Int → Bool} {a b : Nat} {d dk : Array Int} {p : Int} {i j : Nat}
theorem PI.up (h : PI q a b d p dk i j) (hij : i ≤ j) (hq : q dk[i]! = true) : PI q a b d p dk (i + 1) j :=
  ⟨h.bs, h.sz, h.perm, h.piv, fun t h1 h2 => by
    by_cases e : t = i
    · rw [e]; exact hq
    · exact h.lo t h1 (by omega), h.hi, by have := h.ia; omega, by omega, h.jb⟩
theorem PI.down (h : PI q a b d p dk i j) (hij : i ≤ j) (hq : q dk[j]! = false) : PI q a b d p dk i (j - 1) :=
  have hia := h.ia
  ⟨h.bs, h.sz, h.perm, h.piv, h.lo, fun t h1 h2 => by
    by_cases e : t = j
    · rw [e]; exact hq
    · exact h.hi t (by omega) h2, h.ia, by omega, by have := h.jb; omega⟩
theorem swp_at (d : Array Int) {i j : Nat} (hi : i < d.size) (hj : j < d.size) (t : Nat) : (swp d i j)[t]! = if t = j then d[i]! else if t = i then d[j]! else d[t]! := swp_get d hi hj t
theorem PI.swap (h : PI q a b d p dk i j) (hij : i ≤ j) (hq : q dk[i]! = false) (hq2 : q dk[j]! = true) : PI q a b d p (swp dk i j) (i + 1) (j - 1) := by
  have h1 := h.ia
  have h2 := h.jb
  have h3 := h.bs
  have h4 := h.sz
  have hne : i ≠ j := fun e => by rw [e, hq2] at hq; cases hq
  have hi : i < dk.size := by omega
  have hj : j < dk.size := by omega
  refine ⟨h.bs, by rw [size_swp]; exact h.sz, permIn_trans _ _ _ _ _ h.perm (swp_permIn _ _ _ _ _ (by omega) (by omega) (by omega) (by omega) (by omega)), ?_, ?_, ?_, by omega, by omega, by omega⟩
  · rw [swp_at _ hi hj, if_neg (by omega), if_neg (by omega)]; exact h.piv
  · intro t t1 t2
    rw [swp_at _ hi hj]
    by_cases e : t = i
    · rw [if_neg (by omega), if_pos e]; exact hq2
    · rw [if_neg (by omega), if_neg e]; exact h.lo t t1 (by omega)
  · intro t t1 t2
    rw [swp_at _ hi hj]
    by_cases e : t = j
    · rw [if_pos e]; exact hq
    · rw [if_neg e, if_neg (by omega)]; exact h.hi t (by omega) t2
theorem PI.start (hb : b ≤ d.size) (ha : a ≤ i) (hi : i < b) (hab : a < b) : PI q a b d d[i]! (swp d a i) (a + 1) (b - 1) := by
  refine ⟨hb, by rw [size_swp], swp_permIn _ _ _ _ _ (by omega) (by omega) (by omega) (by omega) (by omega), ?_, fun t _ _ => by omega, fun t _ _ => by omega, by omega, by omega, by omega⟩
  rw [swp_at _ (by omega) (by omega)]
  split
  · next e => rw [e]
  · rw [if_pos rfl]
/-- what a partition leaves -/
structure PartRes (a b : Nat) (d : Array Int) (mid : Nat) (d' : Array Int) : Prop where
  perm : PermIn a b d d'
  sz : d'.size = d.size
  le : a ≤ mid
  lt : mid < b
  lo : ∀ t, a ≤ t → t < mid → d'[t]! < d'[mid]!
  hi : ∀ t, mid < t → t < b → d'[mid]! ≤ d'[t]!
theorem PI.fin (h : PI (fun x => ltInt x p) a b d p dk i j) (hji : j < i) : PartRes a b d j (swp dk j a) := by
  have h1 := h.ia
  have h2 := h.jb
  have h3 := h.bs
  have h4 := h.sz
  have h5 := h.ij
  have hj : j < dk.size := by omega
  have ha : a < dk.size := by omega
  have hm : (swp dk j a)[j]! = p := by
    rw [swp_at _ hj ha]
    split
    · next e => rw [e]; exact h.piv
    · rw [if_pos rfl]; exact h.piv
  refine ⟨permIn_trans _ _ _ _ _ h.perm (swp_permIn _ _ _ _ _ (by omega) (by omega) (by omega) (by omega) (by omega)), by rw [size_swp]; exact h.sz, by omega, h.jb, ?_, ?_⟩
  · intro t t1 t2
    rw [hm, swp_at _ hj ha]
    by_cases e : t = a
    · rw [if_pos e]
      have := h.lo j (by omega) (by omega)
      simpa [ltInt] using this
    · rw [if_neg e, if_neg (by omega)]
      have := h.lo t (by omega) (by omega)
      simpa [ltInt] using this
  · intro t t1 t2
    rw [hm, swp_at _ hj ha, if_neg (by omega), if_neg (by omega)]
    have := h.hi t t1 t2
    simpa [ltInt] using this
/-- what the partition of equal ones leaves -/
structure PartEq (a b : Nat) (d : Array Int) (p : Int) (mid : Nat) (d' : Array Int) : Prop where
  perm : PermIn a b d d'
  sz : d'.size = d.size
  le : a < mid
  lt : mid ≤ b
  lo : ∀ t, a ≤ t → t < mid → d'[t]! ≤ p
  hi : ∀ t, mid ≤ t → t < b → p < d'[t]!
theorem PI.finEq (h : PI (fun x => !ltInt p x) a b d p dk i j) (hji : j < i) : PartEq a b d p i dk := by
  have h1 := h.ia
  have h2 := h.jb
  have h5 := h.ij
  refine ⟨h.perm, h.sz, h.ia, by omega, ?_, ?_⟩
  · intro t t1 t2
    by_cases e : t = a
    · rw [e, h.piv]; exact Int.le_refl _
    · have := h.lo t (by omega) t2
      simpa [ltInt] using this
  · intro t t1 t2
    have := h.hi t (by omega) t2
    simpa [ltInt] using this
end
end Go.Proofs.Ytcfbnlkkoifiiaa
