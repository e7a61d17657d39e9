/-
  Showings, in plain mathematics: the line of slides in a magazine.
-/
import Derived.Test.YthplfodfilefjaaLd
namespace Go.Proofs.Ythplfodfilefjaa

theorem findB_at {l : List UInt8} {c : UInt8} (h : findB l c < l.length) : l[findB l c]? = some c := by
  induction l with
  | nil => simp at h
  | cons x xs ih =>
    rw [findB] at h ⊢
    by_cases hx : (x == c) = true
    · rw [if_pos hx]; simpa using hx
    · rw [if_neg hx] at h ⊢
      have : findB xs c < xs.length := by simpa using h
      simpa using ih this
theorem findB_min {l : List UInt8} {c : UInt8} {k : Nat} (h : l[k]? = some c) : findB l c ≤ k := by
  induction l generalizing k with
  | nil => simp at h
  | cons x xs ih =>
    rw [findB]
    by_cases hx : (x == c) = true
    · rw [if_pos hx]; omega
    · rw [if_neg hx]
      cases k with
      | zero => simp at h; subst h; simp at hx
      | succ k =>
        have := ih (k := k) (by simpa using h)
        omega
/-- one slide shown: the line (the next to be taken out first), the loads -/
def lnF (again : Bool) (p : Nat) (st : List UInt8 × Int) (c : UInt8) : List UInt8 × Int :=
  if findB st.1 c < st.1.length then (if again then (st.1.eraseIdx (findB st.1 c) ++ [c], st.2) else st)
  else ((if st.1.length = p then st.1.drop 1 else st.1) ++ [c], st.2 + 1)
def lnK (l : List UInt8) (again : Bool) (p : Nat) : Nat → List UInt8 × Int
  | 0 => ([], 0)
  | k + 1 => match l[k]? with
    | some c => lnF again p (lnK l again p k) c
    | none => lnK l again p k
theorem lnK_step {l : List UInt8} {again : Bool} {p k : Nat} {c : UInt8} (h : l[k]? = some c) : lnK l again p (k + 1) = lnF again p (lnK l again p k) c := by rw [lnK, h]
theorem lnF_len {again : Bool} {p : Nat} {st : List UInt8 × Int} {c : UInt8} (hp : 1 ≤ p) (h : st.1.length ≤ p) : (lnF again p st c).1.length ≤ p := by
  unfold lnF
  split
  · split
    · rename_i h1 _
      simp only [List.length_append, List.length_cons, List.length_nil, List.length_eraseIdx, if_pos h1]; omega
    · exact h
  · split
    · simp; omega
    · simp; omega
theorem lnK_len (l : List UInt8) (again : Bool) {p : Nat} (hp : 1 ≤ p) (k : Nat) : (lnK l again p k).1.length ≤ p := by
  induction k with
  | zero => simp [lnK]
  | succ k ih =>
    rw [lnK]; split
    · exact lnF_len hp ih
    · exact ih
theorem findB_no {l : List UInt8} {c : UInt8} (h : ¬ findB l c < l.length) : c ∉ l := by
  intro hm
  obtain ⟨k, hk⟩ := List.getElem?_of_mem hm
  have h1 := findB_min hk
  have h2 := (List.getElem?_eq_some_iff.1 hk).1
  omega
theorem erase_mem {l : List UInt8} {i : Nat} {c : UInt8} (hn : l.Nodup) (hi : l[i]? = some c) : c ∉ l.eraseIdx i := by
  intro hm
  rw [List.mem_eraseIdx_iff_getElem?] at hm
  obtain ⟨j, hj, hc⟩ := hm
  have h1 := (List.getElem?_eq_some_iff.1 hi)
  have h2 := (List.getElem?_eq_some_iff.1 hc)
  obtain ⟨a1, a2⟩ := h1
  obtain ⟨b1, b2⟩ := h2
  exact hj ((List.getElem?_inj b1 hn).1 (by rw [hc, hi]))
theorem lnF_nodup {again : Bool} {p : Nat} {st : List UInt8 × Int} {c : UInt8} (h : st.1.Nodup) : (lnF again p st c).1.Nodup := by
  unfold lnF
  split
  · rename_i h1
    split
    · rw [List.nodup_append]
      refine ⟨h.sublist (List.eraseIdx_sublist _ _), by simp, ?_⟩
      intro a ha b hb e
      simp at hb
      subst hb; subst e
      exact erase_mem h (findB_at h1) ha
    · exact h
  · rename_i h1
    have hc := findB_no h1
    split
    · rw [List.nodup_append]
      refine ⟨h.sublist (List.drop_sublist _ _), by simp, ?_⟩
      intro a ha b hb e
      simp at hb
      subst hb; subst e
      exact hc (List.mem_of_mem_drop ha)
    · rw [List.nodup_append]
      refine ⟨h, by simp, ?_⟩
      intro a ha b hb e
      simp at hb
      subst hb; subst e
      exact hc ha
theorem lnK_nodup (l : List UInt8) (again : Bool) (p k : Nat) : (lnK l again p k).1.Nodup := by
  induction k with
  | zero => simp [lnK]
  | succ k ih =>
    rw [lnK]; split
    · exact lnF_nodup ih
    · exact ih
theorem lnK_bd (l : List UInt8) (again : Bool) (p k : Nat) : 0 ≤ (lnK l again p k).2 ∧ (lnK l again p k).2 ≤ k := by
  induction k with
  | zero => simp [lnK]
  | succ k ih =>
    rw [lnK]; split
    · unfold lnF; split
      · split <;> ((try simp only); omega)
      · (try simp only); omega
    · omega
/-- the place found among the first k -/
def atK (l : List UInt8) (c : UInt8) (k : Nat) : Int := if findB l c < k then (findB l c : Int) else -1
theorem atK_zero (l : List UInt8) (c : UInt8) : atK l c 0 = -1 := by simp [atK]
theorem atK_yes {l : List UInt8} {c x : UInt8} {k : Nat} (hn : l.Nodup) (h : l[k]? = some x) (hx : (x == c) = true) : atK l c (k + 1) = (k : Int) := by
  have e : x = c := by simpa using hx
  subst e
  have h1 := findB_min h
  have hk := (List.getElem?_eq_some_iff.1 h).1
  have h2 := findB_at (show findB l x < l.length by omega)
  have h3 : findB l x = k := by
    obtain ⟨a1, a2⟩ := List.getElem?_eq_some_iff.1 h
    obtain ⟨b1, b2⟩ := List.getElem?_eq_some_iff.1 h2
    exact (List.getElem?_inj b1 hn).1 (by rw [h2, h])
  rw [atK, if_pos (by omega), h3]
theorem atK_no {l : List UInt8} {c x : UInt8} {k : Nat} (h : l[k]? = some x) (hx : (x == c) = false) : atK l c (k + 1) = atK l c k := by
  have h3 : findB l c ≠ k := by
    intro e
    have hk := (List.getElem?_eq_some_iff.1 h).1
    have h2 := findB_at (show findB l c < l.length by omega)
    rw [e, h] at h2
    injection h2 with h2
    subst h2; simp at hx
  unfold atK
  by_cases h1 : findB l c < k
  · rw [if_pos h1, if_pos (by omega)]
  · rw [if_neg h1, if_neg (by omega)]
theorem atK_end (l : List UInt8) (c : UInt8) : atK l c l.length = if findB l c < l.length then (findB l c : Int) else -1 := rfl
/-- the line without a place, among the first k -/
def nxtK (l : List UInt8) (a : Int) : Nat → List UInt8
  | 0 => []
  | k + 1 => match l[k]? with
    | some x => if (k : Int) = a then nxtK l a k else nxtK l a k ++ [x]
    | none => nxtK l a k
theorem nxtK_yes {l : List UInt8} {a : Int} {k : Nat} {x : UInt8} (h : l[k]? = some x) (hk : ¬ (k : Int) = a) : nxtK l a (k + 1) = nxtK l a k ++ [x] := by rw [nxtK, h]; simp only; rw [if_neg hk]
theorem nxtK_no {l : List UInt8} {a : Int} {k : Nat} {x : UInt8} (h : l[k]? = some x) (hk : (k : Int) = a) : nxtK l a (k + 1) = nxtK l a k := by rw [nxtK, h]; simp only; rw [if_pos hk]
theorem nxtK_len (l : List UInt8) (a : Int) (k : Nat) : (nxtK l a k).length ≤ k := by
  induction k with
  | zero => simp [nxtK]
  | succ k ih =>
    rw [nxtK]; split
    · split
      · omega
      · simp; omega
    · omega
theorem nxtK_all {l : List UInt8} {a : Int} (ha : ∀ k : Nat, k < l.length → (k : Int) ≠ a) (k : Nat) (hk : k ≤ l.length) : nxtK l a k = l.take k := by
  induction k with
  | zero => simp [nxtK]
  | succ k ih =>
    have hx : l[k]? = some l[k] := List.getElem?_eq_getElem (by omega)
    rw [nxtK_yes hx (ha k (by omega)), ih (by omega), List.take_add_one, hx]; rfl
theorem nxtK_erase {l : List UInt8} {a : Nat} (ha : a < l.length) (k : Nat) (hk : k ≤ l.length) : nxtK l (a : Int) k = if k ≤ a then l.take k else l.take a ++ (l.drop (a + 1)).take (k - (a + 1)) := by
  induction k with
  | zero => simp [nxtK]
  | succ k ih =>
    have hx : l[k]? = some l[k] := List.getElem?_eq_getElem (by omega)
    by_cases h1 : k = a
    · subst h1
      rw [nxtK_no hx rfl, ih (by omega), if_pos (Nat.le_refl _), if_neg (by omega)]
      simp
    · rw [nxtK_yes hx (by omega), ih (by omega)]
      by_cases h2 : k < a
      · rw [if_pos (by omega), if_pos (by omega), List.take_add_one, hx]; rfl
      · rw [if_neg (by omega), if_neg (by omega), List.append_assoc, show k + 1 - (a + 1) = (k - (a + 1)) + 1 by omega, List.take_add_one, List.getElem?_drop, show a + 1 + (k - (a + 1)) = k by omega, hx]; rfl
theorem nxtK_end {l : List UInt8} {a : Nat} (ha : a < l.length) : nxtK l (a : Int) l.length = l.eraseIdx a := by
  rw [nxtK_erase ha _ (Nat.le_refl _), if_neg (by omega), List.eraseIdx_eq_take_drop_succ]
  congr 1
  exact List.take_of_length_le (by simp)
theorem nxtK_none {l : List UInt8} : nxtK l (-1) l.length = l := by
  rw [nxtK_all (fun k _ => by omega) _ (Nat.le_refl _), List.take_of_length_le (Nat.le_refl _)]
def lnVal (l : List UInt8) (again : Bool) (p : Int) : Int := (lnK l again p.toNat l.length).2
def lrCode (l : List UInt8) (p : Int) : Int := ldCode l p
def lrVal (l : List UInt8) (again : Bool) (p : Int) : Int := if ldCode l p = 0 then lnVal l again p else 0
end Go.Proofs.Ythplfodfilefjaa
