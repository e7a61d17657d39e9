/-
  The order of slides and their lanterns, in plain mathematics.
-/
import Derived.Test.YtcfbnlkkoifiiaaSh
import Derived.Sort.WalkA
namespace Go.Proofs.Ytcfbnlkkoifiiaa

/-- where a new element of value v is put among the first k of l: from the right, behind what is not greater -/
def insPos {α : Type} (f : α → Int) (l : List α) (v : Int) : Nat → Nat
  | 0 => 0
  | k + 1 => match l[k]? with
    | some y => if v < f y then insPos f l v k else k + 1
    | none => k + 1
/-- put in -/
def insE {α : Type} (f : α → Int) (l : List α) (x : α) : List α := l.take (insPos f l (f x) l.length) ++ [x] ++ l.drop (insPos f l (f x) l.length)
/-- the order of the elements of a list -/
def ordL {α : Type} (f : α → Int) (l : List α) : List α := l.foldl (insE f) []
theorem insPos_le {α : Type} (f : α → Int) (l : List α) (v : Int) : ∀ k, insPos f l v k ≤ k
  | 0 => Nat.le_refl _
  | k + 1 => by
    rw [insPos]
    split
    · split
      · have := insPos_le f l v k; omega
      · exact Nat.le_refl _
    · exact Nat.le_refl _
theorem insE_len {α : Type} (f : α → Int) (l : List α) (x : α) : (insE f l x).length = l.length + 1 := by
  have := insPos_le f l (f x) l.length
  simp [insE]; omega
theorem ordL_snoc {α : Type} (f : α → Int) (l : List α) (x : α) : ordL f (l ++ [x]) = insE f (ordL f l) x := by
  rw [ordL, List.foldl_append]; rfl
theorem insE_map {α β : Type} (g : α → β) (f : β → Int) (l : List α) (x : α) : (insE (fun a => f (g a)) l x).map g = insE f (l.map g) (g x) := by
  have e : ∀ k, insPos (fun a => f (g a)) l (f (g x)) k = insPos f (l.map g) (f (g x)) k := by
    intro k
    induction k with
    | zero => rfl
    | succ k ih =>
      rw [insPos, insPos, List.getElem?_map]
      cases l[k]? with
      | none => rfl
      | some y => simp only [Option.map_some]; rw [ih]
  simp only [insE, List.map_append, List.map_take, List.map_drop, List.length_map, e, List.map_cons, List.map_nil]
theorem ordL_map {α β : Type} (g : α → β) (f : β → Int) (l : List α) : (ordL (fun a => f (g a)) l).map g = ordL f (l.map g) := by
  have : ∀ (l m : List α), ((l.foldl (insE fun a => f (g a)) m).map g) = (l.map g).foldl (insE f) (m.map g) := by
    intro l
    induction l with
    | nil => intro m; rfl
    | cons x l ih => intro m; rw [List.foldl_cons, ih, insE_map]; rfl
  exact this l []

theorem insPos_append {α : Type} (f : α → Int) (l m : List α) (v : Int) : ∀ k, k ≤ l.length → insPos f (l ++ m) v k = insPos f l v k
  | 0, _ => rfl
  | k + 1, h => by
    rw [insPos, insPos, List.getElem?_append_left (by omega), insPos_append f l m v k (by omega)]
section
open Go.Sort
variable {α : Type} [Inhabited α] {lt : α → α → Bool} {f : α → Int}
theorem swp_mid (A B : List α) (x y : α) : swp (A ++ y :: x :: B).toArray (A.length + 1) A.length = (A ++ x :: y :: B).toArray := by
  apply Array.ext'
  simp [swp]
theorem insInner_list (hlt : ∀ x y, lt x y = decide (f x < f y)) : ∀ (j : Nat) (A B : List α) (x : α), A.length = j →
    insInner lt 0 j (A ++ x :: B).toArray = (A.take (insPos f A (f x) j) ++ x :: (A.drop (insPos f A (f x) j) ++ B)).toArray
  | 0, A, B, x, h => by
    have : A = [] := List.eq_nil_of_length_eq_zero h
    subst this; rfl
  | j + 1, A, B, x, h => by
    obtain ⟨A', y, rfl⟩ : ∃ A' y, A = A' ++ [y] := by
      rcases List.eq_nil_or_concat A with rfl | ⟨A', y, rfl⟩
      · simp at h
      · exact ⟨A', y, by simp⟩
    have hj : A'.length = j := by simpa using h
    subst hj
    have hx : (A' ++ [y] ++ x :: B).toArray[A'.length + 1]! = x := by simp
    have hy : (A' ++ [y] ++ x :: B).toArray[A'.length]! = y := by simp
    have hp : insPos f (A' ++ [y]) (f x) (A'.length + 1) = if f x < f y then insPos f A' (f x) A'.length else A'.length + 1 := by
      rw [insPos, List.getElem?_append_right (Nat.le_refl _)]
      simp [insPos_append]
    rw [insInner, hx, hy, hlt, hp]
    by_cases hc : f x < f y
    · rw [if_pos hc, if_pos (by simp [hc])]
      have e : (A' ++ [y] ++ x :: B) = A' ++ y :: x :: B := by simp
      rw [e, swp_mid, insInner_list hlt A'.length A' (y :: B) x rfl]
      have hle := insPos_le f A' (f x) A'.length
      rw [List.take_append_of_le_length hle, List.drop_append_of_le_length hle]
      simp
    · rw [if_neg hc, if_neg (by simp [hc])]
      have h1 : (A' ++ [y]).take (A'.length + 1) = A' ++ [y] := List.take_of_length_le (by simp)
      have h2 : (A' ++ [y]).drop (A'.length + 1) = [] := List.drop_of_length_le (by simp)
      rw [h1, h2]; simp
theorem insOuter_list (hlt : ∀ x y, lt x y = decide (f x < f y)) (b : Nat) : ∀ (B done A : List α), A = ordL f done → A.length = done.length → A.length + B.length = b →
    insOuter lt 0 b A.length (A ++ B).toArray = (ordL f (done ++ B)).toArray
  | [], done, A, hA, hl, hb => by
    rw [insOuter_stop _ _ _ _ _ (by simp at hb; omega), List.append_nil, List.append_nil, hA]
  | x :: B, done, A, hA, hl, hb => by
    rw [insOuter_go _ _ _ _ _ (by simp at hb; omega), insInner_list hlt A.length A B x rfl]
    have e : A.take (insPos f A (f x) A.length) ++ x :: (A.drop (insPos f A (f x) A.length) ++ B) = insE f A x ++ B := by simp [insE]
    have hA2 : insE f A x = ordL f (done ++ [x]) := by rw [ordL_snoc, hA]
    have hl2 := insE_len f A x
    rw [e, ← hl2, insOuter_list hlt b B (done ++ [x]) (insE f A x) hA2 (by rw [hl2]; simp [hl]) (by rw [hl2]; simp at hb; omega)]
    simp
theorem insertionSort_list (hlt : ∀ x y, lt x y = decide (f x < f y)) (l : List α) : insertionSort lt l.toArray 0 l.length = (ordL f l).toArray := by
  cases l with
  | nil => rw [insertionSort, insOuter_stop _ _ _ _ _ (by simp)]; rfl
  | cons x l =>
    have := insOuter_list hlt (l.length + 1) l [x] [x] (by simp [ordL, insE, insPos]) rfl (by simp; omega)
    simpa [insertionSort] using this
end

end Go.Proofs.Ytcfbnlkkoifiiaa
