/-
  Plain lemmas on lists and integers, with no program in sight.
-/
namespace Go.Proofs.YthplfodfilefjaaDoor
set_option maxRecDepth 100000

def inB (n lo hi : Int) : Bool := decide (lo ≤ n) && decide (n ≤ hi)
theorem inB_true {n lo hi : Int} : inB n lo hi = true ↔ lo ≤ n ∧ n ≤ hi := by simp [inB]
theorem inB_false {n lo hi : Int} : inB n lo hi = false ↔ ¬ (lo ≤ n ∧ n ≤ hi) := by
  rw [← inB_true]; cases inB n lo hi <;> simp

/-- a sum over a list -/
def sumI {α : Type} (f : α → Int) (xs : List α) : Int := (xs.map f).sum

section
variable {α : Type} {xs : List α} {k : Nat} {x : α}

theorem take_snoc (h : xs[k]? = some x) : xs.take (k + 1) = xs.take k ++ [x] := by
  rw [List.take_add_one, h]; rfl

theorem sumI_nil (f : α → Int) : sumI f ([] : List α) = 0 := rfl
theorem sumI_snoc (f : α → Int) (ys : List α) (x : α) : sumI f (ys ++ [x]) = sumI f ys + f x := by simp [sumI]
theorem sumI_cons (f : α → Int) (ys : List α) (x : α) : sumI f (x :: ys) = f x + sumI f ys := by simp [sumI]
theorem sumI_app (f : α → Int) (xs ys : List α) : sumI f (xs ++ ys) = sumI f xs + sumI f ys := by simp [sumI]
theorem sumI_step (f : α → Int) (h : xs[k]? = some x) : sumI f (xs.take (k + 1)) = sumI f (xs.take k) + f x := by
  rw [take_snoc h, sumI_snoc]
theorem sumI_le (f : α → Int) (m : Int) (xs : List α) (h : ∀ x ∈ xs, f x ≤ m) : sumI f xs ≤ m * xs.length := by
  induction xs with
  | nil => simp [sumI]
  | cons y ys ih =>
    have h1 := h y (by simp)
    have h2 := ih (fun z hz => h z (by simp [hz]))
    rw [sumI_cons, List.length_cons]
    have : m * ((ys.length + 1 : Nat) : Int) = m * (ys.length : Int) + m := by
      rw [Int.natCast_add, Int.mul_add]; simp
    omega
theorem sumI_ge (f : α → Int) (m : Int) (xs : List α) (h : ∀ x ∈ xs, m ≤ f x) : m * xs.length ≤ sumI f xs := by
  induction xs with
  | nil => simp [sumI]
  | cons y ys ih =>
    have h1 := h y (by simp)
    have h2 := ih (fun z hz => h z (by simp [hz]))
    rw [sumI_cons, List.length_cons]
    have : m * ((ys.length + 1 : Nat) : Int) = m * (ys.length : Int) + m := by
      rw [Int.natCast_add, Int.mul_add]; simp
    omega
theorem all_step (p : α → Bool) (h : xs[k]? = some x) : (xs.take (k + 1)).all p = ((xs.take k).all p && p x) := by
  rw [take_snoc h, List.all_append]; simp
theorem take_all {n : Nat} (h : xs.length = n) : xs.take n = xs := List.take_of_length_le (by omega)
theorem all_get (p : α → Bool) (ha : xs.all p = true) (h : xs[k]? = some x) : p x = true := by
  rw [List.all_eq_true] at ha
  exact ha x (List.mem_of_getElem? h)
theorem all_no (p : α → Bool) (h : xs[k]? = some x) (hp : p x = false) : xs.all p = false := by
  cases e : xs.all p with
  | false => rfl
  | true => rw [all_get p e h] at hp; cases hp
theorem all_yes (p : α → Bool) {n : Nat} (hl : xs.length = n) (h : ∀ k x, k < n → xs[k]? = some x → p x = true) : xs.all p = true := by
  rw [List.all_eq_true]
  intro y hy
  obtain ⟨i, hi, rfl⟩ := List.getElem_of_mem hy
  exact h i _ (by omega) (List.getElem?_eq_getElem hi)
end

/-- a fold, step by step -/
theorem foldl_step {α β : Type} (f : β → α → β) (b : β) {xs : List α} {k : Nat} {x : α} (h : xs[k]? = some x) : (xs.take (k + 1)).foldl f b = f ((xs.take k).foldl f b) x := by
  rw [take_snoc h, List.foldl_append]; rfl

theorem take_eq_step {α : Type} {xs ys : List α} {k : Nat} {x y : α} (h : xs.take k = ys.take k) (hx : xs[k]? = some x) (hy : ys[k]? = some y) (e : x = y) : xs.take (k + 1) = ys.take (k + 1) := by
  rw [take_snoc hx, take_snoc hy, h, e]
theorem eq_of_take {α : Type} {xs ys : List α} {n : Nat} (h : xs.take n = ys.take n) (hx : xs.length = n) (hy : ys.length = n) : xs = ys := by
  rwa [take_all hx, take_all hy] at h
theorem ne_of_get {α : Type} {xs ys : List α} {k : Nat} {x y : α} (hx : xs[k]? = some x) (hy : ys[k]? = some y) (e : x ≠ y) : xs ≠ ys := by
  rintro rfl; rw [hx] at hy; exact e (Option.some.inj hy)

/-- the first place at which p holds, or -1 -/
def idxI {α : Type} (p : α → Bool) (xs : List α) : Int := if xs.any p = true then (xs.findIdx p : Int) else -1
theorem idxI_hit {α : Type} {p : α → Bool} {xs : List α} {k : Nat} {x : α} (h : (xs.take k).any p = false) (hx : xs[k]? = some x) (hp : p x = true) : idxI p xs = k := by
  obtain ⟨hk, rfl⟩ := List.getElem?_eq_some_iff.1 hx
  have ha : xs.any p = true := List.any_eq_true.2 ⟨_, List.getElem_mem hk, hp⟩
  unfold idxI
  rw [if_pos ha, (List.findIdx_eq hk).2 ⟨hp, fun j hj => ?_⟩]
  have := List.any_eq_false.1 h xs[j] (List.mem_take_iff_getElem.2 ⟨j, by omega, rfl⟩)
  simpa using this
theorem idxI_miss {α : Type} {p : α → Bool} {xs : List α} (h : xs.any p = false) : idxI p xs = -1 := by
  unfold idxI; rw [if_neg (by simp [h])]
theorem idxI_nn {α : Type} (p : α → Bool) (xs : List α) : decide ((0 : Int) ≤ idxI p xs) = xs.any p := by
  unfold idxI
  cases h : xs.any p <;> simp
theorem any_step {α : Type} {xs : List α} {k : Nat} {x : α} (p : α → Bool) (h : xs[k]? = some x) : (xs.take (k + 1)).any p = ((xs.take k).any p || p x) := by
  rw [take_snoc h, List.any_append]; simp
theorem any_not_all {α : Type} (p : α → Bool) (xs : List α) : (!xs.any fun x => !p x) = xs.all p := by
  induction xs with
  | nil => rfl
  | cons x xs ih => simp only [List.any_cons, List.all_cons, ← ih]; cases p x <;> simp
end Go.Proofs.YthplfodfilefjaaDoor
