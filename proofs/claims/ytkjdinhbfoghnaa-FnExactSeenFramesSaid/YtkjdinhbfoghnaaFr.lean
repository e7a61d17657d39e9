/-
  Frames, in plain Lean: what the program and the reference compute of a list of frames (light, dark).
-/
import Derived.Test.YtkjdinhbfoghnaaMath
namespace Go.Proofs.Ytkjdinhbfoghnaa

def frOne (p : Int × Int) : Bool := inB p.1 1 10000 && inB p.2 0 10000
def frOk (xs : List (Int × Int)) : Bool := xs.all frOne && decide (xs.length ≤ 60)
def ff (p : Int × Int) : Int := p.1 + p.2

structure FrOk (xs : List (Int × Int)) : Prop where
  len : xs.length ≤ 60
  one : ∀ x ∈ xs, 1 ≤ x.1 ∧ x.1 ≤ 10000 ∧ 0 ≤ x.2 ∧ x.2 ≤ 10000

theorem frOne_iff {p : Int × Int} : frOne p = true ↔ 1 ≤ p.1 ∧ p.1 ≤ 10000 ∧ 0 ≤ p.2 ∧ p.2 ≤ 10000 := by
  unfold frOne
  rw [Bool.and_eq_true, inB_true, inB_true]
  constructor
  · rintro ⟨⟨a, b⟩, c, d⟩; exact ⟨a, b, c, d⟩
  · rintro ⟨a, b, c, d⟩; exact ⟨⟨a, b⟩, c, d⟩

theorem frOk_iff {xs : List (Int × Int)} : frOk xs = true ↔ FrOk xs := by
  unfold frOk
  rw [Bool.and_eq_true, List.all_eq_true, decide_eq_true_iff]
  exact ⟨fun ⟨a, b⟩ => ⟨b, fun x hx => frOne_iff.1 (a x hx)⟩, fun h => ⟨fun x hx => frOne_iff.2 (h.one x hx), h.len⟩⟩

/-- where frame k begins -/
def begK (xs : List (Int × Int)) (k : Nat) : Int := sumI ff (xs.take k)

theorem begK_step {xs : List (Int × Int)} {k : Nat} {x : Int × Int} (h : xs[k]? = some x) : begK xs (k + 1) = begK xs k + (x.1 + x.2) := sumI_step ff h

theorem FrOk.take {xs : List (Int × Int)} (h : FrOk xs) (k : Nat) : FrOk (xs.take k) :=
  ⟨by rw [List.length_take]; have := h.len; omega, fun x hx => h.one x (List.mem_of_mem_take hx)⟩

theorem FrOk.sum_bd {xs : List (Int × Int)} (h : FrOk xs) : 0 ≤ sumI ff xs ∧ sumI ff xs ≤ 1200000 := by
  have h1 := sumI_le ff 20000 xs (fun x hx => by have := h.one x hx; simp only [ff]; omega)
  have h2 := sumI_ge ff 0 xs (fun x hx => by have := h.one x hx; simp only [ff]; omega)
  have := h.len
  omega

theorem FrOk.beg_bd {xs : List (Int × Int)} (h : FrOk xs) (k : Nat) : 0 ≤ begK xs k ∧ begK xs k ≤ 1200000 := (h.take k).sum_bd

theorem FrOk.beg_mono {xs : List (Int × Int)} (h : FrOk xs) {i j : Nat} (hij : i ≤ j) : begK xs i ≤ begK xs j := by
  induction j with
  | zero => have : i = 0 := by omega
            subst this; exact Int.le_refl _
  | succ j ih =>
    rcases Nat.lt_or_ge i (j + 1) with hlt | hge
    · have h1 := ih (by omega)
      rcases Nat.lt_or_ge j xs.length with hj | hj
      · have hx := List.getElem?_eq_getElem hj
        have := begK_step hx
        have h2 := h.one _ (List.getElem_mem hj)
        omega
      · have : begK xs (j + 1) = begK xs j := by
          unfold begK; rw [List.take_of_length_le (by omega), List.take_of_length_le hj]
        omega
    · have : i = j + 1 := by omega
      subst this; exact Int.le_refl _

/-- all begins, and the end -/
def begs (xs : List (Int × Int)) : List Int := (List.range (xs.length + 1)).map (begK xs)

/-- the begins of the first k frames, and where the k-th ends -/
def begsTo (xs : List (Int × Int)) (k : Nat) : List Int := (List.range (k + 1)).map (begK xs)
theorem begsTo_zero (xs : List (Int × Int)) : begsTo xs 0 = [0] := by simp [begsTo, begK, sumI]
theorem begsTo_succ (xs : List (Int × Int)) (k : Nat) : begsTo xs (k + 1) = begsTo xs k ++ [begK xs (k + 1)] := by
  unfold begsTo; rw [List.range_succ, List.map_append]; rfl
theorem begsTo_len (xs : List (Int × Int)) (k : Nat) : (begsTo xs k).length = k + 1 := by simp [begsTo]
theorem begsTo_all (xs : List (Int × Int)) : begsTo xs xs.length = begs xs := rfl
theorem begs_len (xs : List (Int × Int)) : (begs xs).length = xs.length + 1 := by simp [begs]
theorem begs_get {xs : List (Int × Int)} {i : Nat} (hi : i ≤ xs.length) : (begs xs)[i]? = some (begK xs i) := by
  unfold begs; rw [List.getElem?_map, List.getElem?_range (by omega)]; rfl

/-- total -/
def tot (xs : List (Int × Int)) : Int := sumI ff xs
theorem begK_len (xs : List (Int × Int)) : begK xs xs.length = tot xs := by unfold begK tot; rw [List.take_of_length_le (Nat.le_refl _)]

/-- the frame at a millisecond, for 0 ≤ m < tot xs -/
def isAt (xs : List (Int × Int)) (m : Int) (k : Nat) (lit : Bool) : Prop :=
  ∃ x, xs[k]? = some x ∧ begK xs k ≤ m ∧ m < begK xs (k + 1) ∧ lit = decide (m < begK xs k + x.1)

theorem isAt_uniq {xs : List (Int × Int)} (h : FrOk xs) {m : Int} {k k' : Nat} {l l' : Bool} (a : isAt xs m k l) (b : isAt xs m k' l') : k = k' ∧ l = l' := by
  obtain ⟨x, hx, h1, h2, rfl⟩ := a
  obtain ⟨y, hy, h3, h4, rfl⟩ := b
  have : k = k' := by
    rcases Nat.lt_trichotomy k k' with hlt | he | hgt
    · have := h.beg_mono (i := k + 1) (j := k') (by omega); omega
    · exact he
    · have := h.beg_mono (i := k' + 1) (j := k) (by omega); omega
  subst this
  rw [hx] at hy
  injection hy with hy
  subst hy
  exact ⟨rfl, rfl⟩

/-- the frame at a millisecond -/
noncomputable def faR (xs : List (Int × Int)) (m : Int) : Nat × Bool := Classical.epsilon fun p => isAt xs m p.1 p.2
theorem faR_eq {xs : List (Int × Int)} (h : FrOk xs) {m : Int} {k : Nat} {l : Bool} (a : isAt xs m k l) : faR xs m = (k, l) := by
  have := isAt_uniq h (Classical.epsilon_spec (p := fun p : Nat × Bool => isAt xs m p.1 p.2) ⟨(k, l), a⟩) a
  exact Prod.ext this.1 this.2
/-- the code of FrameAt -/
def faCode (xs : List (Int × Int)) (m : Int) : Int := if frOk xs then (if inB m 0 (tot xs - 1) then 0 else 2) else 1
noncomputable def faK (xs : List (Int × Int)) (m : Int) : Int := if faCode xs m = 0 then ((faR xs m).1 : Int) else 0
noncomputable def faL (xs : List (Int × Int)) (m : Int) : Bool := if faCode xs m = 0 then (faR xs m).2 else false

/-- the frames that are seen -/
def seenAt (xs : List (Int × Int)) (p m : Int) (i : Nat) : Bool :=
  match xs[i]? with
  | some x => decide (begK xs i ≤ m) && decide (m < begK xs i + x.1 + p)
  | none => false
def seenTo (xs : List (Int × Int)) (p m : Int) (k : Nat) : List Int := ((List.range k).filter (seenAt xs p m)).map Int.ofNat
def seen (xs : List (Int × Int)) (p m : Int) : List Int := seenTo xs p m xs.length

theorem seenTo_zero (xs : List (Int × Int)) (p m : Int) : seenTo xs p m 0 = [] := rfl
theorem seenTo_yes {xs : List (Int × Int)} {p m : Int} {k : Nat} {x : Int × Int} (hx : xs[k]? = some x) (h1 : begK xs k ≤ m) (h2 : m < begK xs k + x.1 + p) : seenTo xs p m (k + 1) = seenTo xs p m k ++ [(k : Int)] := by
  unfold seenTo
  have : seenAt xs p m k = true := by simp [seenAt, hx, h1, h2]
  rw [List.range_succ, List.filter_append, List.map_append, List.filter_cons, if_pos this]; rfl
theorem seenTo_no {xs : List (Int × Int)} {p m : Int} {k : Nat} {x : Int × Int} (hx : xs[k]? = some x) (h : ¬ (begK xs k ≤ m ∧ m < begK xs k + x.1 + p)) : seenTo xs p m (k + 1) = seenTo xs p m k := by
  unfold seenTo
  have : seenAt xs p m k = false := by
    simp only [seenAt, hx]
    rw [Bool.and_eq_false_iff, decide_eq_false_iff_not, decide_eq_false_iff_not]
    by_cases h1 : begK xs k ≤ m
    · exact .inr fun h2 => h ⟨h1, h2⟩
    · exact .inl h1
  rw [List.range_succ, List.filter_append, List.filter_cons, if_neg (by simp [this])]; simp
theorem seenTo_len (xs : List (Int × Int)) (p m : Int) (k : Nat) : (seenTo xs p m k).length ≤ k := by
  unfold seenTo
  rw [List.length_map]
  have := List.length_filter_le (seenAt xs p m) (List.range k)
  simpa using this

/-- the most that are seen when one of the first k frames begins -/
def blurTo (xs : List (Int × Int)) (p : Int) (k : Nat) : Int := ((List.range k).map fun i => ((seen xs p (begK xs i)).length : Int)).foldl max 0
theorem blurTo_succ (xs : List (Int × Int)) (p : Int) (k : Nat) : blurTo xs p (k + 1) = max (blurTo xs p k) ((seen xs p (begK xs k)).length : Int) := by
  unfold blurTo; rw [List.range_succ, List.map_append, List.foldl_append]; rfl
theorem blurTo_ge (xs : List (Int × Int)) (p : Int) {i k : Nat} (h : i < k) : ((seen xs p (begK xs i)).length : Int) ≤ blurTo xs p k := by
  induction k with
  | zero => omega
  | succ k ih =>
    rw [blurTo_succ]
    rcases Nat.lt_succ_iff_lt_or_eq.1 h with h1 | rfl
    · have := ih h1; omega
    · omega
theorem blurTo_nn (xs : List (Int × Int)) (p : Int) (k : Nat) : 0 ≤ blurTo xs p k ∧ blurTo xs p k ≤ xs.length := by
  induction k with
  | zero => simp [blurTo]
  | succ k ih =>
    rw [blurTo_succ]
    have := seenTo_len xs p (begK xs k) xs.length
    unfold seen
    omega
/-- the end of all shows no more than the last begin -/
theorem blur_end {xs : List (Int × Int)} (h : FrOk xs) (p : Int) : blurTo xs p (xs.length + 1) = blurTo xs p xs.length := by
  rw [blurTo_succ]
  rcases Nat.eq_zero_or_pos xs.length with h0 | h0
  · have : xs = [] := List.eq_nil_of_length_eq_zero h0
    subst this
    simp [blurTo, seen, seenTo]
  · have hb := blurTo_ge xs p (i := xs.length - 1) (k := xs.length) (by omega)
    have hle : (seen xs p (begK xs xs.length)).length ≤ (seen xs p (begK xs (xs.length - 1))).length := by
      unfold seen seenTo
      rw [List.length_map, List.length_map, ← List.countP_eq_length_filter, ← List.countP_eq_length_filter]
      refine List.countP_mono_left fun i hi hs => ?_
      have hil : i < xs.length := List.mem_range.1 hi
      simp only [seenAt, List.getElem?_eq_getElem hil, Bool.and_eq_true, decide_eq_true_iff] at hs ⊢
      have h1 := h.beg_mono (i := i) (j := xs.length - 1) (by omega)
      have h2 := h.beg_mono (i := xs.length - 1) (j := xs.length) (by omega)
      omega
    omega

/-- how long is seen what the first k frames show, and the gaps in front of and behind the k-th -/
def untilTo (xs : List (Int × Int)) (p : Int) : Nat → Int
  | 0 => 0
  | k + 1 => match xs[k]? with
    | some x => max (untilTo xs p k) (begK xs k + x.1 + p)
    | none => untilTo xs p k
def gapsTo (xs : List (Int × Int)) (p : Int) : Nat → Int
  | 0 => 0
  | k + 1 => gapsTo xs p k + max 0 (begK xs (k + 1) - untilTo xs p (k + 1))
def gapsUpto (xs : List (Int × Int)) (p : Int) : Nat → Int
  | 0 => 0
  | k + 1 => gapsUpto xs p k + max (begK xs k - untilTo xs p k) 0
def gaps (xs : List (Int × Int)) (p : Int) : Int := gapsTo xs p xs.length

theorem untilTo_succ {xs : List (Int × Int)} {p : Int} {k : Nat} {x : Int × Int} (h : xs[k]? = some x) : untilTo xs p (k + 1) = max (untilTo xs p k) (begK xs k + x.1 + p) := by
  rw [untilTo, h]
theorem gapsTo_succ (xs : List (Int × Int)) (p : Int) (k : Nat) : gapsTo xs p (k + 1) = gapsTo xs p k + max 0 (begK xs (k + 1) - untilTo xs p (k + 1)) := rfl
theorem gapsUpto_succ (xs : List (Int × Int)) (p : Int) (k : Nat) : gapsUpto xs p (k + 1) = gapsUpto xs p k + max (begK xs k - untilTo xs p k) 0 := rfl
theorem gapsUpto_gaps (xs : List (Int × Int)) (p : Int) (k : Nat) : gapsUpto xs p k + max (begK xs k - untilTo xs p k) 0 = gapsTo xs p k := by
  induction k with
  | zero => simp [gapsUpto, gapsTo, untilTo, begK, sumI]
  | succ k ih => rw [gapsUpto_succ, gapsTo_succ]; omega

theorem FrOk.until_bd {xs : List (Int × Int)} (h : FrOk xs) {p : Int} (hp : 0 ≤ p) (hp2 : p ≤ 500) (k : Nat) : 0 ≤ untilTo xs p k ∧ untilTo xs p k ≤ 1300000 := by
  induction k with
  | zero => simp [untilTo]
  | succ k ih =>
    cases e : xs[k]? with
    | none => rw [untilTo, e]; exact ih
    | some x =>
      rw [untilTo_succ e]
      have h1 := h.beg_bd k
      have h2 := h.one x (List.mem_of_getElem? e)
      omega
theorem FrOk.gaps_bd {xs : List (Int × Int)} (h : FrOk xs) {p : Int} (hp : 0 ≤ p) (hp2 : p ≤ 500) (k : Nat) : 0 ≤ gapsTo xs p k ∧ gapsTo xs p k ≤ 1200000 * k := by
  induction k with
  | zero => simp [gapsTo]
  | succ k ih =>
    rw [gapsTo_succ]
    have h1 := h.beg_bd (k + 1)
    have h2 := h.until_bd hp hp2 (k + 1)
    omega
theorem FrOk.gapsUpto_bd {xs : List (Int × Int)} (h : FrOk xs) {p : Int} (hp : 0 ≤ p) (hp2 : p ≤ 500) (k : Nat) : 0 ≤ gapsUpto xs p k ∧ gapsUpto xs p k ≤ 1200000 * k := by
  induction k with
  | zero => simp [gapsUpto]
  | succ k ih =>
    rw [gapsUpto_succ]
    have h1 := h.beg_bd k
    have h2 := h.until_bd hp hp2 k
    omega

theorem FrOk.until_le {xs : List (Int × Int)} (h : FrOk xs) {p : Int} (hp : 0 ≤ p) : ∀ k, k ≤ xs.length → untilTo xs p k ≤ begK xs k + p := by
  intro k
  induction k with
  | zero => intro _; simp [untilTo, begK, sumI]; exact hp
  | succ k ih =>
    intro hk
    have hx := List.getElem?_eq_getElem (l := xs) (i := k) (by omega)
    rw [untilTo_succ hx, begK_step hx]
    have := ih (by omega)
    have := h.one _ (List.mem_of_getElem? hx)
    omega
/-- with persistence p the k-th is seen until its light's end and p more -/
theorem FrOk.until_eq {xs : List (Int × Int)} (h : FrOk xs) {p : Int} (hp : 0 ≤ p) : ∀ (k : Nat) (x : Int × Int), xs[k]? = some x → untilTo xs p (k + 1) = begK xs k + x.1 + p := by
  intro k x hx
  rw [untilTo_succ hx]
  have hk : k < xs.length := (List.getElem?_eq_some_iff.1 hx).1
  have := h.until_le hp k (by omega)
  have := h.one x (List.mem_of_getElem? hx)
  omega

/-- the greatest dark time of the first k frames -/
def darkTo (xs : List (Int × Int)) (k : Nat) : Int := ((xs.take k).map (·.2)).foldl max 0
theorem darkTo_succ {xs : List (Int × Int)} {k : Nat} {x : Int × Int} (h : xs[k]? = some x) : darkTo xs (k + 1) = max (darkTo xs k) x.2 := by
  unfold darkTo; rw [take_snoc h, List.map_append, List.foldl_append]; rfl
theorem darkTo_nn (xs : List (Int × Int)) (k : Nat) : 0 ≤ darkTo xs k := by
  induction k with
  | zero => simp [darkTo]
  | succ k ih =>
    cases e : xs[k]? with
    | none => unfold darkTo at *; rw [List.take_of_length_le (by have := List.getElem?_eq_none_iff.1 e; omega)]; rw [List.take_of_length_le (by have := List.getElem?_eq_none_iff.1 e; omega)] at ih; exact ih
    | some x => rw [darkTo_succ e]; omega
theorem FrOk.dark_le {xs : List (Int × Int)} (h : FrOk xs) (k : Nat) : darkTo xs k ≤ 10000 := by
  induction k with
  | zero => simp [darkTo]
  | succ k ih =>
    cases e : xs[k]? with
    | none => unfold darkTo at *; rw [List.take_of_length_le (by have := List.getElem?_eq_none_iff.1 e; omega)]; rw [List.take_of_length_le (by have := List.getElem?_eq_none_iff.1 e; omega)] at ih; exact ih
    | some x => rw [darkTo_succ e]; have := h.one x (List.mem_of_getElem? e); omega
/-- no gap just where no dark time is longer than the persistence -/
theorem FrOk.gaps_zero {xs : List (Int × Int)} (h : FrOk xs) {p : Int} (hp : 0 ≤ p) (hp2 : p ≤ 500) : ∀ k, k ≤ xs.length → (gapsTo xs p k = 0 ↔ darkTo xs k ≤ p) := by
  intro k
  induction k with
  | zero => intro _; simp [gapsTo, darkTo]; exact hp
  | succ k ih =>
    intro hk
    have hx := List.getElem?_eq_getElem (l := xs) (i := k) (by omega)
    rw [gapsTo_succ, darkTo_succ hx, h.until_eq hp k _ hx, begK_step hx]
    have h1 := (h.gaps_bd hp hp2 k).1
    have h2 := ih (by omega)
    omega

/-- greatest common divisors -/
def gcdI (a b : Int) : Int := (Int.gcd a b : Int)

/-- equal frames -/
def evenLit (each per : Int) : Int := max (each * per / 1000) 1

/-- the least persistence without gaps -/
def leastCode (xs : List (Int × Int)) : Int := if frOk xs then (if darkTo xs xs.length ≤ 500 then 0 else 3) else 1
def leastVal (xs : List (Int × Int)) : Int := if leastCode xs = 0 then darkTo xs xs.length else 0
end Go.Proofs.Ytkjdinhbfoghnaa
