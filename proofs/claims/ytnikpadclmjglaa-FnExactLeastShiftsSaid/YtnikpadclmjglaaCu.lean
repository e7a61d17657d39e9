/-
  Cues in plain mathematics: (at, ticks, hands, slack).
-/
import Derived.Test.YtnikpadclmjglaaMath
namespace Go.Proofs.Ytnikpadclmjglaa
set_option maxRecDepth 100000

abbrev Cu := Int × Int × Int × Int
def cueOne (x : Int × Int × Int × Int) : Bool := inB x.1 0 10000 && inB x.2.1 1 1000 && inB x.2.2.1 1 4 && inB x.2.2.2 0 6
def cueOk (xs : List (Int × Int × Int × Int)) : Bool := xs.all cueOne && decide (xs.length ≤ 6)

/-- a valid cue, or a shifted one -/
structure CuW (xs : List (Int × Int × Int × Int)) : Prop where
  len : xs.length ≤ 6
  one : ∀ x ∈ xs, 0 ≤ x.1 ∧ x.1 ≤ 20000 ∧ 1 ≤ x.2.1 ∧ x.2.1 ≤ 1000 ∧ 1 ≤ x.2.2.1 ∧ x.2.2.1 ≤ 4 ∧ -100 ≤ x.2.2.2 ∧ x.2.2.2 ≤ 100
structure CuOk (xs : List (Int × Int × Int × Int)) : Prop where
  len : xs.length ≤ 6
  one : ∀ x ∈ xs, 0 ≤ x.1 ∧ x.1 ≤ 10000 ∧ 1 ≤ x.2.1 ∧ x.2.1 ≤ 1000 ∧ 1 ≤ x.2.2.1 ∧ x.2.2.1 ≤ 4 ∧ 0 ≤ x.2.2.2 ∧ x.2.2.2 ≤ 6
theorem cueOne_iff {x : Int × Int × Int × Int} : cueOne x = true ↔ 0 ≤ x.1 ∧ x.1 ≤ 10000 ∧ 1 ≤ x.2.1 ∧ x.2.1 ≤ 1000 ∧ 1 ≤ x.2.2.1 ∧ x.2.2.1 ≤ 4 ∧ 0 ≤ x.2.2.2 ∧ x.2.2.2 ≤ 6 := by
  unfold cueOne
  simp only [Bool.and_eq_true, inB_true, and_assoc]
theorem cueOk_iff {xs : List (Int × Int × Int × Int)} : cueOk xs = true ↔ CuOk xs := by
  unfold cueOk
  rw [Bool.and_eq_true, List.all_eq_true, decide_eq_true_iff]
  exact ⟨fun ⟨a, b⟩ => ⟨b, fun x hx => cueOne_iff.1 (a x hx)⟩, fun h => ⟨fun x hx => cueOne_iff.2 (h.one x hx), h.len⟩⟩
theorem CuOk.w {xs : List (Int × Int × Int × Int)} (h : CuOk xs) : CuW xs := ⟨h.len, fun x hx => by have := h.one x hx; omega⟩
theorem CuW.take {xs : List (Int × Int × Int × Int)} (h : CuW xs) (k : Nat) : CuW (xs.take k) :=
  ⟨by rw [List.length_take]; have := h.len; omega, fun x hx => h.one x (List.mem_of_mem_take hx)⟩

/-- the hands of a cue at a tick, and of all cues -/
def hF (t : Int) (x : Int × Int × Int × Int) : Int := if x.1 ≤ t ∧ t < x.1 + x.2.1 then x.2.2.1 else 0
def handsK (xs : List (Int × Int × Int × Int)) (t : Int) (k : Nat) : Int := sumI (hF t) (xs.take k)
def hands (xs : List (Int × Int × Int × Int)) (t : Int) : Int := sumI (hF t) xs
theorem handsK_len (xs : List (Int × Int × Int × Int)) (t : Int) : handsK xs t xs.length = hands xs t := by unfold handsK hands; rw [List.take_of_length_le (Nat.le_refl _)]
theorem handsK_yes {xs : List (Int × Int × Int × Int)} {t : Int} {k : Nat} {x : Int × Int × Int × Int} (h : xs[k]? = some x) (h1 : x.1 ≤ t) (h2 : t < x.1 + x.2.1) : handsK xs t (k + 1) = handsK xs t k + x.2.2.1 := by
  unfold handsK; rw [sumI_step _ h, hF, if_pos ⟨h1, h2⟩]
theorem handsK_no {xs : List (Int × Int × Int × Int)} {t : Int} {k : Nat} {x : Int × Int × Int × Int} (h : xs[k]? = some x) (h1 : ¬ (x.1 ≤ t ∧ t < x.1 + x.2.1)) : handsK xs t (k + 1) = handsK xs t k := by
  unfold handsK; rw [sumI_step _ h, hF, if_neg h1]; omega
theorem CuW.hands_bd {xs : List (Int × Int × Int × Int)} (h : CuW xs) (t : Int) : 0 ≤ hands xs t ∧ hands xs t ≤ 24 := by
  have h1 := sumI_le (hF t) 4 xs (fun x hx => by have := h.one x hx; unfold hF; split <;> omega)
  have h2 := sumI_ge (hF t) 0 xs (fun x hx => by have := h.one x hx; unfold hF; split <;> omega)
  have := h.len
  unfold hands; omega
theorem CuW.handsK_bd {xs : List (Int × Int × Int × Int)} (h : CuW xs) (t : Int) (k : Nat) : 0 ≤ handsK xs t k ∧ handsK xs t k ≤ 24 := (h.take k).hands_bd t

/-- the most hands when one of the first k cues begins -/
def mostK (xs : List (Int × Int × Int × Int)) (k : Nat) : Int := ((xs.take k).map fun x => hands xs x.1).foldl max 0
def most (xs : List (Int × Int × Int × Int)) : Int := mostK xs xs.length
theorem mostK_zero (xs : List (Int × Int × Int × Int)) : mostK xs 0 = 0 := by simp [mostK]
theorem mostK_step {xs : List (Int × Int × Int × Int)} {k : Nat} {x : Int × Int × Int × Int} (h : xs[k]? = some x) : mostK xs (k + 1) = max (mostK xs k) (hands xs x.1) := by
  unfold mostK; rw [take_snoc h, List.map_append, List.foldl_append]; rfl
theorem CuW.mostK_bd {xs : List (Int × Int × Int × Int)} (h : CuW xs) (k : Nat) : 0 ≤ mostK xs k ∧ mostK xs k ≤ 24 := by
  induction k with
  | zero => rw [mostK_zero]; omega
  | succ k ih =>
    cases e : xs[k]? with
    | none =>
      have hl := List.getElem?_eq_none_iff.1 e
      have : mostK xs (k + 1) = mostK xs k := by unfold mostK; rw [List.take_of_length_le (by omega), List.take_of_length_le hl]
      rw [this]; exact ih
    | some x => rw [mostK_step e]; have := h.hands_bd x.1; omega

/-- when the first k cues are done -/
def endK (xs : List (Int × Int × Int × Int)) (k : Nat) : Int := ((xs.take k).map fun x => x.1 + x.2.1).foldl max 0
theorem endK_zero (xs : List (Int × Int × Int × Int)) : endK xs 0 = 0 := by simp [endK]
theorem endK_step {xs : List (Int × Int × Int × Int)} {k : Nat} {x : Int × Int × Int × Int} (h : xs[k]? = some x) : endK xs (k + 1) = max (endK xs k) (x.1 + x.2.1) := by
  unfold endK; rw [take_snoc h, List.map_append, List.foldl_append]; rfl
theorem CuW.endK_bd {xs : List (Int × Int × Int × Int)} (h : CuW xs) (k : Nat) : 0 ≤ endK xs k ∧ endK xs k ≤ 21000 := by
  induction k with
  | zero => rw [endK_zero]; omega
  | succ k ih =>
    cases e : xs[k]? with
    | none =>
      have hl := List.getElem?_eq_none_iff.1 e
      have : endK xs (k + 1) = endK xs k := by unfold endK; rw [List.take_of_length_le (by omega), List.take_of_length_le hl]
      rw [this]; exact ih
    | some x => rw [endK_step e]; have := h.one x (List.mem_of_getElem? e); omega
def cend (xs : List (Int × Int × Int × Int)) : Int := endK xs xs.length

/-- how many of the first t ticks need no hand -/
def idleK (xs : List (Int × Int × Int × Int)) (t : Nat) : Int := (((List.range t).filter fun i : Nat => hands xs (i : Int) == 0).length : Int)
theorem idleK_yes {xs : List (Int × Int × Int × Int)} {t : Nat} (h : (hands xs (t : Int) == 0) = true) : idleK xs (t + 1) = idleK xs t + 1 := by
  unfold idleK; rw [List.range_succ, List.filter_append, List.filter_cons, if_pos h]; simp
theorem idleK_no {xs : List (Int × Int × Int × Int)} {t : Nat} (h : (hands xs (t : Int) == 0) = false) : idleK xs (t + 1) = idleK xs t := by
  unfold idleK; rw [List.range_succ, List.filter_append, List.filter_cons, if_neg (by simp [h])]; simp
theorem idleK_bd (xs : List (Int × Int × Int × Int)) (t : Nat) : 0 ≤ idleK xs t ∧ idleK xs t ≤ t := by
  unfold idleK
  have := List.length_filter_le (fun i : Nat => hands xs (i : Int) == 0) (List.range t)
  simp only [List.length_range] at this
  omega

/-- the first tick at which more hands are needed, among the beginnings of the first k cues; -1 if there is none -/
def overF (xs : List (Int × Int × Int × Int)) (m : Int) (first : Int) (x : Int × Int × Int × Int) : Int := if m < hands xs x.1 ∧ (first < 0 ∨ x.1 < first) then x.1 else first
def ovK (xs : List (Int × Int × Int × Int)) (m : Int) (k : Nat) : Int := (xs.take k).foldl (overF xs m) (-1)
end Go.Proofs.Ytnikpadclmjglaa
