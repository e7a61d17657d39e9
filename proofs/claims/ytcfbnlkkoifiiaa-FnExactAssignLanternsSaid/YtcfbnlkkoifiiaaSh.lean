/-
  Slides in lanterns, in plain mathematics: (on, off, fade).
-/
import Derived.Test.YtcfbnlkkoifiiaaMath
namespace Go.Proofs.Ytcfbnlkkoifiiaa

def shOne (x : Int × Int × Int) : Bool := inB x.1 0 10000 && inB x.2.1 (x.1 + 1) 20000 && inB x.2.2 0 500
def shOk (xs : List (Int × Int × Int)) : Bool := xs.all shOne && decide (xs.length ≤ 12)
def ShB (x : Int × Int × Int) : Prop := 0 ≤ x.1 ∧ x.1 ≤ 10000 ∧ x.1 + 1 ≤ x.2.1 ∧ x.2.1 ≤ 20000 ∧ 0 ≤ x.2.2 ∧ x.2.2 ≤ 500
structure ShOk (xs : List (Int × Int × Int)) : Prop where
  len : xs.length ≤ 12
  one : ∀ x ∈ xs, 0 ≤ x.1 ∧ x.1 ≤ 10000 ∧ x.1 + 1 ≤ x.2.1 ∧ x.2.1 ≤ 20000 ∧ 0 ≤ x.2.2 ∧ x.2.2 ≤ 500
theorem shOne_iff {x : Int × Int × Int} : shOne x = true ↔ 0 ≤ x.1 ∧ x.1 ≤ 10000 ∧ x.1 + 1 ≤ x.2.1 ∧ x.2.1 ≤ 20000 ∧ 0 ≤ x.2.2 ∧ x.2.2 ≤ 500 := by
  unfold shOne
  simp only [Bool.and_eq_true, inB_true, and_assoc]
theorem shOk_iff {xs : List (Int × Int × Int)} : shOk xs = true ↔ ShOk xs := by
  unfold shOk
  rw [Bool.and_eq_true, List.all_eq_true, decide_eq_true_iff]
  exact ⟨fun ⟨a, b⟩ => ⟨b, fun x hx => shOne_iff.1 (a x hx)⟩, fun h => ⟨fun x hx => shOne_iff.2 (h.one x hx), h.len⟩⟩
theorem ShOk.take {xs : List (Int × Int × Int)} (h : ShOk xs) (k : Nat) : ShOk (xs.take k) :=
  ⟨by rw [List.length_take]; have := h.len; omega, fun x hx => h.one x (List.mem_of_mem_take hx)⟩
theorem ShOk.single {x : Int × Int × Int} (h : shOne x = true) : shOk [x] = true := by simp [shOk, h]

/-- the level of a slide at a tick -/
def lev (x : Int × Int × Int) (t : Int) : Int :=
  if x.1 ≤ t ∧ t < x.2.1 then (if x.2.2 = 0 then 100 else min 100 (min (100 * (t - x.1) / x.2.2) (100 * (x.2.1 - t) / x.2.2))) else 0
theorem lev_bd {x : Int × Int × Int} (hx : 0 ≤ x.1 ∧ x.1 ≤ 10000 ∧ x.1 + 1 ≤ x.2.1 ∧ x.2.1 ≤ 20000 ∧ 0 ≤ x.2.2 ∧ x.2.2 ≤ 500) (t : Int) : 0 ≤ lev x t ∧ lev x t ≤ 100 := by
  unfold lev
  split
  · split
    · omega
    · rename_i h1 h2
      have a1 : 0 ≤ 100 * (t - x.1) / x.2.2 := Int.ediv_nonneg (by omega) (by omega)
      have a2 : 0 ≤ 100 * (x.2.1 - t) / x.2.2 := Int.ediv_nonneg (by omega) (by omega)
      omega
  · omega
def lightK (xs : List (Int × Int × Int)) (t : Int) (k : Nat) : Int := sumI (fun x => lev x t) (xs.take k)
def lightI (xs : List (Int × Int × Int)) (t : Int) : Int := sumI (fun x => lev x t) xs
theorem lightK_len (xs : List (Int × Int × Int)) (t : Int) : lightK xs t xs.length = lightI xs t := by unfold lightK lightI; rw [List.take_of_length_le (Nat.le_refl _)]
theorem lightK_step {xs : List (Int × Int × Int)} (t : Int) {k : Nat} {x : Int × Int × Int} (h : xs[k]? = some x) : lightK xs t (k + 1) = lightK xs t k + lev x t := sumI_step _ h
theorem ShOk.light_bd {xs : List (Int × Int × Int)} (h : ShOk xs) (t : Int) : 0 ≤ lightI xs t ∧ lightI xs t ≤ 1200 := by
  have h1 := sumI_le (fun x => lev x t) 100 xs (fun x hx => (lev_bd (h.one x hx) t).2)
  have h2 := sumI_ge (fun x => lev x t) 0 xs (fun x hx => (lev_bd (h.one x hx) t).1)
  have := h.len
  unfold lightI; omega
theorem ShOk.lightK_bd {xs : List (Int × Int × Int)} (h : ShOk xs) (t : Int) (k : Nat) : 0 ≤ lightK xs t k ∧ lightK xs t k ≤ 1200 := (h.take k).light_bd t

/-- how many of the first k slides are in lanterns at a tick -/
def onF (t : Int) (x : Int × Int × Int) : Int := if x.1 ≤ t ∧ t < x.2.1 then 1 else 0
def onK (xs : List (Int × Int × Int)) (t : Int) (k : Nat) : Int := sumI (onF t) (xs.take k)
theorem onK_yes {xs : List (Int × Int × Int)} {t : Int} {k : Nat} {x : Int × Int × Int} (h : xs[k]? = some x) (h1 : x.1 ≤ t ∧ t < x.2.1) : onK xs t (k + 1) = onK xs t k + 1 := by
  unfold onK; rw [sumI_step _ h, onF, if_pos h1]
theorem onK_no {xs : List (Int × Int × Int)} {t : Int} {k : Nat} {x : Int × Int × Int} (h : xs[k]? = some x) (h1 : ¬ (x.1 ≤ t ∧ t < x.2.1)) : onK xs t (k + 1) = onK xs t k := by
  unfold onK; rw [sumI_step _ h, onF, if_neg h1]; omega
theorem onK_bd (xs : List (Int × Int × Int)) (t : Int) (k : Nat) : 0 ≤ onK xs t k ∧ onK xs t k ≤ xs.length := by
  unfold onK
  have h1 := sumI_le (onF t) 1 (xs.take k) (fun x _ => by unfold onF; split <;> omega)
  have h2 := sumI_ge (onF t) 0 (xs.take k) (fun x _ => by unfold onF; split <;> omega)
  have h3 : (xs.take k).length ≤ xs.length := by rw [List.length_take]; omega
  omega
def mostOn (xs : List (Int × Int × Int)) (k : Nat) : Int := ((xs.take k).map fun x => onK xs x.1 xs.length).foldl max 0
theorem mostOn_zero (xs : List (Int × Int × Int)) : mostOn xs 0 = 0 := by simp [mostOn]
theorem mostOn_step {xs : List (Int × Int × Int)} {k : Nat} {x : Int × Int × Int} (h : xs[k]? = some x) : mostOn xs (k + 1) = max (mostOn xs k) (onK xs x.1 xs.length) := by
  unfold mostOn; rw [take_snoc h, List.map_append, List.foldl_append]; rfl

/-- how many ticks from a on are dark, and the first one -/
def darkK (xs : List (Int × Int × Int)) (a : Int) (k : Nat) : Int := (((List.range k).filter fun i : Nat => lightI xs (a + i) == 0).length : Int)
theorem darkK_yes {xs : List (Int × Int × Int)} {a : Int} {k : Nat} (h : (lightI xs (a + k) == 0) = true) : darkK xs a (k + 1) = darkK xs a k + 1 := by
  unfold darkK; rw [List.range_succ, List.filter_append, List.filter_cons, if_pos h]; simp
theorem darkK_no {xs : List (Int × Int × Int)} {a : Int} {k : Nat} (h : (lightI xs (a + k) == 0) = false) : darkK xs a (k + 1) = darkK xs a k := by
  unfold darkK; rw [List.range_succ, List.filter_append, List.filter_cons, if_neg (by simp [h])]; simp
theorem darkK_bd (xs : List (Int × Int × Int)) (a : Int) (k : Nat) : 0 ≤ darkK xs a k ∧ darkK xs a k ≤ k := by
  unfold darkK
  have := List.length_filter_le (fun i : Nat => lightI xs (a + i) == 0) (List.range k)
  simp only [List.length_range] at this
  omega
/-- the first dark tick from a on, of T ones; -1 if there is none -/
def firstDark (xs : List (Int × Int × Int)) (a : Int) (T : Nat) : Int := idxI (fun i : Nat => lightI xs (a + i) == 0) (List.range T)

/-- the brightest of the first k ticks -/
def brF (xs : List (Int × Int × Int)) (p : Int × Int) (i : Nat) : Int × Int := if p.2 < lightI xs i then ((i : Int), lightI xs i) else p
def brK (xs : List (Int × Int × Int)) (k : Nat) : Int × Int := (List.range k).foldl (brF xs) (0, 0)
theorem brK_succ (xs : List (Int × Int × Int)) (k : Nat) : brK xs (k + 1) = brF xs (brK xs k) k := by
  unfold brK; rw [List.range_succ, List.foldl_append]; rfl
end Go.Proofs.Ytcfbnlkkoifiiaa
