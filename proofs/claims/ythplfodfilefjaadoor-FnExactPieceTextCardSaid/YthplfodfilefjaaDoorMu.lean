/-
  Pieces, in plain mathematics: parts (bars, beats, tempo).
-/
import Derived.Test.YthplfodfilefjaaDoorMath
namespace Go.Proofs.YthplfodfilefjaaDoor
set_option maxRecDepth 100000

def ptOne (x : Int × Int × Int) : Bool := inB x.1 1 200 && inB x.2.1 1 12 && inB x.2.2 20 300
def ptOk (xs : List (Int × Int × Int)) : Bool := xs.all ptOne && inB (xs.length : Int) 1 12
structure PtOk (xs : List (Int × Int × Int)) : Prop where
  len0 : 1 ≤ xs.length
  len : xs.length ≤ 12
  one : ∀ x ∈ xs, 1 ≤ x.1 ∧ x.1 ≤ 200 ∧ 1 ≤ x.2.1 ∧ x.2.1 ≤ 12 ∧ 20 ≤ x.2.2 ∧ x.2.2 ≤ 300
theorem ptOne_iff {x : Int × Int × Int} : ptOne x = true ↔ 1 ≤ x.1 ∧ x.1 ≤ 200 ∧ 1 ≤ x.2.1 ∧ x.2.1 ≤ 12 ∧ 20 ≤ x.2.2 ∧ x.2.2 ≤ 300 := by
  unfold ptOne
  simp only [Bool.and_eq_true, inB_true, and_assoc]
theorem ptOk_iff {xs : List (Int × Int × Int)} : ptOk xs = true ↔ PtOk xs := by
  unfold ptOk
  rw [Bool.and_eq_true, List.all_eq_true, inB_true]
  exact ⟨fun ⟨a, b⟩ => ⟨by omega, by omega, fun x hx => ptOne_iff.1 (a x hx)⟩, fun h => ⟨fun x hx => ptOne_iff.2 (h.one x hx), by have := h.len; have := h.len0; omega⟩⟩

/-- the beats of a part, of the first k parts, of all -/
def bF (x : Int × Int × Int) : Int := x.1 * x.2.1
def btK (xs : List (Int × Int × Int)) (k : Nat) : Int := sumI bF (xs.take k)
def btI (xs : List (Int × Int × Int)) : Int := sumI bF xs
theorem btK_step {xs : List (Int × Int × Int)} {k : Nat} {x : Int × Int × Int} (h : xs[k]? = some x) : btK xs (k + 1) = btK xs k + x.1 * x.2.1 := sumI_step _ h
theorem btK_len (xs : List (Int × Int × Int)) : btK xs xs.length = btI xs := by unfold btK btI; rw [List.take_of_length_le (Nat.le_refl _)]
theorem bF_bd {x : Int × Int × Int} (h : 1 ≤ x.1 ∧ x.1 ≤ 200 ∧ 1 ≤ x.2.1 ∧ x.2.1 ≤ 12 ∧ 20 ≤ x.2.2 ∧ x.2.2 ≤ 300) : 1 ≤ x.1 * x.2.1 ∧ x.1 * x.2.1 ≤ 2400 := by
  have h1 : 1 * 1 ≤ x.1 * x.2.1 := Int.mul_le_mul (by omega) (by omega) (by omega) (by omega)
  have h2 : x.1 * x.2.1 ≤ 200 * 12 := Int.mul_le_mul (by omega) (by omega) (by omega) (by omega)
  omega
def PtB (xs : List (Int × Int × Int)) : Prop := xs.length ≤ 12 ∧ ∀ x ∈ xs, 1 ≤ x.1 ∧ x.1 ≤ 200 ∧ 1 ≤ x.2.1 ∧ x.2.1 ≤ 12 ∧ 20 ≤ x.2.2 ∧ x.2.2 ≤ 300
theorem PtOk.b {xs : List (Int × Int × Int)} (h : PtOk xs) : PtB xs := ⟨h.len, h.one⟩
theorem PtB.take {xs : List (Int × Int × Int)} (h : PtB xs) (k : Nat) : PtB (xs.take k) :=
  ⟨by rw [List.length_take]; have := h.1; omega, fun x hx => h.2 x (List.mem_of_mem_take hx)⟩
theorem PtB.bt_bd {xs : List (Int × Int × Int)} (h : PtB xs) : 0 ≤ btI xs ∧ btI xs ≤ 28800 := by
  have h1 := sumI_le bF 2400 xs (fun x hx => (bF_bd (h.2 x hx)).2)
  have h2 := sumI_ge bF 0 xs (fun x hx => by have := (bF_bd (h.2 x hx)).1; unfold bF; omega)
  have := h.1
  unfold btI; omega
theorem PtB.btK_bd {xs : List (Int × Int × Int)} (h : PtB xs) (k : Nat) : 0 ≤ btK xs k ∧ btK xs k ≤ 28800 := (h.take k).bt_bd
theorem btK_mono {xs : List (Int × Int × Int)} (h : PtB xs) {k : Nat} {x : Int × Int × Int} (hx : xs[k]? = some x) : btK xs k < btK xs (k + 1) := by
  rw [btK_step hx]
  have := bF_bd (h.2 x (List.mem_of_getElem? hx))
  omega

/-- the place of a beat: parts, bars, beats -/
def plF : List (Int × Int × Int) → Int → Int × Int × Int
  | [], _ => (0, 0, 0)
  | x :: xs, b => if x.1 * x.2.1 ≤ b then ((plF xs (b - x.1 * x.2.1)).1 + 1, (plF xs (b - x.1 * x.2.1)).2) else (0, b / x.2.1, b % x.2.1)
theorem plF_go {xs : List (Int × Int × Int)} {k : Nat} {x : Int × Int × Int} (h : xs[k]? = some x) {b : Int} (hb : x.1 * x.2.1 ≤ b) : plF (xs.drop k) b = ((plF (xs.drop (k + 1)) (b - x.1 * x.2.1)).1 + 1, (plF (xs.drop (k + 1)) (b - x.1 * x.2.1)).2) := by
  have hk := (List.getElem?_eq_some_iff.1 h)
  obtain ⟨hk, hx⟩ := hk
  rw [List.drop_eq_getElem_cons hk, hx, plF, if_pos hb]
theorem plF_stop {xs : List (Int × Int × Int)} {k : Nat} {x : Int × Int × Int} (h : xs[k]? = some x) {b : Int} (hb : ¬ x.1 * x.2.1 ≤ b) : plF (xs.drop k) b = (0, b / x.2.1, b % x.2.1) := by
  obtain ⟨hk, hx⟩ := (List.getElem?_eq_some_iff.1 h)
  rw [List.drop_eq_getElem_cons hk, hx, plF, if_neg hb]

/-- the least tempo with which a part is short enough -/
def tpGo (m s : Int) : Nat → Int → Int
  | 0, _ => -1
  | k + 1, t => if m ≤ s * t then t else tpGo m s k (t + 1)

def ptCode (xs : List (Int × Int × Int)) : Int := if ptOk xs then 0 else 1
def bsVal (xs : List (Int × Int × Int)) : Int := if ptOk xs then btI xs else 0
/-- the code of a piece and a beat -/
def bcCode (xs : List (Int × Int × Int)) (b : Int) : Int := if ptOk xs then (if inB b 0 (btI xs - 1) then 0 else 2) else 1
end Go.Proofs.YthplfodfilefjaaDoor
