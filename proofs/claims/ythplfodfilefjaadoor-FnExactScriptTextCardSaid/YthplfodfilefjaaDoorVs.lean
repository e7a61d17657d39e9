/-
  Scripts: names, what a list has, what is shown; the plain law.
-/
import Derived.Test.YthplfodfilefjaaDoorWords
namespace Go.Proofs.YthplfodfilefjaaDoor
set_option maxRecDepth 100000

/-- a small letter, a digit, a byte of a name -/
def smB (v : Int) : Bool := decide (97 ≤ v ∧ v ≤ 122)
def dgB (v : Int) : Bool := decide (48 ≤ v ∧ v ≤ 57)
def okB (v : Int) : Bool := smB v || dgB v || decide (v = 45)
def chOk (s : ByteArray) (i : Nat) : Prop := ∀ h : i < s.size, okB (s[i].toNat : Int) = true
def nmOk (s : ByteArray) : Bool := decide (0 < s.size ∧ s.size ≤ 12 ∧ (∀ h : 0 < s.size, smB (s[0].toNat : Int) = true) ∧ ∀ i (h : i < s.size), okB (s[i].toNat : Int) = true)
theorem nmOk_small {s : ByteArray} (h : s.size = 0 ∨ 12 < s.size) : nmOk s = false := by
  rw [nmOk, decide_eq_false_iff_not]; rintro ⟨a, b, _⟩; omega
theorem nmOk_first {s : ByteArray} (h0 : 0 < s.size) (h : smB (s[0].toNat : Int) = false) : nmOk s = false := by
  rw [nmOk, decide_eq_false_iff_not]; rintro ⟨a, b, c, _⟩; have := c h0; rw [this] at h; cases h
theorem nmOk_at {s : ByteArray} {i : Nat} (hi : i < s.size) (h : okB (s[i].toNat : Int) = false) : nmOk s = false := by
  rw [nmOk, decide_eq_false_iff_not]; rintro ⟨a, b, _, c⟩; have := c i hi; rw [this] at h; cases h
theorem okB_small {v : Int} (h : smB v = true) : okB v = true := by simp [okB, h]
theorem nmOk_all {s : ByteArray} (h0 : 0 < s.size) (h1 : s.size ≤ 12) (h : smB (s[0].toNat : Int) = true) (ha : ∀ i (h : i < s.size), okB (s[i].toNat : Int) = true) : nmOk s = true := by
  rw [nmOk, decide_eq_true_iff]; exact ⟨h0, h1, fun _ => h, ha⟩

open Classical in
/-- whether a list has a name -/
noncomputable def hasB (ss : List ByteArray) (s : ByteArray) : Bool := decide (∃ i : Nat, ss[i]? = some s)
open Classical in
theorem hasB_at {ss : List ByteArray} {s x : ByteArray} {k : Nat} (hx : ss[k]? = some x) (h : x = s) : hasB ss s = true := by
  rw [hasB, decide_eq_true_iff, ← h]; exact ⟨k, hx⟩
open Classical in
theorem hasB_no {ss : List ByteArray} {s : ByteArray} (h : ∀ (i : Nat) x, ss[i]? = some x → x ≠ s) : hasB ss s = false := by
  rw [hasB, decide_eq_false_iff_not]; rintro ⟨i, hi⟩
  exact h i s hi rfl

/-- an act: tick, word, slide, many -/
abbrev AX := Int × ByteArray × ByteArray × Int
def shB (x : AX) : Bool := x.2.1.toList == [115, 104, 111, 119]
def hdB (x : AX) : Bool := x.2.1.toList == [104, 105, 100, 101]
def tuB (x : AX) : Bool := x.2.1.toList == [116, 117, 114, 110]
open Classical in
noncomputable def isStep (s : ByteArray) (acc : Bool) (x : AX) : Bool := if x.2.2.1 = s ∧ tuB x = false then shB x else acc
/-- whether a slide is shown behind acts -/
noncomputable def isSh (xs : List AX) (s : ByteArray) : Bool := xs.foldl (isStep s) false
theorem isSh_nil (s : ByteArray) : isSh [] s = false := rfl
theorem isSh_step {xs : List AX} {k : Nat} {x : AX} (hx : xs[k]? = some x) (s : ByteArray) : isSh (xs.take (k + 1)) s = isStep s (isSh (xs.take k) s) x := by
  have : xs.take (k + 1) = xs.take k ++ [x] := by rw [List.take_add_one, hx]; rfl
  rw [isSh, this, List.foldl_append]; rfl
theorem isStep_yes {s : ByteArray} {acc : Bool} {x : AX} (h : x.2.2.1 = s) (h2 : tuB x = false) : isStep s acc x = shB x := if_pos ⟨h, h2⟩
theorem isStep_no {s : ByteArray} {acc : Bool} {x : AX} (h : x.2.2.1 ≠ s ∨ tuB x = true) : isStep s acc x = acc := by
  rw [isStep, if_neg]; rintro ⟨a, b⟩; rcases h with h | h
  · exact h a
  · rw [h] at b; cases b

/-- the remark of a slide, 0 without one -/
noncomputable def slCode (ss : List ByteArray) (s : ByteArray) : Int := if nmOk s = false then 3 else if hasB ss s then 5 else if 60 ≤ ss.length then 8 else 0
def gtLast (xs : List AX) (t : Int) : Bool := match xs.getLast? with
  | none => false
  | some y => decide (t < y.1)
theorem gtLast_at {xs : List AX} {n : Nat} {y : AX} (h : xs.length = n) (hy : xs[n - 1]? = some y) (t : Int) : gtLast xs t = decide (t < y.1) := by
  rw [gtLast, List.getLast?_eq_getElem?, h, hy]
theorem gtLast_nil (t : Int) : gtLast [] t = false := rfl
def wdB (a : AX) : Bool := shB a || hdB a || tuB a
def nuB (a : AX) : Bool := decide (0 ≤ a.1 ∧ a.1 ≤ 10000 ∧ 0 ≤ a.2.2.2 ∧ a.2.2.2 ≤ 1000 ∧ (a.2.2.2 = 0 ∨ tuB a = true))
/-- the remark of an act, 0 without one -/
noncomputable def acCode (ss : List ByteArray) (xs : List AX) (a : AX) : Int :=
  if wdB a = false then 1 else if hasB ss a.2.2.1 = false then 6 else if nuB a = false then 4 else if gtLast xs a.1 then 7 else if shB a = isSh xs a.2.2.1 then 5 else if 60 ≤ xs.length then 8 else 0
noncomputable def slNext (ss : List ByteArray) (s : ByteArray) : List ByteArray := if slCode ss s = 0 then ss ++ [s] else ss
noncomputable def acNext (ss : List ByteArray) (xs : List AX) (a : AX) : List AX := if acCode ss xs a = 0 then xs ++ [a] else xs
theorem slNext_len {ss : List ByteArray} {s : ByteArray} (h : ss.length ≤ 60) : (slNext ss s).length ≤ 60 := by
  unfold slNext; split
  · rename_i h0
    unfold slCode at h0; repeat' split at h0
    all_goals first | (cases h0; done) | skip
    simp; omega
  · exact h
theorem acNext_len {ss : List ByteArray} {xs : List AX} {a : AX} (h : xs.length ≤ 60) : (acNext ss xs a).length ≤ 60 := by
  unfold acNext; split
  · rename_i h0
    unfold acCode at h0; repeat' split at h0
    all_goals first | (cases h0; done) | skip
    simp; omega
  · exact h
/-- whether a script is valid -/
def okSl (ss : List ByteArray) : Prop := ∀ k s, ss[k]? = some s → slCode (ss.take k) s = 0
def okAc (ss : List ByteArray) (xs : List AX) : Prop := ∀ k a, xs[k]? = some a → acCode ss (xs.take k) a = 0
open Classical in
noncomputable def vScr (ss : List ByteArray) (xs : List AX) : Bool := decide (okSl ss ∧ okAc ss xs)
open Classical in
theorem vScr_sl {ss : List ByteArray} {xs : List AX} {k : Nat} {s : ByteArray} (hs : ss[k]? = some s) (h : slCode (ss.take k) s ≠ 0) : vScr ss xs = false := by
  rw [vScr, decide_eq_false_iff_not]; rintro ⟨a, _⟩; exact h (a k s hs)
open Classical in
theorem vScr_ac {ss : List ByteArray} {xs : List AX} {k : Nat} {a : AX} (hs : xs[k]? = some a) (h : acCode ss (xs.take k) a ≠ 0) : vScr ss xs = false := by
  rw [vScr, decide_eq_false_iff_not]; rintro ⟨_, c⟩; exact h (c k a hs)
open Classical in
theorem vScr_all {ss : List ByteArray} {xs : List AX} (h : okSl ss) (h2 : okAc ss xs) : vScr ss xs = true := by
  rw [vScr, decide_eq_true_iff]; exact ⟨h, h2⟩
open Classical in
theorem vScr_true {ss : List ByteArray} {xs : List AX} (h : vScr ss xs = true) : okSl ss ∧ okAc ss xs := by
  rw [vScr, decide_eq_true_iff] at h; exact h
theorem slNext_ok {ss : List ByteArray} {s : ByteArray} (h : slCode ss s = 0) : slNext ss s = ss ++ [s] := if_pos h
theorem acNext_ok {ss : List ByteArray} {xs : List AX} {a : AX} (h : acCode ss xs a = 0) : acNext ss xs a = xs ++ [a] := if_pos h
end Go.Proofs.YthplfodfilefjaaDoor
