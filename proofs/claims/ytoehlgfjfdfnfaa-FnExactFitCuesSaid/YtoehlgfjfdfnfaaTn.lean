/-
  When beats begin, in plain mathematics: order, and the searches for a beat.
-/
import Derived.Test.YtoehlgfjfdfnfaaTm
namespace Go.Proofs.Ytoehlgfjfdfnfaa

/-- what is known of the units of a valid piece: its beats take time -/
def UnOk (U : Int) (xs : List (Int × Int × Int)) : Prop := ∀ x ∈ xs, 1 ≤ x.1 * x.2.1 ∧ 1 ≤ stU U x
theorem unI_up {U : Int} {xs : List (Int × Int × Int)} (ok : UnOk U xs) {b : Int} (hb : 0 ≤ b) (hlt : b < btI xs) : unI U xs b < unI U xs (b + 1) := by
  induction xs generalizing b with
  | nil => simp [btI, sumI] at hlt; omega
  | cons x xs ih =>
    have hx := ok x (by simp)
    have e0 : btI (x :: xs) = x.1 * x.2.1 + btI xs := rfl
    rw [e0] at hlt
    by_cases h1 : b + 1 ≤ x.1 * x.2.1
    · rw [unI, unI, if_pos (show 0 < b + 1 by omega), Int.min_eq_left h1, Int.sub_self, unI_zero, Int.add_zero]
      split
      · rw [Int.min_eq_left (by omega), Int.sub_self, unI_zero, Int.add_zero, Int.add_mul, Int.one_mul]; omega
      · have : b = 0 := by omega
        subst this; rw [Int.zero_add, Int.one_mul]; omega
    · rw [unI, unI, if_pos (show 0 < b + 1 by omega), if_pos (show 0 < b by omega), Int.min_eq_right (by omega), Int.min_eq_right (by omega)]
      have h2 := ih (fun y hy => ok y (by simp [hy])) (b := b - x.1 * x.2.1) (by omega) (by omega)
      rw [show b + 1 - x.1 * x.2.1 = b - x.1 * x.2.1 + 1 by omega]
      omega
theorem unI_lt {U : Int} {xs : List (Int × Int × Int)} (ok : UnOk U xs) {a b : Int} (ha : 0 ≤ a) (hab : a < b) (hb : b ≤ btI xs) : unI U xs a < unI U xs b := by
  obtain ⟨k, rfl⟩ : ∃ k : Nat, b = a + 1 + (k : Int) := ⟨(b - a - 1).toNat, by omega⟩
  induction k with
  | zero => simpa using unI_up ok ha (by omega)
  | succ k ih =>
    have h1 := ih (by omega) (by omega)
    have h2 := unI_up ok (b := a + 1 + (k : Int)) (by omega) (by omega)
    rw [show a + 1 + ((k + 1 : Nat) : Int) = a + 1 + (k : Int) + 1 by omega]
    omega
theorem unOk_of {xs : List (Int × Int × Int)} (ok : PtB xs) (h0 : partsI xs ≠ 0) : UnOk (partsI xs) xs := fun x hx => by
  have hp := parts_bd ok h0
  have h1 := ok.2 x hx
  exact ⟨(bF_bd h1).1, stU_pos hp.1 (by omega) (hp.2.2 x hx)⟩

/-- the last beat that begins up to S units -/
structure BtAt (U : Int) (xs : List (Int × Int × Int)) (S r : Int) : Prop where
  lo : 0 ≤ r
  hi : r < btI xs
  le : unI U xs r ≤ S
  lt : r + 1 < btI xs → S < unI U xs (r + 1)
theorem BtAt.uniq {U : Int} {xs : List (Int × Int × Int)} (ok : UnOk U xs) {S r t : Int} (h : BtAt U xs S r) (h' : BtAt U xs S t) : r = t := by
  rcases Int.lt_trichotomy r t with hlt | he | hlt
  · exfalso
    have h1 := h.lt (by have := h'.hi; omega)
    have h2 := h'.le
    by_cases hq : r + 1 = t
    · rw [hq] at h1; omega
    · have := unI_lt ok (a := r + 1) (b := t) (by have := h.lo; omega) (by omega) (by have := h'.hi; omega)
      omega
  · exact he
  · exfalso
    have h1 := h'.lt (by have := h.hi; omega)
    have h2 := h.le
    by_cases hq : t + 1 = r
    · rw [hq] at h1; omega
    · have := unI_lt ok (a := t + 1) (b := r) (by have := h'.lo; omega) (by omega) (by have := h.hi; omega)
      omega
/-- the search from below -/
def baGo (U : Int) (xs : List (Int × Int × Int)) (S : Int) : Nat → Int → Int
  | 0, k => k
  | f + 1, k => if k + 1 < btI xs ∧ unI U xs (k + 1) ≤ S then baGo U xs S f (k + 1) else k
def baI (U : Int) (xs : List (Int × Int × Int)) (S : Int) : Int := baGo U xs S (btI xs).toNat 0
theorem baGo_at {U : Int} {xs : List (Int × Int × Int)} {S : Int} (f : Nat) (k : Int) (h0 : 0 ≤ k) (h1 : k < btI xs) (h2 : unI U xs k ≤ S) (hf : btI xs - k ≤ f) : BtAt U xs S (baGo U xs S f k) := by
  induction f generalizing k with
  | zero => omega
  | succ f ih =>
    rw [baGo]
    split
    · rename_i h; exact ih (k + 1) (by omega) h.1 h.2 (by omega)
    · rename_i h
      exact ⟨h0, h1, h2, fun h3 => by
        apply Int.not_le.1; intro h4; exact h ⟨h3, h4⟩⟩
theorem baI_at {U : Int} {xs : List (Int × Int × Int)} {S : Int} (h1 : 0 < btI xs) (h2 : 0 ≤ S) : BtAt U xs S (baI U xs S) :=
  baGo_at _ 0 (by omega) h1 (by rw [unI_zero]; exact h2) (by omega)

/-- how far apart two numbers are -/
def apI (a b : Int) : Int := if a < b then b - a else a - b
/-- the first of the nearest beats among the first n -/
def amGo (U : Int) (xs : List (Int × Int × Int)) (S : Int) : Nat → Nat
  | 0 => 0
  | n + 1 => if apI (unI U xs n) S < apI (unI U xs (amGo U xs S n : Nat)) S then n else amGo U xs S n
theorem amGo_le {U : Int} {xs : List (Int × Int × Int)} {S : Int} (n : Nat) : amGo U xs S n ≤ n ∧ (0 < n → amGo U xs S n < n) := by
  induction n with
  | zero => exact ⟨Nat.le_refl _, fun h => h⟩
  | succ n ih => rw [amGo]; split <;> omega
theorem amGo_min {U : Int} {xs : List (Int × Int × Int)} {S : Int} (n k : Nat) (h : k < n) : apI (unI U xs (amGo U xs S n : Nat)) S ≤ apI (unI U xs k) S ∧ (k < amGo U xs S n → apI (unI U xs (amGo U xs S n : Nat)) S < apI (unI U xs k) S) := by
  induction n generalizing k with
  | zero => omega
  | succ n ih =>
    rw [amGo]
    split
    · rename_i hq
      by_cases hk : k = n
      · subst hk; exact ⟨Int.le_refl _, fun h => absurd h (Nat.lt_irrefl _)⟩
      · have := ih k (by omega)
        exact ⟨by omega, fun _ => by omega⟩
    · rename_i hq
      by_cases hk : k = n
      · subst hk
        exact ⟨by omega, fun h2 => by have := (amGo_le (U := U) (xs := xs) (S := S) k).1; omega⟩
      · exact ih k (by omega)
theorem amGo_eq {U : Int} {xs : List (Int × Int × Int)} {S : Int} (ok : UnOk U xs) (h1 : 0 < btI xs) {r : Int} (h : BtAt U xs S r) :
    ((amGo U xs S (btI xs).toNat : Nat) : Int) = if r + 1 < btI xs ∧ unI U xs (r + 1) - S < S - unI U xs r then r + 1 else r := by
  have hN : 0 < (btI xs).toNat := by omega
  have hb := (amGo_le (U := U) (xs := xs) (S := S) (btI xs).toNat).2 hN
  have hmin := fun (k : Nat) hk => amGo_min (U := U) (xs := xs) (S := S) (btI xs).toNat k hk
  obtain ⟨p, rfl⟩ : ∃ p : Nat, r = (p : Int) := ⟨r.toNat, by have := h.lo; omega⟩
  have hp := h.hi
  generalize amGo U xs S (btI xs).toNat = b at hb hmin ⊢
  have hbi : (b : Int) < btI xs := by omega
  have m0 := hmin p (by omega)
  have hle := h.le
  have e0 : apI (unI U xs p) S = S - unI U xs p := by unfold apI; split <;> omega
  -- b is p or p + 1
  have low : ¬ b < p := by
    intro hlt
    have := unI_lt ok (a := b) (b := p) (by omega) (by omega) (by omega)
    have e1 : apI (unI U xs b) S = S - unI U xs b := by unfold apI; split <;> omega
    rw [e0, e1] at m0; omega
  by_cases hq : (p : Int) + 1 < btI xs
  · have m1 := hmin (p + 1) (by omega)
    have hS := h.lt hq
    have e2 : apI (unI U xs ((p + 1 : Nat) : Int)) S = unI U xs ((p : Int) + 1) - S := by
      rw [show ((p + 1 : Nat) : Int) = (p : Int) + 1 by omega]; unfold apI; split <;> omega
    have high : ¬ p + 1 < b := by
      intro hlt
      have := unI_lt ok (a := (p : Int) + 1) (b := b) (by omega) (by omega) (by omega)
      have e1 : apI (unI U xs b) S = unI U xs b - S := by unfold apI; split <;> omega
      rw [e2, e1] at m1; omega
    by_cases hbp : b = p
    · subst hbp
      rw [e2, e0] at m1
      rw [if_neg (by omega)]
    · have : b = p + 1 := by omega
      subst this
      have := m0.2 (by omega)
      rw [e2, e0] at this
      rw [if_pos (by omega)]; omega
  · rw [if_neg (by omega)]
    have : b = p := by omega
    omega

/-- the code of a piece and a number that is in its range or not -/
def tiCode (xs : List (Int × Int × Int)) (r : Bool) : Int := if ptOk xs then (if r then (if partsI xs = 0 then 5 else 0) else 2) else 1
theorem tiCode_0 {xs : List (Int × Int × Int)} {r : Bool} (h : tiCode xs r = 0) : PtOk xs ∧ r = true ∧ partsI xs ≠ 0 := by
  unfold tiCode at h
  cases hok : ptOk xs <;> cases r <;> simp [hok] at h
  exact ⟨ptOk_iff.1 hok, rfl, h⟩
theorem tiCode_c (xs : List (Int × Int × Int)) (r : Bool) : tiCode xs r = 0 ∨ tiCode xs r = 1 ∨ tiCode xs r = 2 ∨ tiCode xs r = 5 := by
  unfold tiCode; split <;> (try split) <;> (try split) <;> simp
theorem PtOk.bt1 {xs : List (Int × Int × Int)} (h : PtOk xs) : 1 ≤ btI xs := by
  have h0 := h.len0
  cases xs with
  | nil => simp at h0
  | cons x xs =>
    have e0 : btI (x :: xs) = x.1 * x.2.1 + btI xs := rfl
    have h1 := (bF_bd (h.one x (by simp))).1
    have h2 := sumI_ge bF 0 xs (fun y hy => by have := (bF_bd (h.one y (by simp [hy]))).1; unfold bF; omega)
    have : 0 ≤ btI xs := by unfold btI; omega
    omega

/-- the code and the value of a beat's time -/
def tbCode (xs : List (Int × Int × Int)) (b : Int) : Int := tiCode xs (inB b 0 (btI xs - 1))
def tbVal (xs : List (Int × Int × Int)) (b : Int) : Int × Int := if tbCode xs b = 0 then fracOf (unI (partsI xs) xs b) (partsI xs) else (0, 0)
def lpCode (xs : List (Int × Int × Int)) : Int := tiCode xs true
def lpVal (xs : List (Int × Int × Int)) : Int × Int := if lpCode xs = 0 then fracOf (unI (partsI xs) xs (btI xs)) (partsI xs) else (0, 0)
/-- the code and the value of the beat at a second -/
def atCode (xs : List (Int × Int × Int)) (s : Int) : Int := if tiCode xs (inB s 0 100000) = 0 then (if unI (partsI xs) xs (btI xs) ≤ s * partsI xs then 3 else 0) else tiCode xs (inB s 0 100000)
def atVal (xs : List (Int × Int × Int)) (s : Int) : Int := if atCode xs s = 0 then baI (partsI xs) xs (s * partsI xs) else 0
/-- the code and the values of the beats nearest to seconds -/
def fcIn (ss : List Int) : Bool := ss.all (fun s => inB s 0 100000) && decide (ss.length ≤ 20)
def fcCode (xs : List (Int × Int × Int)) (ss : List Int) : Int := tiCode xs (fcIn ss)
def fcOne (xs : List (Int × Int × Int)) (s : Int) : Int := (amGo (partsI xs) xs (s * partsI xs) (btI xs).toNat : Nat)
def fcVal (xs : List (Int × Int × Int)) (ss : List Int) : List Int := if fcCode xs ss = 0 then ss.map (fcOne xs) else []
end Go.Proofs.Ytoehlgfjfdfnfaa
