/-
  When beats begin, in plain mathematics.
-/
import Derived.Test.YtoehlgfjfdfnfaaMu
import Derived.Test.YtoehlgfjfdfnfaaBFrac
namespace Go.Proofs.Ytoehlgfjfdfnfaa

/-- the least common multiple as the code reckons it -/
def puF (n t : Int) : Int := n / fracG n t * t
theorem fracG_dvd {a b : Int} (ha : 0 ≤ a) : fracG a b ∣ a := by
  unfold fracG
  obtain ⟨k, rfl⟩ := Int.eq_ofNat_of_zero_le ha
  rw [Int.toNat_natCast]
  exact Int.natCast_dvd_natCast.2 (Nat.gcd_dvd_left _ _)
theorem fracG_dvd2 {a b : Int} (hb : 0 ≤ b) : fracG a b ∣ b := by
  unfold fracG
  obtain ⟨k, rfl⟩ := Int.eq_ofNat_of_zero_le hb
  rw [Int.toNat_natCast k]
  exact Int.natCast_dvd_natCast.2 (Nat.gcd_dvd_right _ _)
theorem puF_quo {n t : Int} (hn : 1 ≤ n) (ht : 1 ≤ t) : 1 ≤ n / fracG n t ∧ n / fracG n t ≤ n ∧ 1 ≤ fracG n t ∧ fracG n t ≤ t := by
  have hg := fracG_bd (a := n) (b := t) (by omega)
  have hd := fracG_dvd (a := n) (b := t) (by omega)
  have hle : fracG n t ≤ n := Int.le_of_dvd (by omega) hd
  refine ⟨?_, Int.ediv_le_self _ (by omega), hg.1, hg.2⟩
  exact (Int.le_ediv_iff_mul_le (by omega)).2 (by omega)
theorem puF_bd {n t : Int} (hn : 1 ≤ n ∧ n ≤ 100000000) (ht : 20 ≤ t ∧ t ≤ 300) : 1 ≤ puF n t ∧ puF n t ≤ 30000000000 := by
  have hq := puF_quo hn.1 (show 1 ≤ t by omega)
  unfold puF
  have h1 : 1 * 1 ≤ n / fracG n t * t := Int.mul_le_mul hq.1 (by omega) (by omega) (by omega)
  have h2 : n / fracG n t * t ≤ 100000000 * 300 := Int.mul_le_mul (by omega) (by omega) (by omega) (by omega)
  omega
theorem puF_dvd {n t : Int} (hn : 1 ≤ n) (ht : 1 ≤ t) : t ∣ puF n t ∧ n ∣ puF n t := by
  unfold puF
  refine ⟨Int.dvd_mul_left _ _, ?_⟩
  obtain ⟨a, ha⟩ := fracG_dvd (a := n) (b := t) (by omega)
  obtain ⟨b, hb⟩ := fracG_dvd2 (a := n) (b := t) (by omega)
  have hg := (puF_quo hn ht).2.2.1
  have hq : n / fracG n t = a := by
    conv => lhs; lhs; rw [ha]
    exact Int.mul_ediv_cancel_left _ (by omega)
  rw [hq]
  refine ⟨b, ?_⟩
  conv => lhs; rhs; rw [hb]
  conv => rhs; lhs; rw [ha]
  rw [← Int.mul_assoc, Int.mul_comm a]

def puL : List (Int × Int × Int) → Int → Int
  | [], n => n
  | x :: xs, n => if 100000000 < puF n x.2.2 then 0 else puL xs (puF n x.2.2)
/-- the parts of a second; 0 if they are too many -/
def partsI (xs : List (Int × Int × Int)) : Int := puL xs 1
theorem puL_stop {xs : List (Int × Int × Int)} {k : Nat} {x : Int × Int × Int} {n : Int} (h : xs[k]? = some x) (hq : 100000000 < puF n x.2.2) : puL (xs.drop k) n = 0 := by
  obtain ⟨hk, hx⟩ := (List.getElem?_eq_some_iff.1 h)
  rw [List.drop_eq_getElem_cons hk, hx, puL, if_pos hq]
theorem puL_go {xs : List (Int × Int × Int)} {k : Nat} {x : Int × Int × Int} {n : Int} (h : xs[k]? = some x) (hq : ¬ 100000000 < puF n x.2.2) : puL (xs.drop k) n = puL (xs.drop (k + 1)) (puF n x.2.2) := by
  obtain ⟨hk, hx⟩ := (List.getElem?_eq_some_iff.1 h)
  rw [List.drop_eq_getElem_cons hk, hx, puL, if_neg hq]
theorem puL_end {xs : List (Int × Int × Int)} {n : Int} : puL (xs.drop xs.length) n = n := by
  rw [List.drop_of_length_le (Nat.le_refl _)]; rfl
theorem puL_bd {xs : List (Int × Int × Int)} {n : Int} (h : ∀ x ∈ xs, 20 ≤ x.2.2 ∧ x.2.2 ≤ 300) (hn : 1 ≤ n ∧ n ≤ 100000000) (h0 : puL xs n ≠ 0) : 1 ≤ puL xs n ∧ puL xs n ≤ 100000000 ∧ n ∣ puL xs n ∧ ∀ x ∈ xs, x.2.2 ∣ puL xs n := by
  induction xs generalizing n with
  | nil => exact ⟨hn.1, hn.2, Int.dvd_refl _, by simp⟩
  | cons x xs ih =>
    have hx := h x (by simp)
    have hb := puF_bd hn hx
    have hd := puF_dvd hn.1 (show 1 ≤ x.2.2 by omega)
    rw [puL] at h0 ⊢
    by_cases hq : 100000000 < puF n x.2.2
    · rw [if_pos hq] at h0; exact absurd rfl h0
    · rw [if_neg hq] at h0 ⊢
      obtain ⟨a1, a2, a3, a4⟩ := ih (fun y hy => h y (by simp [hy])) ⟨hb.1, by omega⟩ h0
      refine ⟨a1, a2, Int.dvd_trans hd.2 a3, ?_⟩
      intro y hy
      rcases List.mem_cons.1 hy with rfl | hy
      · exact Int.dvd_trans hd.1 a3
      · exact a4 y hy
theorem parts_bd {xs : List (Int × Int × Int)} (ok : PtB xs) (h0 : partsI xs ≠ 0) : 1 ≤ partsI xs ∧ partsI xs ≤ 100000000 ∧ ∀ x ∈ xs, x.2.2 ∣ partsI xs := by
  have := puL_bd (n := 1) (fun x hx => by have := ok.2 x hx; omega) (by omega) h0
  exact ⟨this.1, this.2.1, this.2.2.2⟩

/-- the units of a beat -/
def stU (U : Int) (x : Int × Int × Int) : Int := 60 * U / x.2.2
theorem stU_bd {U : Int} {x : Int × Int × Int} (hU : 1 ≤ U ∧ U ≤ 100000000) (hx : 20 ≤ x.2.2 ∧ x.2.2 ≤ 300) : 0 ≤ stU U x ∧ stU U x ≤ 300000000 := by
  unfold stU
  refine ⟨Int.ediv_nonneg (by omega) (by omega), ?_⟩
  have : 60 * U / x.2.2 ≤ 60 * U / 20 := by
    apply Int.le_of_lt_add_one
    rw [Int.ediv_lt_iff_lt_mul (by omega)]
    have h1 : 60 * U < (60 * U / 20 + 1) * 20 := by omega
    have h2 : (60 * U / 20 + 1) * 20 ≤ (60 * U / 20 + 1) * x.2.2 := Int.mul_le_mul_of_nonneg_left (by omega) (by omega)
    omega
  omega
theorem stU_pos {U : Int} {x : Int × Int × Int} (hU : 1 ≤ U) (hx : 1 ≤ x.2.2) (hd : x.2.2 ∣ U) : 1 ≤ stU U x := by
  unfold stU
  have : x.2.2 ≤ U := Int.le_of_dvd (by omega) hd
  exact (Int.le_ediv_iff_mul_le (by omega)).2 (by omega)
/-- the units at which a beat begins -/
def unI (U : Int) : List (Int × Int × Int) → Int → Int
  | [], _ => 0
  | x :: xs, b => if 0 < b then min b (x.1 * x.2.1) * stU U x + unI U xs (b - min b (x.1 * x.2.1)) else 0
theorem unI_zero (U : Int) (xs : List (Int × Int × Int)) : unI U xs 0 = 0 := by
  cases xs <;> simp [unI]
theorem unI_go {U : Int} {xs : List (Int × Int × Int)} {k : Nat} {x : Int × Int × Int} {b : Int} (h : xs[k]? = some x) (hb : 0 < b) :
    unI U (xs.drop k) b = min b (x.1 * x.2.1) * stU U x + unI U (xs.drop (k + 1)) (b - min b (x.1 * x.2.1)) := by
  obtain ⟨hk, hx⟩ := (List.getElem?_eq_some_iff.1 h)
  rw [List.drop_eq_getElem_cons hk, hx, unI, if_pos hb]
theorem unI_end {U : Int} {xs : List (Int × Int × Int)} {b : Int} : unI U (xs.drop xs.length) b = 0 := by
  rw [List.drop_of_length_le (Nat.le_refl _)]; rfl
/-- the units of the first k parts -/
def ssK (U : Int) (xs : List (Int × Int × Int)) (k : Nat) : Int := sumI (fun x => x.1 * x.2.1 * stU U x) (xs.take k)
theorem unI_at {U : Int} {xs : List (Int × Int × Int)} {k : Nat} {x : Int × Int × Int} {j : Int} (ok : ∀ x ∈ xs, 1 ≤ x.1 * x.2.1) (h : xs[k]? = some x) (hj : 0 ≤ j ∧ j ≤ x.1 * x.2.1) :
    unI U xs (btK xs k + j) = ssK U xs k + j * stU U x := by
  induction xs generalizing k with
  | nil => simp at h
  | cons y xs ih =>
    have hy := ok y (by simp)
    cases k with
    | zero =>
      simp at h; subst h
      have e1 : btK (y :: xs) 0 = 0 := rfl
      have e2 : ssK U (y :: xs) 0 = 0 := rfl
      rw [e1, e2, Int.zero_add, Int.zero_add, unI]
      split
      · rw [Int.min_eq_left (by omega), Int.sub_self, unI_zero, Int.add_zero]
      · have : j = 0 := by omega
        subst this; simp
    | succ k =>
      have h' : xs[k]? = some x := by simpa using h
      have e1 : btK (y :: xs) (k + 1) = y.1 * y.2.1 + btK xs k := by simp [btK, sumI, bF]
      have e2 : ssK U (y :: xs) (k + 1) = y.1 * y.2.1 * stU U y + ssK U xs k := by simp [ssK, sumI]
      have hb : 0 ≤ btK xs k := sumI_ge bF 0 (xs.take k) (fun z hz => by have := ok z (by simp [List.mem_of_mem_take hz]); unfold bF; omega) |> fun h => by unfold btK; omega
      rw [e1, e2, unI, if_pos (by omega), Int.min_eq_right (by omega)]
      rw [show y.1 * y.2.1 + btK xs k + j - y.1 * y.2.1 = btK xs k + j by omega, ih (fun z hz => ok z (by simp [hz])) h', Int.add_assoc]
theorem unI_step {U : Int} {xs : List (Int × Int × Int)} {k : Nat} {x : Int × Int × Int} {j : Int} (ok : ∀ x ∈ xs, 1 ≤ x.1 * x.2.1) (h : xs[k]? = some x) (hj : 0 ≤ j ∧ j < x.1 * x.2.1) :
    unI U xs (btK xs k + j + 1) = unI U xs (btK xs k + j) + stU U x := by
  rw [Int.add_assoc, unI_at ok h (by omega), unI_at ok h (by omega), Int.add_mul, Int.one_mul, Int.add_assoc]
end Go.Proofs.Ytoehlgfjfdfnfaa
