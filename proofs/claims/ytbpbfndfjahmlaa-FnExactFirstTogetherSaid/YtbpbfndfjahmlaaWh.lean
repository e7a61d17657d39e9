/-
  Wheels with teeth, in plain mathematics: when all have wanted places.
-/
import Derived.Test.YtbpbfndfjahmlaaMath
import Derived.Test.YtbpbfndfjahmlaaBFrac
namespace Go.Proofs.Ytbpbfndfjahmlaa

def whOk (c : Int) (xs : List (Int × Bool)) : Bool := inB c 2 200 && decide (xs.length ≤ 8) && xs.all fun x => inB x.1 2 200
structure WhOk (c : Int) (xs : List (Int × Bool)) : Prop where
  crank : 2 ≤ c ∧ c ≤ 200
  len : xs.length ≤ 8
  one : ∀ x ∈ xs, 2 ≤ x.1 ∧ x.1 ≤ 200
theorem whOk_iff {c : Int} {xs : List (Int × Bool)} : whOk c xs = true ↔ WhOk c xs := by
  unfold whOk
  rw [Bool.and_eq_true, Bool.and_eq_true, List.all_eq_true, inB_true, decide_eq_true_iff]
  exact ⟨fun ⟨⟨a, b⟩, d⟩ => ⟨a, b, fun x hx => inB_true.1 (d x hx)⟩, fun h => ⟨⟨h.crank, h.len⟩, fun x hx => inB_true.2 (h.one x hx)⟩⟩

/-- the place of a wheel after t teeth of the crank -/
def whP (x : Int × Bool) (t : Int) : Int := if x.2 then (x.1 - t % x.1) % x.1 else t % x.1
theorem whP_back {x : Int × Bool} {t : Int} (hx : 2 ≤ x.1) : whP x t = if x.2 = true ∧ 0 < t % x.1 then x.1 - t % x.1 else t % x.1 := by
  have h1 := Int.emod_nonneg t (show x.1 ≠ 0 by omega)
  have h2 := Int.emod_lt_of_pos t (show 0 < x.1 by omega)
  unfold whP
  cases hb : x.2
  · simp
  · simp only [if_true, true_and]
    split
    · exact Int.emod_eq_of_lt (by omega) (by omega)
    · have : t % x.1 = 0 := by omega
      rw [this, Int.sub_zero, Int.emod_self]
theorem whP_bd {x : Int × Bool} {t : Int} (hx : 2 ≤ x.1) : 0 ≤ whP x t ∧ whP x t < x.1 := by
  unfold whP
  split
  · exact ⟨Int.emod_nonneg _ (by omega), Int.emod_lt_of_pos _ (by omega)⟩
  · exact ⟨Int.emod_nonneg _ (by omega), Int.emod_lt_of_pos _ (by omega)⟩

/-- the least common multiple as the code reckons it -/
def rtF (n t : Int) : Int := n / fracG n t * t
theorem fracG_dvdL {a b : Int} (ha : 0 ≤ a) : fracG a b ∣ a := by
  unfold fracG
  obtain ⟨k, rfl⟩ := Int.eq_ofNat_of_zero_le ha
  rw [Int.toNat_natCast]
  exact Int.natCast_dvd_natCast.2 (Nat.gcd_dvd_left _ _)
theorem fracG_dvdR {a b : Int} (hb : 0 ≤ b) : fracG a b ∣ b := by
  unfold fracG
  obtain ⟨k, rfl⟩ := Int.eq_ofNat_of_zero_le hb
  rw [Int.toNat_natCast k]
  exact Int.natCast_dvd_natCast.2 (Nat.gcd_dvd_right _ _)
theorem rtF_quo {n t : Int} (hn : 1 ≤ n) (ht : 1 ≤ t) : 1 ≤ n / fracG n t ∧ n / fracG n t ≤ n ∧ 1 ≤ fracG n t ∧ fracG n t ≤ t := by
  have hg := fracG_bd (a := n) (b := t) (by omega)
  have hd := fracG_dvdL (a := n) (b := t) (by omega)
  have hle : fracG n t ≤ n := Int.le_of_dvd (by omega) hd
  refine ⟨?_, Int.ediv_le_self _ (by omega), hg.1, hg.2⟩
  exact (Int.le_ediv_iff_mul_le (by omega)).2 (by omega)
theorem rtF_bd {n t : Int} (hn : 1 ≤ n) (ht : 1 ≤ t) : n ≤ rtF n t ∧ rtF n t ≤ n * t := by
  have hq := rtF_quo hn ht
  unfold rtF
  refine ⟨?_, Int.mul_le_mul_of_nonneg_right hq.2.1 (by omega)⟩
  obtain ⟨a, ha⟩ := fracG_dvdL (a := n) (b := t) (by omega)
  have hq2 : n / fracG n t = a := by
    conv => lhs; lhs; rw [ha]
    exact Int.mul_ediv_cancel_left _ (by omega)
  rw [hq2]
  have ha1 : 1 ≤ a := by rw [← hq2]; exact hq.1
  calc n = fracG n t * a := ha
    _ = a * fracG n t := Int.mul_comm _ _
    _ ≤ a * t := Int.mul_le_mul_of_nonneg_left hq.2.2.2 (by omega)
/-- the multiple of the first k wheels' teeth -/
def rtK (xs : List (Int × Bool)) : Nat → Int
  | 0 => 1
  | k + 1 => match xs[k]? with
    | some x => rtF (rtK xs k) x.1
    | none => rtK xs k
theorem rtK_step {xs : List (Int × Bool)} {k : Nat} {x : Int × Bool} (h : xs[k]? = some x) : rtK xs (k + 1) = rtF (rtK xs k) x.1 := by rw [rtK, h]
theorem rtK_pos {xs : List (Int × Bool)} (ok : ∀ x ∈ xs, 2 ≤ x.1 ∧ x.1 ≤ 200) (k : Nat) : 1 ≤ rtK xs k ∧ rtK xs k ≤ rtK xs (k + 1) := by
  induction k with
  | zero =>
    refine ⟨Int.le_refl _, ?_⟩
    cases hx : xs[0]? with
    | none => rw [show rtK xs (0 + 1) = rtK xs 0 from by simp [rtK, hx]]; exact Int.le_refl _
    | some x =>
      have := ok x (List.mem_of_getElem? hx)
      rw [rtK_step hx]
      exact (rtF_bd (Int.le_refl 1) (by omega)).1
  | succ k ih =>
    refine ⟨by omega, ?_⟩
    cases hx : xs[k + 1]? with
    | none => rw [show rtK xs (k + 1 + 1) = rtK xs (k + 1) from by simp [rtK, hx]]; exact Int.le_refl _
    | some x =>
      have := ok x (List.mem_of_getElem? hx)
      rw [rtK_step hx]
      exact (rtF_bd (by omega) (by omega)).1
theorem rtK_le {xs : List (Int × Bool)} (ok : ∀ x ∈ xs, 2 ≤ x.1 ∧ x.1 ≤ 200) {i k : Nat} (h : i ≤ k) : rtK xs i ≤ rtK xs k := by
  induction k with
  | zero => have : i = 0 := by omega
            subst this; exact Int.le_refl _
  | succ k ih =>
    by_cases hi : i = k + 1
    · subst hi; exact Int.le_refl _
    · have h1 := ih (by omega)
      have h2 := (rtK_pos ok k).2
      omega
/-- eight wheels: the multiple fits -/
theorem rtK_bd {xs : List (Int × Bool)} (ok : ∀ x ∈ xs, 2 ≤ x.1 ∧ x.1 ≤ 200) : ∀ k : Nat, k ≤ 8 → rtK xs k ≤ 200 ^ k
  | 0, _ => by simp [rtK]
  | k + 1, h => by
    have ih := rtK_bd ok k (by omega)
    have hp := (rtK_pos ok k).1
    rw [Int.pow_succ]
    cases hx : xs[k]? with
    | none => rw [show rtK xs (k + 1) = rtK xs k from by simp [rtK, hx]]; omega
    | some x =>
      rw [rtK_step hx]
      have hx := ok x (List.mem_of_getElem? hx)
      have h1 := (rtF_bd hp (show 1 ≤ x.1 by omega)).2
      have h2 : rtK xs k * x.1 ≤ 200 ^ k * 200 := Int.mul_le_mul ih hx.2 (by omega) (by omega)
      omega
theorem rtK_bd8 {xs : List (Int × Bool)} (ok : ∀ x ∈ xs, 2 ≤ x.1 ∧ x.1 ≤ 200) {k : Nat} (h : k ≤ 8) : rtK xs k ≤ 2560000000000000000 := by
  have h1 := rtK_bd ok k h
  have h2 : ((200 : Int) ^ k) ≤ 2560000000000000000 := by
    rcases (show k = 0 ∨ k = 1 ∨ k = 2 ∨ k = 3 ∨ k = 4 ∨ k = 5 ∨ k = 6 ∨ k = 7 ∨ k = 8 by omega) with rfl | rfl | rfl | rfl | rfl | rfl | rfl | rfl | rfl <;> decide
  omega
/-- the multiple of all; 0 if it is too great -/
def rtS (xs : List (Int × Bool)) : Int := if 1000000000 < rtK xs xs.length then 0 else rtK xs xs.length

/-- the least of so many numbers of teeth from t on by steps at which a wheel has a place -/
def shF (x : Int × Bool) (wd st : Int) : Nat → Int → Option Int
  | 0, _ => none
  | f + 1, t => if whP x t = wd then some t else shF x wd st f (t + st)
theorem shF_hit {x : Int × Bool} {wd st t : Int} {f : Nat} (h : whP x t = wd) : shF x wd st (f + 1) t = some t := by rw [shF, if_pos h]
theorem shF_miss {x : Int × Bool} {wd st t : Int} {f : Nat} (h : whP x t ≠ wd) : shF x wd st (f + 1) t = shF x wd st f (t + st) := by rw [shF, if_neg h]
theorem shF_miss_all {x : Int × Bool} {wd st : Int} (f : Nat) {t : Int} (h : shF x wd st f t = none) : ∀ i : Nat, i < f → whP x (t + i * st) ≠ wd := by
  induction f generalizing t with
  | zero => intro i hi; omega
  | succ f ih =>
    intro i hi
    rw [shF] at h
    split at h
    · cases h
    · rename_i h0
      cases i with
      | zero => simpa using h0
      | succ i =>
        have := ih h i (by omega)
        rw [show t + ((i + 1 : Nat) : Int) * st = t + st + (i : Int) * st by rw [Int.natCast_succ, Int.add_mul, Int.one_mul]; omega]
        exact this
theorem shF_more {x : Int × Bool} {wd st : Int} (f : Nat) {t r : Int} (h : shF x wd st f t = some r) : shF x wd st (f + 1) t = some r := by
  induction f generalizing t with
  | zero => cases h
  | succ f ih =>
    rw [shF] at h ⊢
    split at h
    · rename_i h0; rw [if_pos h0]; exact h
    · rename_i h0; rw [if_neg h0]; exact ih h
theorem shF_last {x : Int × Bool} {wd st : Int} (f : Nat) {t : Int} (h : shF x wd st f t = none) (h2 : whP x (t + f * st) ≠ wd) : shF x wd st (f + 1) t = none := by
  induction f generalizing t with
  | zero => rw [shF, if_neg (by simpa using h2)]; rfl
  | succ f ih =>
    rw [shF] at h
    split at h
    · cases h
    · rename_i h0
      rw [shF, if_neg h0]
      exact ih h (by rw [show t + st + (f : Int) * st = t + ((f + 1 : Nat) : Int) * st by rw [Int.natCast_succ, Int.add_mul, Int.one_mul]; omega]; exact h2)
/-- a further try finds nothing new: the place is the first one again -/
theorem shF_again {x : Int × Bool} {wd st t : Int} (hx : 2 ≤ x.1) : shF x wd st (x.1.toNat + 1) t = shF x wd st x.1.toNat t := by
  cases h : shF x wd st x.1.toNat t with
  | some r => exact shF_more _ h
  | none =>
    refine shF_last _ h ?_
    have h0 := shF_miss_all _ h 0 (by omega)
    intro h1
    apply h0
    rw [← h1]
    unfold whP
    have : (t + (x.1.toNat : Int) * st) % x.1 = (t + ((0 : Nat) : Int) * st) % x.1 := by
      rw [Int.toNat_of_nonneg (by omega)]
      simp
    rw [this]
theorem shF_bd {x : Int × Bool} {wd st : Int} (hst : 0 ≤ st) (f : Nat) {t r : Int} (h : shF x wd st f t = some r) : t ≤ r ∧ r ≤ t + f * st := by
  induction f generalizing t with
  | zero => cases h
  | succ f ih =>
    rw [shF] at h
    have hp : 0 ≤ (f : Int) * st := Int.mul_nonneg (by omega) hst
    have e : ((f + 1 : Nat) : Int) * st = f * st + st := by rw [Int.natCast_succ, Int.add_mul, Int.one_mul]
    split at h
    · cases h; omega
    · have := ih h; omega
/-- wheel by wheel -/
def ftG (xs : List (Int × Bool)) (ws : List Int) : Nat → Option Int
  | 0 => some 0
  | k + 1 => match ftG xs ws k, xs[k]?, ws[k]? with
    | some t, some x, some wd => shF x wd (rtK xs k) x.1.toNat t
    | r, _, _ => r
theorem ftG_step {xs : List (Int × Bool)} {ws : List Int} {k : Nat} {t wd : Int} {x : Int × Bool} (h : ftG xs ws k = some t) (hx : xs[k]? = some x) (hw : ws[k]? = some wd) :
    ftG xs ws (k + 1) = shF x wd (rtK xs k) x.1.toNat t := by rw [ftG, h, hx, hw]
theorem ftG_none {xs : List (Int × Bool)} {ws : List Int} {k m : Nat} (h : ftG xs ws k = none) (hm : k ≤ m) : ftG xs ws m = none := by
  induction m with
  | zero => have : k = 0 := by omega
            subst this; exact h
  | succ m ih =>
    by_cases hk : k = m + 1
    · subst hk; exact h
    · rw [ftG, ih (by omega)]
def ftI (xs : List (Int × Bool)) (ws : List Int) : Option Int := ftG xs ws xs.length
def wantOk (xs : List (Int × Bool)) (ws : List Int) : Bool := (List.range xs.length).all fun i => match xs[i]?, ws[i]? with
  | some x, some wd => inB wd 0 (x.1 - 1)
  | _, _ => true
theorem wantOk_true {xs : List (Int × Bool)} {ws : List Int} {i : Nat} {x : Int × Bool} {wd : Int} (h : wantOk xs ws = true) (hx : xs[i]? = some x) (hw : ws[i]? = some wd) : inB wd 0 (x.1 - 1) = true := by
  unfold wantOk at h
  rw [List.all_eq_true] at h
  have hi := (List.getElem?_eq_some_iff.1 hx).1
  have := h i (List.mem_range.2 hi)
  rw [hx, hw] at this
  exact this
theorem wantOk_no {xs : List (Int × Bool)} {ws : List Int} {i : Nat} {x : Int × Bool} {wd : Int} (hx : xs[i]? = some x) (hw : ws[i]? = some wd) (h : inB wd 0 (x.1 - 1) = false) : wantOk xs ws = false := by
  cases hq : wantOk xs ws
  · rfl
  · rw [wantOk_true hq hx hw] at h; cases h
/-- all of the first k have wanted places -/
def WantK (xs : List (Int × Bool)) (ws : List Int) (k : Nat) : Prop := ∀ i x wd, i < k → xs[i]? = some x → ws[i]? = some wd → inB wd 0 (x.1 - 1) = true
theorem wantK_step {xs : List (Int × Bool)} {ws : List Int} {k : Nat} {x : Int × Bool} {wd : Int} (h : WantK xs ws k) (hx : xs[k]? = some x) (hw : ws[k]? = some wd) (hi : inB wd 0 (x.1 - 1) = true) : WantK xs ws (k + 1) := by
  intro i y u hik hy hu
  by_cases e : i = k
  · subst e
    rw [hx] at hy; rw [hw] at hu
    cases hy; cases hu
    exact hi
  · exact h i y u (by omega) hy hu
theorem wantK_all {xs : List (Int × Bool)} {ws : List Int} (h : WantK xs ws xs.length) : wantOk xs ws = true := by
  unfold wantOk
  rw [List.all_eq_true]
  intro i hi
  have hi := List.mem_range.1 hi
  cases hx : xs[i]? with
  | none => rfl
  | some x =>
    cases hw : ws[i]? with
    | none => rfl
    | some wd => exact h i x wd hi hx hw
def ftCode (c : Int) (xs : List (Int × Bool)) (ws : List Int) : Int :=
  if whOk c xs then (if ws.length = xs.length then (if wantOk xs ws then (if 1000000000 < rtK xs xs.length then 5 else (if (ftI xs ws).isSome then 0 else 3)) else 2) else 2) else 1
def ftVal (c : Int) (xs : List (Int × Bool)) (ws : List Int) : Int := if ftCode c xs ws = 0 then (ftI xs ws).getD 0 else 0
end Go.Proofs.Ytbpbfndfjahmlaa
