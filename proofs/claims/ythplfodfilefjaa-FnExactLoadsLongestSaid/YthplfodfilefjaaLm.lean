/-
  Showings, in plain mathematics: the place chosen, and the plan.
-/
import Derived.Test.YthplfodfilefjaaLd
namespace Go.Proofs.Ythplfodfilefjaa

/-- the first greatest of g 0, g 1, .. -/
def amK (g : Nat → Int) : Nat → Int × Int
  | 0 => (-1, -1)
  | k + 1 => if (amK g k).2 < g k then ((k : Int), g k) else amK g k
def amJ (g : Nat → Int) : Nat → Int × Int
  | 0 => (0, -1)
  | k + 1 => if (amJ g k).2 < g k then ((k : Int), g k) else amJ g k
theorem amK_yes {g : Nat → Int} {k : Nat} (h : (amK g k).2 < g k) : amK g (k + 1) = ((k : Int), g k) := by rw [amK, if_pos h]
theorem amK_no {g : Nat → Int} {k : Nat} (h : ¬ (amK g k).2 < g k) : amK g (k + 1) = amK g k := by rw [amK, if_neg h]
theorem amJ_yes {g : Nat → Int} {k : Nat} (h : (amJ g k).2 < g k) : amJ g (k + 1) = ((k : Int), g k) := by rw [amJ, if_pos h]
theorem amJ_no {g : Nat → Int} {k : Nat} (h : ¬ (amJ g k).2 < g k) : amJ g (k + 1) = amJ g k := by rw [amJ, if_neg h]
theorem amK_below {g : Nat → Int} {M : Int} {k : Nat} (h : ∀ j, j < k → g j < M) (h0 : -1 < M) : (amK g k).2 < M := by
  induction k with
  | zero => exact h0
  | succ k ih =>
    have := ih fun j hj => h j (by omega)
    rw [amK]; split
    · exact h k (by omega)
    · exact this
theorem amK_at {g : Nat → Int} {e n : Nat} (he : e < n) (h1 : ∀ j, j < e → g j < g e) (h2 : ∀ j, e < j → j < n → g j ≤ g e) (h0 : -1 < g e) : amK g n = ((e : Int), g e) := by
  obtain ⟨d, rfl⟩ : ∃ d, n = e + 1 + d := ⟨n - (e + 1), by omega⟩
  induction d with
  | zero => rw [Nat.add_zero, amK_yes (amK_below h1 h0)]
  | succ d ih =>
    rw [show e + 1 + (d + 1) = (e + 1 + d) + 1 by omega]
    have h3 := ih (by omega) (fun j a b => h2 j a (by omega))
    rw [amK_no, h3]
    rw [h3]
    have := h2 (e + 1 + d) (by omega) (by omega)
    simp only
    omega
theorem amK_rng {g : Nat → Int} {n : Nat} (h : ∀ j, 0 ≤ g j) (hn : 1 ≤ n) : 0 ≤ (amK g n).1 ∧ (amK g n).1 < n ∧ 0 ≤ (amK g n).2 := by
  induction n with
  | zero => omega
  | succ n ih =>
    rw [amK]
    by_cases h1 : (amK g n).2 < g n
    · rw [if_pos h1]; exact ⟨by simp only; omega, by simp only; omega, h n⟩
    · rw [if_neg h1]
      rcases Nat.eq_zero_or_pos n with h2 | h2
      · subst h2; exact absurd (by have := h 0; show (-1 : Int) < g 0; omega) h1
      · have := ih h2; omega
theorem am_same {g g' : Nat → Int} {n : Nat} {i : Int} (hi : 0 ≤ i) (h : ∀ j, j < n → g j = i + g' j) (h0 : ∀ j, 0 ≤ g' j) (hn : 1 ≤ n) : (amK g n).1 = (amJ g' n).1 ∧ (amK g n).2 = i + (amJ g' n).2 := by
  induction n with
  | zero => omega
  | succ n ih =>
    rcases Nat.eq_zero_or_pos n with h2 | h2
    · subst h2
      have a1 := h 0 (by omega)
      have a2 := h0 0
      rw [amK_yes (by show (-1 : Int) < g 0; omega), amJ_yes (by show (-1 : Int) < g' 0; omega)]
      exact ⟨rfl, a1⟩
    · obtain ⟨b1, b2⟩ := ih (fun j hj => h j (by omega)) h2
      have a1 := h n (by omega)
      by_cases h3 : (amJ g' n).2 < g' n
      · rw [amK_yes (by omega), amJ_yes h3]; exact ⟨rfl, a1⟩
      · rw [amK_no (by omega), amJ_no h3]; exact ⟨b1, b2⟩
theorem amJ_bd {g : Nat → Int} {M : Int} {k : Nat} (h : ∀ j, 0 ≤ g j ∧ g j ≤ M) (h0 : 0 ≤ M) : 0 ≤ (amJ g k).1 ∧ (amJ g k).1 ≤ k ∧ -1 ≤ (amJ g k).2 ∧ (amJ g k).2 ≤ M := by
  induction k with
  | zero => show 0 ≤ (0 : Int) ∧ (0 : Int) ≤ ((0 : Nat) : Int) ∧ -1 ≤ (-1 : Int) ∧ (-1 : Int) ≤ M; omega
  | succ k ih =>
    have := h k
    rw [amJ]; split <;> (try simp only) <;> omega
theorem amK_bd {g : Nat → Int} {M : Int} {k : Nat} (h : ∀ j, 0 ≤ g j ∧ g j ≤ M) (h0 : 0 ≤ M) : -1 ≤ (amK g k).1 ∧ (amK g k).1 ≤ k ∧ -1 ≤ (amK g k).2 ∧ (amK g k).2 ≤ M := by
  induction k with
  | zero => show -1 ≤ (-1 : Int) ∧ (-1 : Int) ≤ ((0 : Nat) : Int) ∧ -1 ≤ (-1 : Int) ∧ (-1 : Int) ≤ M; omega
  | succ k ih =>
    have := h k
    rw [amK]; split <;> (try simp only) <;> omega

/-- the first index at which a byte lies -/
theorem findB_lt {l : List UInt8} {c : UInt8} (h : findB l c < l.length) : l[findB l c]? = some c := by
  induction l with
  | nil => simp at h
  | cons b l ih =>
    rw [findB] at h ⊢
    by_cases h1 : (b == c) = true
    · rw [if_pos h1]; simp at h1; simp [h1]
    · rw [if_neg h1] at h ⊢
      simp at h
      simpa using ih h
theorem findB_before {l : List UInt8} {c x : UInt8} {j : Nat} (hj : j < findB l c) (hx : l[j]? = some x) : x ≠ c := by
  induction l generalizing j with
  | nil => simp at hx
  | cons b l ih =>
    rw [findB] at hj
    by_cases h1 : (b == c) = true
    · rw [if_pos h1] at hj; omega
    · rw [if_neg h1] at hj
      cases j with
      | zero => simp at hx; subst hx; simpa using h1
      | succ j => exact ih (j := j) (by omega) (by simpa using hx)
theorem findB_none {l : List UInt8} {c : UInt8} (h : findB l c = l.length) {j : Nat} {x : UInt8} (hx : l[j]? = some x) : x ≠ c :=
  findB_before (by rw [h]; exact (List.getElem?_eq_some_iff.1 hx).1) hx
theorem findB_first {l : List UInt8} {c : UInt8} {k : Nat} (hk : l[k]? = some c) (h : ∀ j, j < k → ∀ x, l[j]? = some x → x ≠ c) : findB l c = k := by
  induction l generalizing k with
  | nil => simp at hk
  | cons b l ih =>
    rw [findB]
    cases k with
    | zero => simp at hk; simp [hk]
    | succ k =>
      have hb : b ≠ c := h 0 (by omega) b (by simp)
      rw [if_neg (by simpa using hb), ih (k := k) (by simpa using hk) (fun j hj x hx => h (j + 1) (by omega) x (by simpa using hx))]
/-- letters in the magazine differ -/
def Dist (m : List UInt8) : Prop := ∀ (i j : Nat) (c : UInt8), m[i]? = some c → m[j]? = some c → c ≠ 0 → i = j
def lasK (m : List UInt8) (c : UInt8) : Nat → Int
  | 0 => -1
  | k + 1 => if m[k]? = some c then (k : Int) else lasK m c k
theorem lasK_yes {m : List UInt8} {c x : UInt8} {k : Nat} (h : m[k]? = some x) (hx : (x == c) = true) : lasK m c (k + 1) = k := by
  rw [lasK, if_pos (by rw [h, beq_iff_eq.1 hx])]
theorem lasK_no {m : List UInt8} {c x : UInt8} {k : Nat} (h : m[k]? = some x) (hx : (x == c) = false) : lasK m c (k + 1) = lasK m c k := by
  rw [lasK, if_neg (by rw [h]; simpa using hx)]
theorem lasK_none {m : List UInt8} {c : UInt8} {k : Nat} (h : findB m c = m.length) : lasK m c k = -1 := by
  induction k with
  | zero => rfl
  | succ k ih =>
    rw [lasK, if_neg, ih]
    intro hx
    exact findB_none h hx rfl
theorem lasK_some {m : List UInt8} {c : UInt8} {k : Nat} (hd : Dist m) (hc : c ≠ 0) (h : findB m c < k) (h2 : findB m c < m.length) : lasK m c k = findB m c := by
  induction k with
  | zero => omega
  | succ k ih =>
    have h3 := findB_lt h2
    rw [lasK]
    by_cases h4 : m[k]? = some c
    · rw [if_pos h4, hd _ _ _ h4 h3 hc]
    · rw [if_neg h4]
      by_cases h5 : findB m c = k
      · rw [h5] at h3; exact absurd h3 h4
      · exact ih (by omega)
theorem lasK_bd (m : List UInt8) (c : UInt8) (k : Nat) : -1 ≤ lasK m c k ∧ lasK m c k < k := by
  induction k with
  | zero => simp [lasK]
  | succ k ih => rw [lasK]; split <;> omega

/-- when a slide is shown again, from i on -/
def nxI (l : List UInt8) (i : Nat) (c : UInt8) : Int := if c = 0 then (l.length : Int) + 1 else ((i + findB (l.drop i) c : Nat) : Int)
def nxG (l m : List UInt8) (i : Nat) (k : Nat) : Int := nxI l i (m.getD k 0)
def nxH (l m : List UInt8) (i : Nat) (k : Nat) : Int := (findB (l.drop i) (m.getD k 0) : Int)
theorem nxI_bd {l : List UInt8} {i : Nat} {c : UInt8} (h : i ≤ l.length) : 0 ≤ nxI l i c ∧ nxI l i c ≤ (l.length : Int) + 1 := by
  have := findB_le (l.drop i) c
  rw [List.length_drop] at this
  unfold nxI; split <;> omega
theorem nxH_bd {l m : List UInt8} {i k : Nat} (h : i ≤ l.length) : 0 ≤ nxH l m i k ∧ nxH l m i k ≤ (l.length : Int) := by
  have := findB_le (l.drop i) (m.getD k 0)
  rw [List.length_drop] at this
  unfold nxH; omega
/-- the place chosen -/
def pickB (l m : List UInt8) (i : Nat) (c : UInt8) : Int := if findB m c < m.length then (findB m c : Int) else (amK (nxG l m i) m.length).1
theorem pickB_rng {l m : List UInt8} {i : Nat} {c : UInt8} (h : i ≤ l.length) (hm : 1 ≤ m.length) : 0 ≤ pickB l m i c ∧ pickB l m i c < m.length := by
  unfold pickB
  split
  · omega
  · have := amK_rng (g := nxG l m i) (n := m.length) (fun j => (nxI_bd h).1) hm
    omega
theorem getD_at {m : List UInt8} {k : Nat} {x : UInt8} (h : m[k]? = some x) : m.getD k 0 = x := by rw [List.getD_eq_getElem?_getD, h]; rfl
/-- an empty place -/
theorem pick_empty {l m : List UInt8} {i : Nat} {c : UInt8} (h : i ≤ l.length) (h1 : findB m c = m.length) (h2 : findB m 0 < m.length) : pickB l m i c = findB m 0 := by
  have h0 : ∀ c', c' ≠ 0 → nxI l i c' ≤ l.length := by
    intro c' hc
    have := findB_le (l.drop i) c'
    rw [List.length_drop] at this
    unfold nxI; rw [if_neg hc]; omega
  have he : nxG l m i (findB m 0) = (l.length : Int) + 1 := by rw [nxG, getD_at (findB_lt h2), nxI, if_pos rfl]
  rw [pickB, if_neg (by omega), amK_at h2]
  · intro j hj
    rw [he]
    have hjl : j < m.length := by omega
    have hx : m[j]? = some m[j] := List.getElem?_eq_getElem hjl
    have := h0 m[j] (findB_before hj hx)
    rw [nxG, getD_at hx]; omega
  · intro j _ _
    rw [he]; exact (nxI_bd h).2
  · rw [he]; omega
/-- no empty place, and one that is not shown again -/
theorem pick_gone {l m : List UInt8} {i e : Nat} {c x : UInt8} (h : i ≤ l.length) (h1 : findB m c = m.length) (h2 : findB m 0 = m.length) (hx : m[e]? = some x) (hg : findB (l.drop i) x = (l.drop i).length)
    (hb : ∀ j y, j < e → m[j]? = some y → findB (l.drop i) y < (l.drop i).length) : pickB l m i c = e := by
  rw [List.length_drop] at hg hb
  have hel := (List.getElem?_eq_some_iff.1 hx).1
  have he : nxG l m i e = (l.length : Int) := by rw [nxG, getD_at hx, nxI, if_neg (findB_none h2 hx)]; omega
  have hle : ∀ j, j < m.length → nxG l m i j ≤ l.length := by
    intro j hj
    have hy : m[j]? = some m[j] := List.getElem?_eq_getElem hj
    have := findB_le (l.drop i) m[j]
    rw [List.length_drop] at this
    rw [nxG, getD_at hy, nxI, if_neg (findB_none h2 hy)]; omega
  rw [pickB, if_neg (by omega), amK_at hel]
  · intro j hj
    have hy : m[j]? = some m[j] := List.getElem?_eq_getElem (by omega)
    have := hb j m[j] hj hy
    rw [he, nxG, getD_at hy, nxI, if_neg (findB_none h2 hy)]; omega
  · intro j _ hj
    rw [he]; exact hle j hj
  · rw [he]; omega
/-- all are shown again -/
theorem pick_far {l m : List UInt8} {i : Nat} {c : UInt8} (hm : 1 ≤ m.length) (h1 : findB m c = m.length) (h2 : findB m 0 = m.length) : pickB l m i c = (amJ (nxH l m i) m.length).1 := by
  rw [pickB, if_neg (by omega)]
  refine (am_same (i := (i : Int)) (by omega) (fun j hj => ?_) (fun j => by unfold nxH; omega) hm).1
  have hy : m[j]? = some m[j] := List.getElem?_eq_getElem hj
  rw [nxG, nxH, getD_at hy, nxI, if_neg (findB_none h2 hy)]; omega

/-- the magazine and the plan after k slides -/
def bsK (l : List UInt8) (p : Nat) : Nat → List UInt8 × List Int
  | 0 => (List.replicate p 0, [])
  | k + 1 => ((bsK l p k).1.set (pickB l (bsK l p k).1 k (l.getD k 0)).toNat (l.getD k 0), (bsK l p k).2 ++ [pickB l (bsK l p k).1 k (l.getD k 0)])
theorem bsK_step {l : List UInt8} {p k : Nat} {c : UInt8} (h : l[k]? = some c) : bsK l p (k + 1) = ((bsK l p k).1.set (pickB l (bsK l p k).1 k c).toNat c, (bsK l p k).2 ++ [pickB l (bsK l p k).1 k c]) := by
  rw [bsK, getD_at h]
theorem bsK_len (l : List UInt8) (p k : Nat) : (bsK l p k).1.length = p ∧ (bsK l p k).2.length = k := by
  induction k with
  | zero => simp [bsK]
  | succ k ih => simp [bsK, ih]
theorem bsK_dist {l : List UInt8} {p k : Nat} (hk : k ≤ l.length) (hp : 1 ≤ p) : Dist (bsK l p k).1 := by
  induction k with
  | zero =>
    intro i j c h1 _ h3
    rw [bsK, List.getElem?_replicate] at h1
    split at h1
    · injection h1 with h1; exact absurd h1.symm h3
    · cases h1
  | succ k ih =>
    have hd := ih (by omega)
    have hc : l[k]? = some l[k] := List.getElem?_eq_getElem (by omega)
    have hlen := (bsK_len l p k).1
    rw [bsK_step hc]
    generalize (bsK l p k).1 = m at hd hlen ⊢
    have hr := pickB_rng (l := l) (m := m) (i := k) (c := l[k]) (by omega) (by omega)
    by_cases hf : findB m l[k] < m.length
    · have hs : m.set (pickB l m k l[k]).toNat l[k] = m := by
        rw [pickB, if_pos hf, Int.toNat_natCast]
        have h1 := findB_lt hf
        obtain ⟨h2, h3⟩ := List.getElem?_eq_some_iff.1 h1
        have h4 : m.set (findB m l[k]) (m[findB m l[k]]'h2) = m := by simp
        rw [h3] at h4
        exact h4
      simp only [hs]; exact hd
    · have hn : findB m l[k] = m.length := by have := findB_le m l[k]; omega
      intro i j c h1 h2 h3
      simp only [List.getElem?_set] at h1 h2
      split at h1 <;> split at h2
      · omega
      · split at h1
        · injection h1 with h1
          subst h1
          exact absurd rfl (findB_none hn h2)
        · cases h1
      · split at h2
        · injection h2 with h2
          subst h2
          exact absurd rfl (findB_none hn h1)
        · cases h2
      · exact hd _ _ _ h1 h2 h3
theorem bsK_rng {l : List UInt8} {p k : Nat} (hk : k ≤ l.length) (hp : 1 ≤ p) : ∀ v ∈ (bsK l p k).2, 0 ≤ v ∧ v ≤ (p : Int) - 1 := by
  induction k with
  | zero => simp [bsK]
  | succ k ih =>
    have hlen := (bsK_len l p k).1
    intro v hv
    rw [bsK] at hv
    simp only [List.mem_append, List.mem_singleton] at hv
    rcases hv with hv | hv
    · exact ih (by omega) v hv
    · have := pickB_rng (l := l) (m := (bsK l p k).1) (i := k) (c := l.getD k 0) (by omega) (by omega)
      rw [hlen] at this
      subst hv; omega
def bsPlan (l : List UInt8) (p : Nat) : List Int := (bsK l p l.length).2
theorem ldOk_nz {l : List UInt8} (h : ldOk l = true) : ∀ c ∈ l, c ≠ 0 := by
  unfold ldOk at h
  rw [Bool.and_eq_true, List.all_eq_true] at h
  intro c hc h0
  have := h.1 c hc
  subst h0
  simp [letB, inB] at this
end Go.Proofs.Ythplfodfilefjaa
