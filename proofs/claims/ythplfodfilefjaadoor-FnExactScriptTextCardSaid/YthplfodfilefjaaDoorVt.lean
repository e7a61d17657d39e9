/-
  Scripts: what follows from validity; for how many ticks a slide is shown.
-/
import Derived.Test.YthplfodfilefjaaDoorVs
import Derived.Test.YthplfodfilefjaaDoorMath
namespace Go.Proofs.YthplfodfilefjaaDoor
set_option maxRecDepth 100000

theorem acCode_zero {ss : List ByteArray} {xs : List AX} {a : AX} (h : acCode ss xs a = 0) : wdB a = true ∧ hasB ss a.2.2.1 = true ∧ nuB a = true ∧ gtLast xs a.1 = false ∧ shB a ≠ isSh xs a.2.2.1 ∧ xs.length < 60 := by
  unfold acCode at h
  split at h; · cases h
  rename_i h1
  split at h; · cases h
  rename_i h2
  split at h; · cases h
  rename_i h3
  split at h; · cases h
  rename_i h4
  split at h; · cases h
  rename_i h5
  split at h; · cases h
  rename_i h6
  exact ⟨by simpa using h1, by simpa using h2, by simpa using h3, by simpa using h4, h5, by omega⟩
theorem slCode_zero {ss : List ByteArray} {s : ByteArray} (h : slCode ss s = 0) : nmOk s = true ∧ hasB ss s = false ∧ ss.length < 60 := by
  unfold slCode at h
  split at h; · cases h
  rename_i h1
  split at h; · cases h
  rename_i h2
  split at h; · cases h
  rename_i h3
  exact ⟨by simpa using h1, by simpa using h2, by omega⟩
theorem okAc_len {ss : List ByteArray} {xs : List AX} (h : okAc ss xs) : xs.length ≤ 60 := by
  rcases Nat.lt_or_ge 60 xs.length with h1 | h1
  · have h2 := acCode_zero (h 60 xs[60] (List.getElem?_eq_getElem h1))
    have h3 := h2.2.2.2.2.2
    rw [List.length_take] at h3; omega
  · exact h1
theorem okSl_len {ss : List ByteArray} (h : okSl ss) : ss.length ≤ 60 := by
  rcases Nat.lt_or_ge 60 ss.length with h1 | h1
  · have h2 := slCode_zero (h 60 ss[60] (List.getElem?_eq_getElem h1))
    have h3 := h2.2.2
    rw [List.length_take] at h3; omega
  · exact h1
theorem nuB_tick {a : AX} (h : nuB a = true) : 0 ≤ a.1 ∧ a.1 ≤ 10000 := by
  rw [nuB, decide_eq_true_iff] at h; exact ⟨h.1, h.2.1⟩
theorem okAc_tick {ss : List ByteArray} {xs : List AX} (h : okAc ss xs) {k : Nat} {a : AX} (hx : xs[k]? = some a) : 0 ≤ a.1 ∧ a.1 ≤ 10000 := nuB_tick (acCode_zero (h k a hx)).2.2.1

/-- sum and since, as the reference counts; as the program counts -/
noncomputable def tkF (s : ByteArray) (st : Int × Int) (x : AX) : Int × Int := open Classical in if x.2.2.1 = s then (if shB x = true then (st.1, x.1) else if hdB x = true then (st.1 + (x.1 - st.2), -1) else st) else st
noncomputable def tkG (s : ByteArray) (st : Int × Int) (x : AX) : Int × Int := open Classical in if x.2.2.1 = s then (if shB x = true then (st.1, x.1) else if hdB x = true then (st.1 + (x.1 - st.2), st.2) else st) else st
noncomputable def tkFs (s : ByteArray) (xs : List AX) : Int × Int := xs.foldl (tkF s) (0, -1)
noncomputable def tkGs (s : ByteArray) (xs : List AX) : Int × Int := xs.foldl (tkG s) (0, 0)
theorem tkFs_step {xs : List AX} {k : Nat} {x : AX} (hx : xs[k]? = some x) (s : ByteArray) : tkFs s (xs.take (k + 1)) = tkF s (tkFs s (xs.take k)) x := by
  rw [tkFs, take_snoc hx, List.foldl_append]; rfl
theorem tkGs_step {xs : List AX} {k : Nat} {x : AX} (hx : xs[k]? = some x) (s : ByteArray) : tkGs s (xs.take (k + 1)) = tkG s (tkGs s (xs.take k)) x := by
  rw [tkGs, take_snoc hx, List.foldl_append]; rfl
theorem tkF_other {s : ByteArray} {st : Int × Int} {x : AX} (h : x.2.2.1 ≠ s) : tkF s st x = st := by rw [tkF, if_neg h]
theorem tkF_show {s : ByteArray} {st : Int × Int} {x : AX} (h : x.2.2.1 = s) (h2 : shB x = true) : tkF s st x = (st.1, x.1) := by rw [tkF, if_pos h, if_pos h2]
theorem tkF_hide {s : ByteArray} {st : Int × Int} {x : AX} (h : x.2.2.1 = s) (h2 : shB x = false) (h3 : hdB x = true) : tkF s st x = (st.1 + (x.1 - st.2), -1) := by rw [tkF, if_pos h, if_neg (by rw [h2]; decide), if_pos h3]
theorem tkF_turn {s : ByteArray} {st : Int × Int} {x : AX} (h : x.2.2.1 = s) (h2 : shB x = false) (h3 : hdB x = false) : tkF s st x = st := by rw [tkF, if_pos h, if_neg (by rw [h2]; decide), if_neg (by rw [h3]; decide)]
theorem tkG_other {s : ByteArray} {st : Int × Int} {x : AX} (h : x.2.2.1 ≠ s) : tkG s st x = st := by rw [tkG, if_neg h]
theorem tkG_show {s : ByteArray} {st : Int × Int} {x : AX} (h : x.2.2.1 = s) (h2 : shB x = true) : tkG s st x = (st.1, x.1) := by rw [tkG, if_pos h, if_pos h2]
theorem tkG_hide {s : ByteArray} {st : Int × Int} {x : AX} (h : x.2.2.1 = s) (h2 : shB x = false) (h3 : hdB x = true) : tkG s st x = (st.1 + (x.1 - st.2), st.2) := by rw [tkG, if_pos h, if_neg (by rw [h2]; decide), if_pos h3]
theorem tkG_turn {s : ByteArray} {st : Int × Int} {x : AX} (h : x.2.2.1 = s) (h2 : shB x = false) (h3 : hdB x = false) : tkG s st x = st := by rw [tkG, if_pos h, if_neg (by rw [h2]; decide), if_neg (by rw [h3]; decide)]
theorem wd_three {a : AX} (h : wdB a = true) : shB a = true ∧ hdB a = false ∧ tuB a = false ∨ shB a = false ∧ hdB a = true ∧ tuB a = false ∨ shB a = false ∧ hdB a = false ∧ tuB a = true := by
  simp only [wdB, shB, hdB, tuB, Bool.or_eq_true] at h ⊢
  rcases h with (h | h) | h
  all_goals
    rw [beq_iff_eq] at h
    rw [h]; decide
/-- bounds of what is counted -/
theorem tk_bd {ss : List ByteArray} {xs : List AX} (h : okAc ss xs) (s : ByteArray) : ∀ k : Nat, k ≤ xs.length →
    (-(10001 * (k : Int)) ≤ (tkFs s (xs.take k)).1 ∧ (tkFs s (xs.take k)).1 ≤ 10001 * k ∧ -1 ≤ (tkFs s (xs.take k)).2 ∧ (tkFs s (xs.take k)).2 ≤ 10000) ∧
    (-(10001 * (k : Int)) ≤ (tkGs s (xs.take k)).1 ∧ (tkGs s (xs.take k)).1 ≤ 10001 * k ∧ 0 ≤ (tkGs s (xs.take k)).2 ∧ (tkGs s (xs.take k)).2 ≤ 10000) := by
  intro k
  induction k with
  | zero => intro _; simp [tkFs, tkGs]
  | succ k ih =>
    intro hk
    have ih := ih (by omega)
    have hx : xs[k]? = some xs[k] := List.getElem?_eq_getElem (by omega)
    have ht := okAc_tick h hx
    rw [tkFs_step hx, tkGs_step hx]
    generalize xs[k] = x at hx ht
    generalize tkFs s (xs.take k) = p at ih
    generalize tkGs s (xs.take k) = q at ih
    refine ⟨?_, ?_⟩
    · unfold tkF; split
      · split
        · simp only; omega
        · split
          · simp only; omega
          · omega
      · omega
    · unfold tkG; split
      · split
        · simp only; omega
        · split
          · simp only; omega
          · omega
      · omega
/-- the two counts agree -/
theorem tk_same {ss : List ByteArray} {xs : List AX} (h : okAc ss xs) (s : ByteArray) : ∀ k : Nat, k ≤ xs.length →
    (tkFs s (xs.take k)).1 = (tkGs s (xs.take k)).1 ∧ (isSh (xs.take k) s = true → (tkFs s (xs.take k)).2 = (tkGs s (xs.take k)).2 ∧ 0 ≤ (tkFs s (xs.take k)).2) ∧ (isSh (xs.take k) s = false → (tkFs s (xs.take k)).2 = -1) := by
  intro k
  induction k with
  | zero => intro _; simp [tkFs, tkGs, isSh]
  | succ k ih =>
    intro hk
    obtain ⟨i1, i2, i3⟩ := ih (by omega)
    have hx : xs[k]? = some xs[k] := List.getElem?_eq_getElem (by omega)
    have hc := acCode_zero (h k _ hx)
    have ht := okAc_tick h hx
    rw [tkFs_step hx, tkGs_step hx, isSh_step hx]
    generalize xs[k] = x at hx ht hc
    by_cases hs : x.2.2.1 = s
    · rcases wd_three hc.1 with ⟨a, b, c⟩ | ⟨a, b, c⟩ | ⟨a, b, c⟩
      · rw [tkF_show hs a, tkG_show hs a, isStep_yes hs c, a]
        exact ⟨i1, fun _ => ⟨rfl, ht.1⟩, fun e => by cases e⟩
      · rw [tkF_hide hs a b, tkG_hide hs a b, isStep_yes hs c, a]
        have hsh : isSh (xs.take k) s = true := by
          have := hc.2.2.2.2.1
          rw [a, hs] at this
          cases q : isSh (xs.take k) s
          · exact absurd q.symm this
          · rfl
        obtain ⟨j1, j2⟩ := i2 hsh
        exact ⟨(by simp only; rw [i1, j1]), (fun e => by cases e), fun _ => rfl⟩
      · rw [tkF_turn hs a b, tkG_turn hs a b, isStep_no (.inr c)]
        exact ⟨i1, i2, i3⟩
    · rw [tkF_other hs, tkG_other hs, isStep_no (.inl hs)]
      exact ⟨i1, i2, i3⟩

/-- code and value of TicksShown -/
noncomputable def tkCode (ss : List ByteArray) (xs : List AX) (s : ByteArray) : Int := if vScr ss xs = false then 1 else if hasB ss s = false then 3 else if isSh xs s = true then 6 else 0
noncomputable def tkVal (ss : List ByteArray) (xs : List AX) (s : ByteArray) : Int := if tkCode ss xs s = 0 then (tkFs s xs).1 else 0
theorem tk_end {ss : List ByteArray} {xs : List AX} (h : okAc ss xs) (s : ByteArray) : (tkFs s xs).1 = (tkGs s xs).1 ∧ (isSh xs s = true → 0 ≤ (tkFs s xs).2) ∧ (isSh xs s = false → (tkFs s xs).2 = -1) := by
  have := tk_same h s xs.length (Nat.le_refl _)
  rw [List.take_length] at this
  exact ⟨this.1, fun e => (this.2.1 e).2, this.2.2⟩
end Go.Proofs.YthplfodfilefjaaDoor
