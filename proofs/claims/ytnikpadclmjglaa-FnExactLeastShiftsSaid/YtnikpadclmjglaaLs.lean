/-
  All shifts of cues, in plain mathematics: the least hands, the least shifts.
-/
import Derived.Test.YtnikpadclmjglaaCu
namespace Go.Proofs.Ytnikpadclmjglaa
set_option maxRecDepth 100000

/-- a cue after a shift; cues after shifts -/
def shG (x : Cu) (b : Int) : Cu := (x.1 + b, x.2.1, x.2.2.1, x.2.2.2 - b)
/-- all shifts, in order -/
def allS : List Cu → List (List Int)
  | [] => [[]]
  | x :: xs => (List.range (x.2.2.2.toNat + 1)).flatMap fun b : Nat => (allS xs).map fun s => ((b : Int) :: s)
/-- those whose first shift is less than b -/
def allP (xs : List Cu) (b : Nat) : List (List Int) := (List.range b).flatMap fun b : Nat => (allS xs).map fun s => ((b : Int) :: s)
theorem allS_cons (x : Cu) (xs : List Cu) : allS (x :: xs) = allP xs (x.2.2.2.toNat + 1) := rfl
theorem allP_zero (xs : List Cu) : allP xs 0 = [] := rfl
theorem allP_succ (xs : List Cu) (b : Nat) : allP xs (b + 1) = allP xs b ++ (allS xs).map fun s => ((b : Int) :: s) := by
  rw [allP, List.range_succ, List.flatMap_append]; simp [allP]
/-- a fold over all shifts behind done ones -/
def foldS {σ : Type} (step : σ → List Int → σ) (done : List Int) (l : List (List Int)) (st : σ) : σ := l.foldl (fun st s => step st (done ++ s)) st
theorem foldS_nil {σ : Type} (step : σ → List Int → σ) (done : List Int) (st : σ) : foldS step done [] st = st := rfl
theorem foldS_leaf {σ : Type} (step : σ → List Int → σ) (done : List Int) (st : σ) : foldS step done (allS []) st = step st done := by
  simp [foldS, allS]
theorem foldS_succ {σ : Type} (step : σ → List Int → σ) (done : List Int) (xs : List Cu) (b : Nat) (st : σ) :
    foldS step done (allP xs (b + 1)) st = foldS step (done ++ [(b : Int)]) (allS xs) (foldS step done (allP xs b) st) := by
  rw [allP_succ, foldS, List.foldl_append, List.foldl_map]
  simp [foldS]
/-- the members of all shifts fit the cues -/
theorem allS_len : ∀ {xs : List Cu} {s : List Int}, s ∈ allS xs → s.length = xs.length
  | [], s, h => by simp [allS] at h; subst h; rfl
  | x :: xs, s, h => by
    simp only [allS, List.mem_flatMap, List.mem_map] at h
    obtain ⟨b, _, s', hs', rfl⟩ := h
    simp [allS_len hs']
theorem allS_nonneg : ∀ {xs : List Cu} {s : List Int}, s ∈ allS xs → ∀ b ∈ s, 0 ≤ b
  | [], s, h, b, hb => by simp [allS] at h; subst h; cases hb
  | x :: xs, s, h, b, hb => by
    simp only [allS, List.mem_flatMap, List.mem_map] at h
    obtain ⟨c, _, s', hs', rfl⟩ := h
    rcases List.mem_cons.1 hb with rfl | hb
    · omega
    · exact allS_nonneg hs' b hb
def sumL (s : List Int) : Int := s.foldl (· + ·) 0
theorem foldl_add (s : List Int) (a : Int) : s.foldl (· + ·) a = a + s.foldl (· + ·) 0 := by
  induction s generalizing a with
  | nil => simp
  | cons x s ih => rw [List.foldl_cons, List.foldl_cons, ih, ih (0 + x)]; omega
theorem sumL_append (s t : List Int) : sumL (s ++ t) = sumL s + sumL t := by
  rw [sumL, List.foldl_append, foldl_add]; rfl
theorem sumL_snoc (s : List Int) (b : Int) : sumL (s ++ [b]) = sumL s + b := by rw [sumL_append]; simp [sumL]
theorem sumL_nonneg {s : List Int} (h : ∀ b ∈ s, 0 ≤ b) : 0 ≤ sumL s := by
  induction s with
  | nil => simp [sumL]
  | cons x s ih =>
    have h1 := h x (by simp)
    have h2 := ih fun b hb => h b (by simp [hb])
    have : sumL (x :: s) = x + sumL s := by rw [sumL, List.foldl_cons, foldl_add]; simp [sumL]
    omega
/-- cues after shifts -/
def zS (xs : List Cu) (ss : List Int) : List Cu := List.zipWith shG xs ss
theorem zS_append (xs ys : List Cu) (s t : List Int) (h : xs.length = s.length) : zS (xs ++ ys) (s ++ t) = zS xs s ++ zS ys t := List.zipWith_append h
/-- the hands of more cues are more -/
theorem hands_mono {xs ys : List Cu} (h : ∀ x ∈ ys, 0 ≤ x.2.2.1) (t : Int) : hands xs t ≤ hands (xs ++ ys) t := by
  unfold hands
  rw [sumI_app]
  have := sumI_ge (hF t) 0 ys (fun x hx => by have := h x hx; unfold hF; split <;> omega)
  omega
theorem most_cons (xs : List Cu) : most xs = (xs.map fun x => hands xs x.1).foldl max 0 := by
  unfold most mostK; rw [List.take_of_length_le (Nat.le_refl _)]
theorem foldl_max_le {l : List Int} {a m : Int} (ha : a ≤ m) (h : ∀ x ∈ l, x ≤ m) : l.foldl max a ≤ m := by
  induction l generalizing a with
  | nil => exact ha
  | cons x l ih => exact ih (Int.max_le.2 ⟨ha, h x (by simp)⟩) fun y hy => h y (by simp [hy])
theorem foldl_max_ge {l : List Int} (a : Int) : a ≤ l.foldl max a := by
  induction l generalizing a with
  | nil => exact Int.le_refl _
  | cons x l ih => exact Int.le_trans (Int.le_max_left a x) (ih _)
theorem foldl_max_mem {l : List Int} {x : Int} (a : Int) (h : x ∈ l) : x ≤ l.foldl max a := by
  induction l generalizing a with
  | nil => cases h
  | cons y l ih =>
    rcases List.mem_cons.1 h with rfl | h
    · exact Int.le_trans (Int.le_max_right a x) (foldl_max_ge _)
    · exact ih _ h
theorem most_mono {xs ys : List Cu} (h : ∀ x ∈ ys, 0 ≤ x.2.2.1) : most xs ≤ most (xs ++ ys) := by
  rw [most_cons, most_cons]
  refine foldl_max_le (foldl_max_ge _) fun v hv => ?_
  obtain ⟨x, hx, rfl⟩ := List.mem_map.1 hv
  exact Int.le_trans (hands_mono h _) (foldl_max_mem 0 (List.mem_map.2 ⟨x, by simp [hx], rfl⟩))
theorem zS_hands {xs : List Cu} (ok : CuOk xs) (ss : List Int) : ∀ x ∈ zS xs ss, 0 ≤ x.2.2.1 := by
  intro x hx
  obtain ⟨i, hi, rfl⟩ := List.getElem_of_mem hx
  simp only [zS, List.getElem_zipWith, shG]
  have := ok.one (xs[i]'(by simp [zS] at hi; omega)) (List.getElem_mem _)
  omega
/-- shifted cues, in bounds -/
structure ShB (xs : List Cu) (ss : List Int) : Prop where
  len : ss.length ≤ xs.length
  one : ∀ (i : Nat) x s, xs[i]? = some x → ss[i]? = some s → 0 ≤ s ∧ s ≤ x.2.2.2
theorem ShB.nil (xs : List Cu) : ShB xs [] := ⟨by simp, fun i x s _ h => by simp at h⟩
theorem ShB.snoc {xs : List Cu} {ss : List Int} {x : Cu} {b : Int} (h : ShB xs ss) (hx : xs[ss.length]? = some x) (h0 : 0 ≤ b) (h1 : b ≤ x.2.2.2) : ShB xs (ss ++ [b]) := by
  have hl := (List.getElem?_eq_some_iff.1 hx).1
  refine ⟨by simp; omega, fun i y s hy hs => ?_⟩
  rcases Nat.lt_trichotomy i ss.length with hi | rfl | hi
  · rw [List.getElem?_append_left hi] at hs; exact h.one i y s hy hs
  · rw [List.getElem?_append_right (Nat.le_refl _), Nat.sub_self] at hs
    rw [hx] at hy; cases hy; simp at hs; subst hs; exact ⟨h0, h1⟩
  · rw [List.getElem?_eq_none (by simp; omega)] at hs; cases hs
theorem ShB.bd {xs : List Cu} {ss : List Int} (ok : CuOk xs) (h : ShB xs ss) : ∀ s ∈ ss, 0 ≤ s ∧ s ≤ 6 := by
  intro s hs
  obtain ⟨i, hi, rfl⟩ := List.getElem_of_mem hs
  have hl := h.len
  have h1 := h.one i (xs[i]'(by omega)) ss[i] (List.getElem?_eq_getElem _) (List.getElem?_eq_getElem _)
  have h2 := ok.one (xs[i]'(by omega)) (List.getElem_mem _)
  omega
theorem sumL_le {s : List Int} (h : ∀ b ∈ s, 0 ≤ b ∧ b ≤ 6) : 0 ≤ sumL s ∧ sumL s ≤ 6 * s.length := by
  induction s with
  | nil => simp [sumL]
  | cons x s ih =>
    have h1 := h x (by simp)
    have h2 := ih fun b hb => h b (by simp [hb])
    have : sumL (x :: s) = x + sumL s := by rw [sumL, List.foldl_cons, foldl_add]; simp [sumL]
    simp only [List.length_cons]; omega
theorem zS_w {xs : List Cu} (ok : CuOk xs) {ss : List Int} (h : ShB xs ss) : CuW (zS xs ss) := by
  refine ⟨?_, fun x hx => ?_⟩
  · have := ok.len
    have : (zS xs ss).length ≤ xs.length := by simp [zS]; omega
    omega
  · obtain ⟨i, hi, rfl⟩ := List.getElem_of_mem hx
    have hi' : i < xs.length ∧ i < ss.length := by simp [zS] at hi; omega
    simp only [zS, List.getElem_zipWith, shG]
    have h1 := ok.one xs[i] (List.getElem_mem _)
    have h2 := h.one i xs[i] ss[i] (List.getElem?_eq_getElem _) (List.getElem?_eq_getElem _)
    omega
/-- the first least shifts -/
def lsStep (xs : List Cu) (h : Int) (st : List Int × Int) (s : List Int) : List Int × Int := if (st.2 < 0 ∨ sumL s < st.2) ∧ most (zS xs s) ≤ h then (s, sumL s) else st
def lsAll (xs : List Cu) (h : Int) : List Int × Int := foldS (lsStep xs h) [] (allS xs) ([], -1)
def hsStep (xs : List Cu) (l : Int) (s : List Int) : Int := min l (most (zS xs s))
def hsAll (xs : List Cu) : Int := foldS (hsStep xs) [] (allS xs) (most xs)
theorem foldS_same {σ : Type} {step : σ → List Int → σ} {done : List Int} {st : σ} : ∀ {l : List (List Int)}, (∀ s ∈ l, step st (done ++ s) = st) → foldS step done l st = st
  | [], _ => rfl
  | s :: l, h => by
    show foldS step done l (step st (done ++ s)) = st
    rw [h s (by simp)]
    exact foldS_same fun t ht => h t (by simp [ht])
/-- what the reference leaves out changes nothing -/
theorem ls_prune {xs : List Cu} (ok : CuOk xs) {done : List Int} (hd : done.length ≤ xs.length) {st : List Int × Int} {h : Int} (hp : (0 ≤ st.2 ∧ st.2 ≤ sumL done) ∨ h < most (zS (xs.take done.length) done)) :
    foldS (lsStep xs h) done (allS (xs.drop done.length)) st = st := by
  refine foldS_same fun s hs => ?_
  rw [lsStep, if_neg]
  rintro ⟨h1, h2⟩
  rcases hp with ⟨a, b⟩ | a
  · have := sumL_nonneg (allS_nonneg hs)
    rw [sumL_append] at h1; omega
  · have e : zS xs (done ++ s) = zS (xs.take done.length) done ++ zS (xs.drop done.length) s := by
      conv => lhs; rw [← List.take_append_drop done.length xs]
      exact zS_append _ _ _ _ (by simp; omega)
    have hm := most_mono (xs := zS (xs.take done.length) done) (ys := zS (xs.drop done.length) s) (zS_hands ⟨by have := ok.len; simp; omega, fun x hx => ok.one x (List.mem_of_mem_drop hx)⟩ s)
    rw [← e] at hm; omega
/-- whether some shifts need no more hands -/
theorem ls_found {xs : List Cu} {h : Int} : ∀ (l : List (List Int)) (st : List Int × Int), (∀ s ∈ l, 0 ≤ sumL s) → ((0 ≤ (foldS (lsStep xs h) [] l st).2) ↔ (0 ≤ st.2 ∨ ∃ s ∈ l, most (zS xs s) ≤ h))
  | [], st, _ => by simp [foldS]
  | s :: l, st, hn => by
    show (0 ≤ (foldS (lsStep xs h) [] l (lsStep xs h st ([] ++ s))).2) ↔ _
    rw [ls_found l _ fun t ht => hn t (by simp [ht]), List.nil_append]
    have h0 := hn s (by simp)
    by_cases hc : (st.2 < 0 ∨ sumL s < st.2) ∧ most (zS xs s) ≤ h
    · rw [lsStep, if_pos hc]
      exact ⟨fun _ => .inr ⟨s, by simp, hc.2⟩, fun _ => .inl h0⟩
    · rw [lsStep, if_neg hc]
      constructor
      · rintro (a | ⟨t, ht, a⟩)
        · exact .inl a
        · exact .inr ⟨t, by simp [ht], a⟩
      · rintro (a | ⟨t, ht, a⟩)
        · exact .inl a
        · rcases List.mem_cons.1 ht with rfl | ht
          · rcases Int.lt_or_le st.2 0 with b | b
            · exact absurd ⟨.inl b, a⟩ hc
            · exact .inl b
          · exact .inr ⟨t, ht, a⟩
theorem ls_iff {xs : List Cu} {h : Int} : 0 ≤ (lsAll xs h).2 ↔ ∃ s ∈ allS xs, most (zS xs s) ≤ h := by
  rw [lsAll, ls_found _ _ fun s hs => sumL_nonneg (allS_nonneg hs)]
  simp
theorem hs_le {xs : List Cu} : ∀ (l : List (List Int)) (m h : Int), (foldS (hsStep xs) [] l m ≤ h) ↔ (m ≤ h ∨ ∃ s ∈ l, most (zS xs s) ≤ h)
  | [], m, h => by simp [foldS]
  | s :: l, m, h => by
    show (foldS (hsStep xs) [] l (hsStep xs m ([] ++ s)) ≤ h) ↔ _
    have e : min m (most (zS xs s)) ≤ h ↔ m ≤ h ∨ most (zS xs s) ≤ h := by omega
    rw [hs_le l, List.nil_append, hsStep, e]
    simp only [List.mem_cons, exists_eq_or_imp, or_assoc]
theorem zS_zero : ∀ (xs : List Cu), zS xs (xs.map fun _ => (0 : Int)) = xs
  | [] => rfl
  | x :: xs => by
    show shG x 0 :: zS xs _ = _
    rw [zS_zero xs]; simp [shG]
theorem zero_mem : ∀ {xs : List Cu}, (xs.map fun _ => (0 : Int)) ∈ allS xs
  | [] => by simp [allS]
  | x :: xs => by
    simp only [allS, List.mem_flatMap, List.mem_map]
    exact ⟨0, by simp, _, zero_mem, rfl⟩
/-- the least hands are the first with which shifts are found -/
theorem hs_iff {xs : List Cu} {h : Int} : hsAll xs ≤ h ↔ 0 ≤ (lsAll xs h).2 := by
  rw [ls_iff, hsAll, hs_le]
  constructor
  · rintro (a | a)
    · exact ⟨_, zero_mem, by rw [zS_zero]; exact a⟩
    · exact a
  · exact .inr
theorem hsAll_bd {xs : List Cu} (ok : CuOk xs) : 0 ≤ hsAll xs ∧ hsAll xs ≤ 24 := by
  have hb := ok.w.mostK_bd xs.length
  refine ⟨?_, hs_le _ _ _ |>.2 (.inl hb.2)⟩
  rcases Int.lt_or_le (hsAll xs) 0 with h | h
  · have : hsAll xs ≤ -1 := by omega
    rw [hsAll, hs_le] at this
    rcases this with a | ⟨s, _, a⟩
    · have : 0 ≤ most xs := hb.1
      omega
    · rw [most_cons] at a
      have := foldl_max_ge (l := (zS xs s).map fun x => hands (zS xs s) x.1) 0
      omega
  · exact h
end Go.Proofs.Ytnikpadclmjglaa
