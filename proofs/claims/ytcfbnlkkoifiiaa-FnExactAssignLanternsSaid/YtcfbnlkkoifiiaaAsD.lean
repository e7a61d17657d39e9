/-
  The lanterns of slides, in plain mathematics; the search for a free lantern.
-/
import Derived.Test.YtcfbnlkkoifiiaaAsC
namespace Go.Proofs.Ytcfbnlkkoifiiaa
open Go.RowKit

def offI (xs : List (Int × Int × Int)) (i : Nat) : Int := (xs.getD i (0, 0, 0)).2.1
theorem offI_get {xs : List (Int × Int × Int)} {i : Nat} {x : Int × Int × Int} (h : xs[i]? = some x) : offI xs i = x.2.1 := by simp [offI, List.getD, h]
/-- the first lantern that is free -/
def frK (free : List Int) (v : Int) : Nat := free.findIdx fun t => decide (t ≤ v)
theorem frK_le (free : List Int) (v : Int) : frK free v ≤ free.length := List.findIdx_le_length
/-- a slide gets its lantern: the lanterns of all slides, the ends of the lanterns -/
def asF (xs : List (Int × Int × Int)) (st : List Int × List Int) (i : Nat) : List Int × List Int :=
  (st.1.set i (frK st.2 (onI xs i) : Int), (if frK st.2 (onI xs i) = st.2.length then st.2 ++ [0] else st.2).set (frK st.2 (onI xs i)) (offI xs i))
def asK (xs : List (Int × Int × Int)) (j : Nat) : List Int × List Int := ((ordL (onI xs) (List.range xs.length)).take j).foldl (asF xs) (List.replicate xs.length 0, [])
theorem asK_zero (xs : List (Int × Int × Int)) : asK xs 0 = (List.replicate xs.length 0, []) := rfl
theorem asK_step {xs : List (Int × Int × Int)} {j i : Nat} (h : (ordL (onI xs) (List.range xs.length))[j]? = some i) : asK xs (j + 1) = asF xs (asK xs j) i := foldl_step _ _ h
theorem asF_len1 (xs : List (Int × Int × Int)) (st : List Int × List Int) (i : Nat) : (asF xs st i).1.length = st.1.length := by simp [asF]
theorem asF_len2 (xs : List (Int × Int × Int)) (st : List Int × List Int) (i : Nat) : (asF xs st i).2.length ≤ st.2.length + 1 := by
  simp only [asF]; split <;> simp
theorem asFold_len (xs : List (Int × Int × Int)) : ∀ (l : List Nat) (st : List Int × List Int), (l.foldl (asF xs) st).1.length = st.1.length ∧ (l.foldl (asF xs) st).2.length ≤ st.2.length + l.length
  | [], _ => ⟨rfl, Nat.le_refl _⟩
  | i :: l, st => by
    have h := asFold_len xs l (asF xs st i)
    have h1 := asF_len1 xs st i
    have h2 := asF_len2 xs st i
    rw [List.foldl_cons, List.length_cons]; omega
theorem asK_len1 (xs : List (Int × Int × Int)) (j : Nat) : (asK xs j).1.length = xs.length := by
  rw [asK, (asFold_len xs _ _).1]; simp
theorem asK_len2 (xs : List (Int × Int × Int)) (j : Nat) : (asK xs j).2.length ≤ j := by
  have := (asFold_len xs ((ordL (onI xs) (List.range xs.length)).take j) (List.replicate xs.length 0, [])).2
  rw [List.length_take] at this
  simp only [List.length_nil] at this
  rw [asK]; omega
def alCode (xs : List (Int × Int × Int)) : Int := if shOk xs then 0 else 1
def alVal (xs : List (Int × Int × Int)) : List Int := if shOk xs then (asK xs xs.length).1 else []
theorem alVal_len (xs : List (Int × Int × Int)) : (alVal xs).length ≤ 1048577 := by
  rw [alVal]; split
  · next h => rw [asK_len1]; have := (shOk_iff.1 h).len; omega
  · simp
/-- the members of an order are of the list -/
theorem insE_mem {α : Type} {f : α → Int} {l : List α} {x y : α} (h : y ∈ insE f l x) : y = x ∨ y ∈ l := by
  simp only [insE, List.append_assoc, List.mem_append, List.mem_singleton] at h
  rcases h with h | h | h
  · exact .inr (List.mem_of_mem_take h)
  · exact .inl h
  · exact .inr (List.mem_of_mem_drop h)
theorem ordL_mem {α : Type} {f : α → Int} : ∀ {l : List α} {y : α}, y ∈ ordL f l → y ∈ l := by
  have : ∀ (l m : List α) (y : α), y ∈ l.foldl (insE f) m → y ∈ m ∨ y ∈ l := by
    intro l
    induction l with
    | nil => intro m y h; exact .inl h
    | cons x l ih =>
      intro m y h
      rcases ih _ _ h with h | h
      · rcases insE_mem h with rfl | h
        · exact .inr (by simp)
        · exact .inl h
      · exact .inr (by simp [h])
  intro l y h
  rcases this l [] y h with h | h
  · cases h
  · exact h
theorem AssignLanterns2_any (L : Option Addr) (n c p1 p9 : Nat) (xs : List (Int × Int × Int)) (i : Nat) (hi : i < n) (t : Int) (w : World) (c1 : w.cell? ⟨p1, 0, none⟩ = some (.slice L n c)) (c9 : w.cell? ⟨p9, 0, none⟩ = some (.int .i64 i)) (hL : Sl w 3 e3 L n xs) :
    Calls Try.prog 23 #[.int .i64 t, .pointer (some ⟨p1, 0, none⟩), .pointer (some ⟨p9, 0, none⟩)] w fun e w' => e = .returned (.bool (decide (t ≤ onI xs i))) ∧ w' = w := by
  obtain ⟨bl, off, x, rfl, hx, hmx, d0, _, _⟩ := hL.at3 hi
  have HX : Hid (onI xs i = x.1) := onI_get hx
  have g1 : (0 : Int) ≤ (i : Int) := by omega
  have g2 : (i : Int) < (n : Int) := by omega
  clear hx
  go_enter Try.func23, Try.ntmps23
  go_wp2_with fail
  go_ret
  exact ⟨ret_bool (by rw [HX.out]), rfl⟩
theorem IndexFuncI_any (L : Option Addr) (n c p1 p9 : Nat) (xs : List (Int × Int × Int)) (i : Nat) (hi : i < n) (A : Option Addr) (m d : Nat) (fr : List Int) (w : World) (c1 : w.cell? ⟨p1, 0, none⟩ = some (.slice L n c)) (c9 : w.cell? ⟨p9, 0, none⟩ = some (.int .i64 i)) (hL : Sl w 3 e3 L n xs) (h : Sl w 1 e1 A m fr) (hm : m ≤ 12) :
    Calls Try.prog 22 #[.slice A m d, .func (.func 23) #[] #[.pointer (some ⟨p1, 0, none⟩), .pointer (some ⟨p9, 0, none⟩)]] w fun e w' => e = .returned (.int .i64 (idxI (fun t => decide (t ≤ onI xs i)) fr)) ∧ w' = w := by
  go_enter Try.func22, Try.ntmps22
  go_wp2
  go_loopw [8] (fun v wr => ∃ k : Nat, k ≤ m ∧ v = .int .i64 k ∧ Hid ((fr.take k).any (fun t => decide (t ≤ onI xs i)) = false) ∧ wr = w) (fun v _ => m - (intOf v).toNat)
  case atStart => exact ⟨0, by omega, rfl, by simp [Hid], rfl⟩
  case round =>
    obtain ⟨k, hk, rfl, he, rfl⟩ := hrel
    by_cases hlt : k < m
    · obtain ⟨b, off, x, rfl, hx, hmx, d0⟩ := h.at1 hlt
      have HX := Lib.hid hx
      clear hx
      cases hq : decide (x ≤ onI xs i)
      · have HQ := Lib.hid hq
        go_wp2_with (go_at_call 23; refine (AssignLanterns2_any L n c p1 p9 xs i hi x _ c1 c9 hL).mono ?_; rintro e w2 ⟨rfl, rfl⟩)
        go_roundw
        case rel => exact ⟨k + 1, by omega, by go_num, by rw [Hid, any_step _ HX.out, he.out, HQ.out]; rfl, trivial⟩
        case measure => simp [intOf]; omega
      · have HQ := Lib.hid hq
        go_wp2_with (go_at_call 23; refine (AssignLanterns2_any L n c p1 p9 xs i hi x _ c1 c9 hL).mono ?_; rintro e w2 ⟨rfl, rfl⟩)
        go_ret
        exact ⟨ret_int (by rw [idxI_hit he.out HX.out HQ.out]), rfl⟩
    · go_wp2
      go_ret
      obtain rfl : k = m := by omega
      exact ⟨ret_int (by rw [idxI_miss (by rw [← take_all h.1]; exact he.out)]), rfl⟩

end Go.Proofs.Ytcfbnlkkoifiiaa
