/-
  Scripts: what is shown at a tick; what is never shown; later scripts: the plain law.
-/
import Derived.Test.YtccddejbbdciiaaVt
namespace Go.Proofs.Ytccddejbbdciiaa

/-- how many acts ahead are at a tick or earlier -/
def cutN (xs : List AX) (t : Int) : Nat := (xs.takeWhile fun x => decide (x.1 ≤ t)).length
theorem cutN_eq {t : Int} : ∀ {xs : List AX} {k : Nat}, k ≤ xs.length → (∀ (i : Nat) x, i < k → xs[i]? = some x → x.1 ≤ t) → (k = xs.length ∨ ∃ x, xs[k]? = some x ∧ t < x.1) → cutN xs t = k
  | [], k, hk, _, _ => by simp at hk; subst hk; rfl
  | y :: ys, 0, _, _, h => by
    rcases h with h | ⟨x, hx, hlt⟩
    · simp at h
    · simp at hx; subst hx
      have : ¬ y.1 ≤ t := by omega
      simp [cutN, this]
  | y :: ys, k + 1, hk, ha, h => by
    have h0 : y.1 ≤ t := ha 0 y (by omega) rfl
    have := cutN_eq (xs := ys) (k := k) (by simpa using hk) (fun i x hi hx => ha (i + 1) x (by omega) (by simpa using hx)) (by
      rcases h with h | ⟨x, hx, hlt⟩
      · exact .inl (by simpa using h)
      · exact .inr ⟨x, by simpa using hx, hlt⟩)
    unfold cutN at this ⊢
    simp [h0, this]
theorem filter_step {α : Type} {xs : List α} {k : Nat} {x : α} (p : α → Bool) (hx : xs[k]? = some x) : (xs.take (k + 1)).filter p = (xs.take k).filter p ++ (if p x = true then [x] else []) := by
  rw [take_snoc hx, List.filter_append]
  congr 1
  cases h : p x <;> simp [h]
theorem filter_yes {α : Type} {xs : List α} {k : Nat} {x : α} {p : α → Bool} (hx : xs[k]? = some x) (h : p x = true) : (xs.take (k + 1)).filter p = (xs.take k).filter p ++ [x] := by rw [filter_step p hx, if_pos h]
theorem filter_no {α : Type} {xs : List α} {k : Nat} {x : α} {p : α → Bool} (hx : xs[k]? = some x) (h : p x = false) : (xs.take (k + 1)).filter p = (xs.take k).filter p := by rw [filter_step p hx, if_neg (by rw [h]; decide), List.append_nil]
theorem filter_len {α : Type} (xs : List α) (k : Nat) (p : α → Bool) : ((xs.take k).filter p).length ≤ k := by
  have := List.length_filter_le p (xs.take k)
  rw [List.length_take] at this; omega
noncomputable def saP (xs : List AX) (t : Int) (s : ByteArray) : Bool := isSh (xs.take (cutN xs t)) s
noncomputable def saCode (ss : List ByteArray) (xs : List AX) (t : Int) : Int := if vScr ss xs = false then 1 else if inB t 0 10000 = false then 2 else 0
noncomputable def saVal (ss : List ByteArray) (xs : List AX) (t : Int) : List ByteArray := if saCode ss xs t = 0 then ss.filter (saP xs t) else []
/-- whether a slide is ever shown -/
def evB (xs : List AX) (s : ByteArray) : Bool := xs.any fun x => shB x && (x.2.2.1.toList == s.toList)
def nvP (xs : List AX) (s : ByteArray) : Bool := !evB xs s
noncomputable def nvCode (ss : List ByteArray) (xs : List AX) : Int := if vScr ss xs = false then 1 else 0
noncomputable def nvVal (ss : List ByteArray) (xs : List AX) : List ByteArray := if nvCode ss xs = 0 then ss.filter (nvP xs) else []
theorem evB_step {xs : List AX} {k : Nat} {x : AX} (hx : xs[k]? = some x) (s : ByteArray) : evB (xs.take (k + 1)) s = (evB (xs.take k) s || (shB x && (x.2.2.1.toList == s.toList))) := by
  unfold evB
  rw [take_snoc hx, List.any_append]; simp
theorem evB_at {xs : List AX} {k : Nat} {x : AX} {s : ByteArray} (hx : xs[k]? = some x) (h : (shB x && (x.2.2.1.toList == s.toList)) = true) : evB xs s = true := by
  unfold evB; rw [List.any_eq_true]; exact ⟨x, List.mem_of_getElem? hx, h⟩
end Go.Proofs.Ytccddejbbdciiaa
