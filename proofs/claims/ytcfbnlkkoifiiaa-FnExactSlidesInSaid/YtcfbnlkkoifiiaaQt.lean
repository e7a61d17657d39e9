/-
  How the parts of a row come to be sorted, in plain mathematics.
-/
import Derived.Test.YtcfbnlkkoifiiaaQp
namespace Go.Proofs.Ytcfbnlkkoifiiaa
open Go.Sort

def So (a b : Nat) (d : Array Int) : Prop := ∀ i j, a ≤ i → i < j → j < b → d[i]! ≤ d[j]!
def Bw (a b : Nat) (d : Array Int) : Prop := a = 0 ∨ ∀ i, a ≤ i → i < b → d[a - 1]! ≤ d[i]!
theorem So.of {a b : Nat} {d : Array Int} (h : SortedIn ltInt a b d) : So a b d := fun i j h1 h2 h3 => by
  have := h i j h1 h2 h3
  simpa [ltInt] using this
theorem So.to {a b : Nat} {d : Array Int} (h : So a b d) : SortedIn ltInt a b d := fun i j h1 h2 h3 => by
  have := h i j h1 h2 h3
  simpa [ltInt] using this
/-- the row is sorted from a0 to b0 once it is sorted from a to b -/
structure Fit (a0 b0 : Nat) (d : Array Int) (a b : Nat) (dk : Array Int) : Prop where
  bs : b0 ≤ d.size
  perm : PermIn a0 b0 d dk
  la : a0 ≤ a
  lb : b ≤ b0
  ab : a ≤ b
  bw : Bw a b dk
  fin : ∀ d', PermIn a b dk d' → So a b d' → So a0 b0 d'
section
variable {a0 b0 a b : Nat} {d dk d1 : Array Int}
theorem Fit.sz (h : Fit a0 b0 d a b dk) : dk.size = d.size := h.perm.1
theorem Fit.start (hb : b0 ≤ d.size) (hab : a0 ≤ b0) (h : Bw a0 b0 d) : Fit a0 b0 d a0 b0 d := ⟨hb, permIn_refl _ _ _, Nat.le_refl _, Nat.le_refl _, hab, h, fun _ _ h => h⟩
theorem Fit.perm2 (h : Fit a0 b0 d a b dk) (hp : PermIn a b dk d1) : PermIn a0 b0 d d1 :=
  permIn_trans _ _ _ _ _ h.perm (permIn_mono _ _ _ _ _ _ h.la h.lb (by rw [h.sz]; exact h.bs) hp)
theorem Fit.move (h : Fit a0 b0 d a b dk) (hp : PermIn a b dk d1) : Fit a0 b0 d a b d1 := by
  refine ⟨h.bs, h.perm2 hp, h.la, h.lb, h.ab, ?_, fun d' h1 h2 => h.fin d' (permIn_trans _ _ _ _ _ hp h1) h2⟩
  rcases h.bw with e | hw
  · exact .inl e
  · rcases Nat.eq_zero_or_pos a with e | ha
    · exact .inl e
    · refine .inr fun i h1 h2 => ?_
      have hs : d1[a - 1]! = dk[a - 1]! := hp.2.1 (a - 1) (.inl (by omega))
      rw [hs]
      exact permIn_all dk d1 a b (fun x => dk[a - 1]! ≤ x) (by rw [h.sz]; exact Nat.le_trans h.lb h.bs) hp hw i h1 h2
theorem Fit.done (h : Fit a0 b0 d a b dk) (hp : PermIn a b dk d1) (hs : SortedIn ltInt a b d1) : PermIn a0 b0 d d1 ∧ SortedIn ltInt a0 b0 d1 := ⟨h.perm2 hp, (h.fin d1 hp (So.of hs)).to⟩
theorem Fit.eqs (h : Fit a0 b0 d a b dk) {p : Int} {mid : Nat} (ha : 0 < a) (hle : p ≤ dk[a - 1]!) (he : PartEq a b dk p mid d1) : Fit a0 b0 d mid b d1 := by
  have hb : b ≤ dk.size := by rw [h.sz]; exact Nat.le_trans h.lb h.bs
  have h1 := he.le
  have h2 := he.lt
  have hla := h.la
  have hge : ∀ i, a ≤ i → i < b → p ≤ d1[i]! := permIn_all dk d1 a b (fun x => p ≤ x) hb he.perm (fun i i1 i2 => by
    rcases h.bw with e | hw
    · omega
    · exact Int.le_trans hle (hw i i1 i2))
  refine ⟨h.bs, h.perm2 he.perm, by omega, h.lb, h2, .inr fun i i1 i2 => ?_, fun d' hp hs => ?_⟩
  · have e1 := he.lo (mid - 1) (by omega) (by omega)
    have e2 := he.hi i i1 i2
    omega
  · refine h.fin d' (permIn_trans _ _ _ _ _ he.perm (permIn_mono _ _ _ _ _ _ (by omega) (Nat.le_refl _) (by rw [he.sz]; exact hb) hp)) fun i j i1 i2 i3 => ?_
    have hhi : ∀ t, mid ≤ t → t < b → p < d'[t]! := permIn_all d1 d' mid b (fun x => p < x) (by rw [he.sz]; exact hb) hp he.hi
    by_cases hi : mid ≤ i
    · exact hs i j hi i2 i3
    · have e1 : d'[i]! = d1[i]! := hp.2.1 i (.inl (by omega))
      have e2 := he.lo i i1 (by omega)
      by_cases hj : mid ≤ j
      · have e3 := hhi j hj i3
        omega
      · have e4 : d'[j]! = d1[j]! := hp.2.1 j (.inl (by omega))
        have e5 := hge j (by omega) (by omega)
        omega
theorem PartRes.bwL {mid : Nat} (h : PartRes a b dk mid d1) (hw : Bw a b dk) (hb : b ≤ dk.size) : Bw a mid d1 := by
  rcases Nat.eq_zero_or_pos a with e | ha
  · exact .inl e
  · refine .inr fun i i1 i2 => ?_
    have hs : d1[a - 1]! = dk[a - 1]! := h.perm.2.1 (a - 1) (.inl (by omega))
    rcases hw with e | hw
    · omega
    · rw [hs]
      have := h.lt
      exact permIn_all dk d1 a b (fun x => dk[a - 1]! ≤ x) hb h.perm hw i i1 (by omega)
theorem PartRes.bwR {mid : Nat} (h : PartRes a b dk mid d1) : Bw (mid + 1) b d1 := .inr fun i i1 i2 => by
  have := h.hi i (by omega) i2
  simpa using this
/-- the left part was sorted: go on at the right -/
theorem Fit.left (h : Fit a0 b0 d a b dk) {mid : Nat} (hr : PartRes a b dk mid d1) {d2 : Array Int} (hp : PermIn a mid d1 d2) (hs : SortedIn ltInt a mid d2) : Fit a0 b0 d (mid + 1) b d2 := by
  have hb : b ≤ dk.size := by rw [h.sz]; exact Nat.le_trans h.lb h.bs
  have h1 := hr.le
  have h2 := hr.lt
  have hla := h.la
  have hb1 : b ≤ d1.size := by rw [hr.sz]; exact hb
  have hb2 : b ≤ d2.size := by rw [hp.1]; exact hb1
  have hm : d2[mid]! = d1[mid]! := hp.2.1 mid (.inr (Nat.le_refl _))
  have hlo : ∀ t, a ≤ t → t < mid → d2[t]! < d1[mid]! := permIn_all d1 d2 a mid (fun x => x < d1[mid]!) (by omega) hp hr.lo
  have hhi : ∀ t, mid < t → t < b → d1[mid]! ≤ d2[t]! := fun t t1 t2 => by rw [hp.2.1 t (.inr (by omega))]; exact hr.hi t t1 t2
  have hq : PermIn a b dk d2 := permIn_trans _ _ _ _ _ hr.perm (permIn_mono _ _ _ _ _ _ (Nat.le_refl _) (by omega) hb1 hp)
  refine ⟨h.bs, h.perm2 hq, by omega, h.lb, by omega, .inr fun i i1 i2 => ?_, fun d' hp' hs' => ?_⟩
  · rw [show mid + 1 - 1 = mid from rfl, hm]
    exact hhi i (by omega) i2
  · refine h.fin d' (permIn_trans _ _ _ _ _ hq (permIn_mono _ _ _ _ _ _ (by omega) (Nat.le_refl _) hb2 hp')) fun i j i1 i2 i3 => ?_
    have hhi' : ∀ t, mid + 1 ≤ t → t < b → d1[mid]! ≤ d'[t]! := permIn_all d2 d' (mid + 1) b (fun x => d1[mid]! ≤ x) hb2 hp' (fun t t1 t2 => hhi t (by omega) t2)
    by_cases hi : mid + 1 ≤ i
    · exact hs' i j hi i2 i3
    · have e1 : d'[i]! = d2[i]! := hp'.2.1 i (.inl (by omega))
      by_cases hj : mid + 1 ≤ j
      · have e2 := hhi' j hj i3
        by_cases him : i = mid
        · rw [e1, him, hm]; exact e2
        · have := hlo i i1 (by omega)
          omega
      · have e3 : d'[j]! = d2[j]! := hp'.2.1 j (.inl (by omega))
        rw [e1, e3]
        by_cases hjm : j = mid
        · have := hlo i i1 (by omega)
          rw [hjm, hm]; omega
        · exact So.of hs i j i1 i2 (by omega)
/-- the right part was sorted: go on at the left -/
theorem Fit.right (h : Fit a0 b0 d a b dk) {mid : Nat} (hr : PartRes a b dk mid d1) {d2 : Array Int} (hp : PermIn (mid + 1) b d1 d2) (hs : SortedIn ltInt (mid + 1) b d2) : Fit a0 b0 d a mid d2 := by
  have hb : b ≤ dk.size := by rw [h.sz]; exact Nat.le_trans h.lb h.bs
  have h1 := hr.le
  have h2 := hr.lt
  have hlb := h.lb
  have hb1 : b ≤ d1.size := by rw [hr.sz]; exact hb
  have hb2 : b ≤ d2.size := by rw [hp.1]; exact hb1
  have hm : d2[mid]! = d1[mid]! := hp.2.1 mid (.inl (by omega))
  have hlo : ∀ t, a ≤ t → t < mid → d2[t]! < d1[mid]! := fun t t1 t2 => by rw [hp.2.1 t (.inl (by omega))]; exact hr.lo t t1 t2
  have hhi : ∀ t, mid + 1 ≤ t → t < b → d1[mid]! ≤ d2[t]! := permIn_all d1 d2 (mid + 1) b (fun x => d1[mid]! ≤ x) hb1 hp (fun t t1 t2 => hr.hi t (by omega) t2)
  have hq : PermIn a b dk d2 := permIn_trans _ _ _ _ _ hr.perm (permIn_mono _ _ _ _ _ _ (by omega) (Nat.le_refl _) hb1 hp)
  refine ⟨h.bs, h.perm2 hq, h.la, by omega, h1, ?_, fun d' hp' hs' => ?_⟩
  · rcases hr.bwL h.bw hb with e | hw
    · exact .inl e
    · rcases Nat.eq_zero_or_pos a with e | ha
      · exact .inl e
      · refine .inr fun i i1 i2 => ?_
        rw [hp.2.1 (a - 1) (.inl (by omega)), hp.2.1 i (.inl (by omega))]
        exact hw i i1 i2
  · refine h.fin d' (permIn_trans _ _ _ _ _ hq (permIn_mono _ _ _ _ _ _ (Nat.le_refl _) (by omega) hb2 hp')) fun i j i1 i2 i3 => ?_
    have hlo' : ∀ t, a ≤ t → t < mid → d'[t]! < d1[mid]! := permIn_all d2 d' a mid (fun x => x < d1[mid]!) (by omega) hp' hlo
    by_cases hj : j < mid
    · exact hs' i j i1 i2 hj
    · have e3 : d'[j]! = d2[j]! := hp'.2.1 j (.inr (by omega))
      by_cases hi : i < mid
      · have e1 := hlo' i i1 hi
        by_cases hjm : j = mid
        · rw [e3, hjm, hm]; omega
        · have := hhi j (by omega) i3
          omega
      · have e1 : d'[i]! = d2[i]! := hp'.2.1 i (.inr (by omega))
        rw [e1, e3]
        by_cases him : i = mid
        · rw [him, hm]
          exact hhi j (by omega) i3
        · exact So.of hs i j (by omega) i2 i3
end
end Go.Proofs.Ytcfbnlkkoifiiaa
