/-
  Contracts of the functions on frames: equality, validity.
-/
import Derived.Test.YtkjdinhbfoghnaaBFrame
import Derived.Test.YtkjdinhbfoghnaaFr
namespace Go.Proofs.Ytkjdinhbfoghnaa
open Go.RowKit

theorem l16Ok_any (A : Option Addr) (n c : Nat) (xs : List (Int × Int)) (w : World) (h : Sl w 2 e2 A n xs) (hn : n ≤ 1048577) :
    Calls Try.prog 45 #[.slice A n c] w fun e w' => e = .returned (.bool (frOk xs)) ∧ w = w' := by
  go_enter Try.func45, Try.ntmps45
  go_wp2
  go_loop [3] (fun i => ∃ k : Nat, k ≤ n ∧ i = .int .i64 k ∧ Hid ((xs.take k).all frOne = true)) (fun i => n - (intOf i).toNat)
  case atStart => exact ⟨0, by omega, rfl, by simp [Hid]⟩
  case round =>
    obtain ⟨k, hk, rfl, he⟩ := hrel
    by_cases hlt : k < n
    · obtain ⟨b, off, x, rfl, hx, _, c0, c1⟩ := h.at2 hlt
      cases h1 : inB x.1 1 10000 <;> cases h2 : inB x.2 0 10000
      all_goals go_wp2_with (go_at_call 49; refine (l00In_any _ _ _ _).mono ?_; rintro e w' ⟨rfl, rfl⟩)
      all_goals first
        | (go_round
           case rel => exact ⟨k + 1, by omega, by go_num, by rw [Hid, all_step _ hx, he.out]; simp [frOne, h1, h2]⟩
           case measure => simp [intOf]; omega)
        | (go_ret
           exact ⟨ret_bool (by have := all_no frOne hx (by simp [frOne, h1, h2]); simp [frOk, this]), rfl⟩)
    · go_wp2
      go_ret
      have : k = n := by omega
      subst this
      have e1 : xs.all frOne = true := by rw [← he.out, take_all h.1]
      exact ⟨ret_bool (by simp [frOk, e1, h.1]; omega), rfl⟩

theorem specValidFrames_any (A : Option Addr) (n c : Nat) (xs : List (Int × Int)) (w : World) (h : Sl w 2 e2 A n xs) (hn : n ≤ 1048577) :
    Calls Try.prog 18 #[.slice A n c] w fun e w' => e = .returned (.bool (frOk xs)) ∧ Below w.heap.size w w' := by
  go_enter Try.func18, Try.ntmps18
  go_wp2_with (go_at_call 45; refine (l16Ok_any A n c xs _ h hn).mono ?_; rintro e w' ⟨rfl, rfl⟩)
  go_ret
  exact ⟨rfl, Below.refl _ _⟩

theorem ValidFrames1_any (x : Int × Int) (w : World) :
    Calls Try.prog 47 #[.agg #[.int .i64 x.1, .int .i64 x.2]] w fun e w' => e = .returned (.bool (!frOne x)) ∧ Below w.heap.size w w' := by
  cases h1 : inB x.1 1 10000 <;> cases h2 : inB x.2 0 10000
  all_goals
    go_enter Try.func47, Try.ntmps47
    go_wp2_with (go_at_call 48; refine (within_any _ _ _ _).mono ?_; rintro e w' ⟨rfl, rfl⟩)
    go_ret
    exact ⟨ret_bool (by simp [frOne, h1, h2]), below_alloc _ _⟩

theorem IndexFunc_any (A : Option Addr) (n c : Nat) (xs : List (Int × Int)) (w : World) (h : Sl w 2 e2 A n xs) (hn : n ≤ 1048577) :
    Calls Try.prog 61 #[.slice A n c, .func (.func 47) #[] #[]] w fun e w' => e = .returned (.int .i64 (idxI (fun x => !frOne x) xs)) ∧ Below w.heap.size w w' := by
  go_enter Try.func61, Try.ntmps61
  go_wp2
  go_loopw [8] (fun i wr => ∃ k : Nat, k ≤ n ∧ i = .int .i64 k ∧ Hid ((xs.take k).any (fun x => !frOne x) = false) ∧ Below w.heap.size w wr) (fun i _ => n - (intOf i).toNat)
  case atStart => exact ⟨0, by omega, rfl, by simp [Hid], Below.refl _ _⟩
  case round =>
    obtain ⟨k, hk, rfl, he, hb⟩ := hrel
    by_cases hlt : k < n
    · obtain ⟨b, off, x, rfl, hx, _, c0, c1⟩ := (h.below hb).at2 hlt
      go_wp2_with (go_at_call 47; refine (ValidFrames1_any x _).mono ?_; rintro e w2 ⟨rfl, hb2⟩)
      · have e1 : (!frOne x) = true := by assumption
        go_ret
        exact ⟨ret_int (by rw [idxI_hit he.out hx e1]), below_mid hb hb2 hb.size⟩
      · have e1 : (!frOne x) = false := by assumption
        go_roundw
        case rel => exact ⟨k + 1, by omega, by go_num, by rw [Hid, any_step _ hx, he.out, e1]; rfl, below_mid hb hb2 hb.size⟩
        case measure => simp [intOf]; omega
    · go_wp2
      go_ret
      have : k = n := by omega
      subst this
      exact ⟨ret_int (by rw [idxI_miss (by rw [← take_all h.1]; exact he.out)]), hb⟩

theorem ContainsFunc_any (A : Option Addr) (n c : Nat) (xs : List (Int × Int)) (w : World) (h : Sl w 2 e2 A n xs) (hn : n ≤ 1048577) :
    Calls Try.prog 46 #[.slice A n c, .func (.func 47) #[] #[]] w fun e w' => e = .returned (.bool (xs.any fun x => !frOne x)) ∧ Below w.heap.size w w' := by
  go_enter Try.func46, Try.ntmps46
  go_wp2_with (go_at_call 61; refine (IndexFunc_any A n c xs _ h hn).mono ?_; rintro e w2 ⟨rfl, hb2⟩)
  go_ret
  exact ⟨ret_bool (idxI_nn _ _), hb2⟩

theorem implValidFrames_any (A : Option Addr) (n c : Nat) (xs : List (Int × Int)) (w : World) (h : Sl w 2 e2 A n xs) (hn : n ≤ 1048577) :
    Calls Try.prog 19 #[.slice A n c] w fun e w' => e = .returned (.bool (frOk xs)) ∧ Below w.heap.size w w' := by
  have hl := h.1
  by_cases h60 : (n : Int) ≤ 60
  · have H := Lib.hid hl; clear hl
    go_enter Try.func19, Try.ntmps19
    go_wp2_with (go_at_call 46; refine (ContainsFunc_any A n c xs _ h hn).mono ?_; rintro e w2 ⟨rfl, hb2⟩)
    go_ret
    exact ⟨ret_bool (by have := any_not_all frOne xs; simp only [frOk, H.out, ← this]; simp; omega), hb2⟩
  · have H := Lib.hid hl; clear hl
    go_enter Try.func19, Try.ntmps19
    go_wp2
    go_ret
    exact ⟨ret_bool (by simp only [frOk, H.out]; simp; omega), Below.refl _ _⟩
end Go.Proofs.Ytkjdinhbfoghnaa
