/-
  Contracts of the functions on slides in lanterns: validity.
-/
import Derived.Test.YtcfbnlkkoifiiaaBShown
import Derived.Test.YtcfbnlkkoifiiaaSh
import Derived.Test.YtcfbnlkkoifiiaaBMax
import Derived.Test.YtcfbnlkkoifiiaaBInt
namespace Go.Proofs.Ytcfbnlkkoifiiaa
open Go.RowKit

theorem l15One_any (x : Int × Int × Int) (w : World) :
    Calls Try.prog 30 #[.agg #[.int .i64 x.1, .int .i64 x.2.1, .int .i64 x.2.2]] w fun e w' => e = .returned (.bool (shOne x)) ∧ Below w.heap.size w w' := by
  cases h0 : inB x.1 0 10000 <;> cases h1 : inB x.2.1 (x.1 + 1) 20000 <;> cases h2 : inB x.2.2 0 500
  all_goals try (have q0 := inB_true.1 h0)
  all_goals
    go_enter Try.func30, Try.ntmps30
    go_wp2_with (go_at_call 39; refine (l00In_any _ _ _ _).mono ?_; rintro e w' ⟨rfl, rfl⟩)
    go_ret
    exact ⟨ret_bool (by simp [shOne, h0, h1, h2]), below_alloc _ _⟩

theorem l15Ok_any (A : Option Addr) (n c : Nat) (xs : List (Int × Int × Int)) (w : World) (h : Sl w 3 e3 A n xs) (hn : n ≤ 1048577) :
    Calls Try.prog 16 #[.slice A n c] w fun e w' => e = .returned (.bool (shOk xs)) ∧ Below w.heap.size w w' := by
  go_enter Try.func16, Try.ntmps16
  go_wp2
  go_loopw [3] (fun i wr => ∃ k : Nat, k ≤ n ∧ i = .int .i64 k ∧ Hid ((xs.take k).all shOne = true) ∧ Below w.heap.size w wr) (fun i _ => n - (intOf i).toNat)
  case atStart => exact ⟨0, by omega, rfl, by simp [Hid], Below.refl _ _⟩
  case round =>
    obtain ⟨k, hk, rfl, he, hb⟩ := hrel
    by_cases hlt : k < n
    · obtain ⟨b, off, x, rfl, hx, hm, c0, c1, c2⟩ := (h.below hb).at3 hlt
      cases h1 : shOne x
      all_goals go_wp2_with (go_at_call 30; refine (l15One_any x _).mono ?_; rintro e w2 ⟨rfl, hb2⟩)
      all_goals first
        | (go_roundw
           case rel => exact ⟨k + 1, by omega, by go_num, by rw [Hid, all_step _ hx, he.out]; simp [h1], below_mid hb hb2 hb.size⟩
           case measure => simp [intOf]; omega)
        | (go_ret
           exact ⟨ret_bool (by have := all_no shOne hx h1; simp [shOk, this]), below_mid hb hb2 hb.size⟩)
    · go_wp2
      go_ret
      have : k = n := by omega
      subst this
      have q1 : xs.all shOne = true := by rw [← he.out, take_all h.1]
      exact ⟨ret_bool (by simp [shOk, q1, h.1]; omega), hb⟩

theorem ValidShown1_any (x : (Int × Int × Int)) (w : World) :
    Calls Try.prog 33 #[.agg #[.int .i64 x.1, .int .i64 x.2.1, .int .i64 x.2.2]] w fun e w' => e = .returned (.bool (!shOne x)) ∧ Below w.heap.size w w' := by
  cases h0 : inB (x.1) (0) (10000) <;> cases h1 : inB (x.2.1) (x.1 + 1) (20000) <;> cases h2 : inB (x.2.2) (0) (500)
  all_goals try (have q0 := inB_true.1 h0)
  all_goals
    go_enter Try.func33, Try.ntmps33
    go_wp2_with (go_at_call 34; refine (within_any _ _ _ _).mono ?_; rintro e w' ⟨rfl, rfl⟩)
    go_ret
    exact ⟨ret_bool (by simp [shOne, h0, h1, h2]), below_alloc _ _⟩

theorem IndexFuncShown_any (A : Option Addr) (n c : Nat) (xs : List (Int × Int × Int)) (w : World) (h : Sl w 3 e3 A n xs) (hn : n ≤ 1048577) :
    Calls Try.prog 40 #[.slice A n c, .func (.func 33) #[] #[]] w fun e w' => e = .returned (.int .i64 (idxI (fun x => !shOne x) xs)) ∧ Below w.heap.size w w' := by
  go_enter Try.func40, Try.ntmps40
  go_wp2
  go_loopw [8] (fun i wr => ∃ k : Nat, k ≤ n ∧ i = .int .i64 k ∧ Hid ((xs.take k).any (fun x => !shOne x) = false) ∧ Below w.heap.size w wr) (fun i _ => n - (intOf i).toNat)
  case atStart => exact ⟨0, by omega, rfl, by simp [Hid], Below.refl _ _⟩
  case round =>
    obtain ⟨k, hk, rfl, he, hb⟩ := hrel
    by_cases hlt : k < n
    · obtain ⟨b, off, x, rfl, hx, hm, c0, c1, c2⟩ := (h.below hb).at3 hlt
      go_wp2_with (go_at_call 33; refine (ValidShown1_any x _).mono ?_; rintro e w2 ⟨rfl, hb2⟩)
      · have q1 : (!shOne x) = true := by assumption
        go_ret
        exact ⟨ret_int (by rw [idxI_hit he.out hx q1]), below_mid hb hb2 hb.size⟩
      · have q1 : (!shOne x) = false := by assumption
        go_roundw
        case rel => exact ⟨k + 1, by omega, by go_num, by rw [Hid, any_step _ hx, he.out, q1]; rfl, below_mid hb hb2 hb.size⟩
        case measure => simp [intOf]; omega
    · go_wp2
      go_ret
      have : k = n := by omega
      subst this
      exact ⟨ret_int (by rw [idxI_miss (by rw [← take_all h.1]; exact he.out)]), hb⟩

theorem ContainsFuncShown_any (A : Option Addr) (n c : Nat) (xs : List (Int × Int × Int)) (w : World) (h : Sl w 3 e3 A n xs) (hn : n ≤ 1048577) :
    Calls Try.prog 32 #[.slice A n c, .func (.func 33) #[] #[]] w fun e w' => e = .returned (.bool (xs.any fun x => !shOne x)) ∧ Below w.heap.size w w' := by
  go_enter Try.func32, Try.ntmps32
  go_wp2_with (go_at_call 40; refine (IndexFuncShown_any A n c xs _ h hn).mono ?_; rintro e w2 ⟨rfl, hb2⟩)
  go_ret
  exact ⟨ret_bool (idxI_nn _ _), hb2⟩

theorem implValidShown_any (A : Option Addr) (n c : Nat) (xs : List (Int × Int × Int)) (w : World) (h : Sl w 3 e3 A n xs) (hn : n ≤ 1048577) :
    Calls Try.prog 19 #[.slice A n c] w fun e w' => e = .returned (.bool (shOk xs)) ∧ Below w.heap.size w w' := by
  have hl := h.1
  by_cases hmost : (n : Int) ≤ 12
  · have H := Lib.hid hl; clear hl
    go_enter Try.func19, Try.ntmps19
    go_wp2_with (go_at_call 32; refine (ContainsFuncShown_any A n c xs _ h hn).mono ?_; rintro e w2 ⟨rfl, hb2⟩)
    go_ret
    exact ⟨ret_bool (by have := any_not_all shOne xs; simp only [shOk, H.out, ← this]; simp; omega), hb2⟩
  · have H := Lib.hid hl; clear hl
    go_enter Try.func19, Try.ntmps19
    go_wp2
    go_ret
    exact ⟨ret_bool (by simp only [shOk, H.out]; simp; omega), Below.refl _ _⟩
end Go.Proofs.Ytcfbnlkkoifiiaa
