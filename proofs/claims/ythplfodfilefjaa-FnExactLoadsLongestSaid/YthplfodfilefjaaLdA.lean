/-
  Contracts of the functions on showings: validity.
-/
import Derived.Test.YthplfodfilefjaaLd
import Derived.Test.YthplfodfilefjaaBInt
import Derived.Lib.Bytealg
import Derived.BigCall
import Derived.Laws.Strings3
namespace Go.Proofs.Ythplfodfilefjaa
open Go.RowKit

theorem l20Ok_any (s : ByteArray) (w : World) (hs : s.size ≤ 1048576) :
    Calls Try.prog 10 #[.string s] w fun e w' => e = .returned (.bool (ldOk s.data.toList)) ∧ w = w' := by
  go_enter Try.func10, Try.ntmps10
  go_wp2
  go_loop [3] (fun i => ∃ k : Nat, k ≤ s.size ∧ i = .int .i64 k ∧ Hid ((s.data.toList.take k).all letB = true)) (fun i => s.size - (intOf i).toNat)
  case atStart => exact ⟨0, by omega, rfl, by simp [Hid]⟩
  case round =>
    obtain ⟨k, hk, rfl, he⟩ := hrel
    by_cases hlt : k < s.size
    · have hx := Lib.hid (snocB s k hlt)
      by_cases h1 : (s[k].toNat : Int) < 97
      · have h3 : Hid (letB s[k] = false) := by rw [Hid, letB, inB_false]; omega
        go_wp2_with fail
        go_ret
        exact ⟨ret_bool (by have := all_no letB hx.out h3.out; simp [ldOk, this]), rfl⟩
      · by_cases h2 : (122 : Int) < (s[k].toNat : Int)
        · have h3 : Hid (letB s[k] = false) := by rw [Hid, letB, inB_false]; omega
          go_wp2_with fail
          go_ret
          exact ⟨ret_bool (by have := all_no letB hx.out h3.out; simp [ldOk, this]), rfl⟩
        · have h3 : Hid (letB s[k] = true) := by rw [Hid, letB, inB_true]; omega
          go_wp2_with fail
          go_round
          case rel => exact ⟨k + 1, by omega, by go_num, by rw [Hid, all_step _ hx.out, he.out, h3.out]; rfl⟩
          case measure => simp [intOf]; omega
    · have : k = s.size := by omega
      subst this
      have q1 : Hid (s.data.toList.all letB = true) := by rw [Hid, ← he.out, List.take_of_length_le (by rw [lenB]; exact Nat.le_refl _)]
      go_wp2_with fail
      go_ret
      exact ⟨ret_bool (by simp only [ldOk, q1.out, lenB]; simp; omega), rfl⟩

theorem isLetters_any (s : ByteArray) (w : World) (hs : s.size ≤ 1048576) (h0 : 1 ≤ s.size) :
    Calls Try.prog 16 #[.string s, .int .i64 40] w fun e w' => e = .returned (.bool (ldOk s.data.toList)) ∧ w = w' := by
  go_enter Try.func16, Try.ntmps16
  go_wp2
  go_loop [5] (fun i => ∃ k : Nat, k ≤ s.size ∧ i = .int .i64 k ∧ Hid ((s.data.toList.take k).all letB = true)) (fun i => s.size - (intOf i).toNat)
  case atStart => exact ⟨0, by omega, rfl, by simp [Hid]⟩
  case round =>
    obtain ⟨k, hk, rfl, he⟩ := hrel
    by_cases hlt : k < s.size
    · have hx := Lib.hid (snocB s k hlt)
      by_cases h1 : (s[k].toNat : Int) < 97
      · have h3 : Hid (letB s[k] = false) := by rw [Hid, letB, inB_false]; omega
        go_wp2_with fail
        go_ret
        exact ⟨ret_bool (by have := all_no letB hx.out h3.out; simp [ldOk, this]), rfl⟩
      · by_cases h2 : (122 : Int) < (s[k].toNat : Int)
        · have h3 : Hid (letB s[k] = false) := by rw [Hid, letB, inB_false]; omega
          go_wp2_with fail
          go_ret
          exact ⟨ret_bool (by have := all_no letB hx.out h3.out; simp [ldOk, this]), rfl⟩
        · have h3 : Hid (letB s[k] = true) := by rw [Hid, letB, inB_true]; omega
          go_wp2_with fail
          go_round
          case rel => exact ⟨k + 1, by omega, by go_num, by rw [Hid, all_step _ hx.out, he.out, h3.out]; rfl⟩
          case measure => simp [intOf]; omega
    · have : k = s.size := by omega
      subst this
      have q1 : Hid (s.data.toList.all letB = true) := by rw [Hid, ← he.out, List.take_of_length_le (by rw [lenB]; exact Nat.le_refl _)]
      go_wp2_with fail
      go_ret
      exact ⟨ret_bool (by simp only [ldOk, q1.out, lenB]; simp; omega), rfl⟩

theorem ValidShowing_any (s : ByteArray) (w : World) (hs : s.size ≤ 1048576) :
    Calls Try.prog 12 #[.string s] w fun e w' => e = .returned (.bool (ldOk s.data.toList)) ∧ w = w' := by
  by_cases h0 : s.size = 0
  · have := emptyB h0
    subst this
    go_enter Try.func12, Try.ntmps12
    go_wp2_with fail
    go_ret
    exact ⟨ret_bool (by rfl), rfl⟩
  · have h1 : 1 ≤ s.size := by omega
    have hne : s.toList.isEmpty = false := by
      rw [ByteArray.toList_eq]
      have := lenB s
      cases hl : s.data.toList with
      | nil => rw [hl] at this; simp at this; omega
      | cons _ _ => rfl
    go_enter Try.func12, Try.ntmps12
    go_wp2_with (go_at_call 16; refine (isLetters_any s _ hs h1).mono ?_; rintro e w2 ⟨rfl, rfl⟩)
    go_ret
    exact ⟨rfl, rfl⟩
theorem implValidShowing_any (s : ByteArray) (w : World) (hs : s.size ≤ 1048576) :
    Calls Try.prog 12 #[.string s] w fun e w' => e = .returned (.bool (ldOk s.data.toList)) ∧ Below w.heap.size w w' := by
  refine (ValidShowing_any s w hs).mono ?_
  rintro e w2 ⟨rfl, rfl⟩
  exact ⟨rfl, Below.refl _ _⟩

theorem l20Code_any (s : ByteArray) (p : Int) (w : World) (hs : s.size ≤ 1048576) :
    Calls Try.prog 6 #[.string s, .int .i64 p] w fun e w' => e = .returned (.int .i64 (ldCode s.data.toList p)) ∧ w = w' := by
  cases hok : ldOk s.data.toList <;> cases h1 : inB p 1 6
  all_goals
    go_enter Try.func6, Try.ntmps6
    go_wp2_with fail
    refine (l20Ok_any s _ hs).mono ?_
    rintro e w2 ⟨rfl, rfl⟩
    go_wp2_with (go_at_call 11; refine (l00In_any _ _ _ _).mono ?_; rintro e w' ⟨rfl, rfl⟩)
    go_ret
    exact ⟨ret_int (by simp [ldCode, hok, h1]), rfl⟩

theorem showingCode_any (s : ByteArray) (p : Int) (w : World) (hs : s.size ≤ 1048576) :
    Calls Try.prog 8 #[.string s, .int .i64 p] w fun e w' => e = .returned (.int .i64 (ldCode s.data.toList p)) ∧ w = w' := by
  cases hok : ldOk s.data.toList <;> cases h1 : inB p 1 6
  all_goals
    go_enter Try.func8, Try.ntmps8
    go_wp2_with fail
    refine (ValidShowing_any s _ hs).mono ?_
    rintro e w2 ⟨rfl, rfl⟩
    go_wp2_with (go_at_call 13; refine (within_any _ _ _ _).mono ?_; rintro e w' ⟨rfl, rfl⟩)
    go_ret
    exact ⟨ret_int (by simp [ldCode, hok, h1]), rfl⟩

end Go.Proofs.Ythplfodfilefjaa
