/-
  Contracts of the functions on cues: validity.
-/
import Derived.Test.YtnikpadclmjglaaBCue
import Derived.Test.YtnikpadclmjglaaCu
import Derived.Test.YtnikpadclmjglaaBMax
namespace Go.Proofs.Ytnikpadclmjglaa
set_option maxRecDepth 100000
open Go.RowKit

theorem l17Ok_any (A : Option Addr) (n c : Nat) (xs : List (Int × Int × Int × Int)) (w : World) (h : Sl w 4 e4 A n xs) (hn : n ≤ 1048577) :
    Calls Try.prog 26 #[.slice A n c] w fun e w' => e = .returned (.bool (cueOk xs)) ∧ Below w.heap.size w w' := by
  go_enter Try.func26, Try.ntmps26
  go_wp2
  go_loopw [3] (fun i wr => ∃ k : Nat, k ≤ n ∧ i = .int .i64 k ∧ Hid ((xs.take k).all cueOne = true) ∧ Below w.heap.size w wr) (fun i _ => n - (intOf i).toNat)
  case atStart => exact ⟨0, by omega, rfl, by simp [Hid], Below.refl _ _⟩
  case round =>
    obtain ⟨k, hk, rfl, he, hb⟩ := hrel
    by_cases hlt : k < n
    · obtain ⟨b, off, x, rfl, hx, hm, c0, c1, c2, c3⟩ := (h.below hb).at4 hlt
      cases h0 : inB (x.1) (0) (10000) <;> cases h1 : inB (x.2.1) (1) (1000) <;> cases h2 : inB (x.2.2.1) (1) (4) <;> cases h3 : inB (x.2.2.2) (0) (6)
      all_goals go_wp2_with (go_at_call 54; refine (l00In_any _ _ _ _).mono ?_; rintro e w' ⟨rfl, rfl⟩)
      all_goals first
        | (go_roundw
           case rel => exact ⟨k + 1, by omega, by go_num, by rw [Hid, all_step _ hx, he.out]; simp [cueOne, h0, h1, h2, h3], hb.alloc hb.size _⟩
           case measure => simp [intOf]; omega)
        | (go_ret
           exact ⟨ret_bool (by have := all_no cueOne hx (by simp [cueOne, h0, h1, h2, h3]); simp [cueOk, this]), hb.alloc hb.size _⟩)
    · go_wp2
      go_ret
      have : k = n := by omega
      subst this
      have q1 : xs.all cueOne = true := by rw [← he.out, take_all h.1]
      exact ⟨ret_bool (by simp [cueOk, q1, h.1]; omega), hb⟩

theorem ValidCues1_any (x : (Int × Int × Int × Int)) (w : World) :
    Calls Try.prog 57 #[.agg #[.int .i64 x.1, .int .i64 x.2.1, .int .i64 x.2.2.1, .int .i64 x.2.2.2]] w fun e w' => e = .returned (.bool (!cueOne x)) ∧ Below w.heap.size w w' := by
  cases h0 : inB (x.1) (0) (10000) <;> cases h1 : inB (x.2.1) (1) (1000) <;> cases h2 : inB (x.2.2.1) (1) (4) <;> cases h3 : inB (x.2.2.2) (0) (6)
  all_goals
    go_enter Try.func57, Try.ntmps57
    go_wp2_with (go_at_call 58; refine (within_any _ _ _ _).mono ?_; rintro e w' ⟨rfl, rfl⟩)
    go_ret
    exact ⟨ret_bool (by simp [cueOne, h0, h1, h2, h3]), below_alloc _ _⟩

theorem IndexFuncCue_any (A : Option Addr) (n c : Nat) (xs : List (Int × Int × Int × Int)) (w : World) (h : Sl w 4 e4 A n xs) (hn : n ≤ 1048577) :
    Calls Try.prog 71 #[.slice A n c, .func (.func 57) #[] #[]] w fun e w' => e = .returned (.int .i64 (idxI (fun x => !cueOne x) xs)) ∧ Below w.heap.size w w' := by
  go_enter Try.func71, Try.ntmps71
  go_wp2
  go_loopw [8] (fun i wr => ∃ k : Nat, k ≤ n ∧ i = .int .i64 k ∧ Hid ((xs.take k).any (fun x => !cueOne x) = false) ∧ Below w.heap.size w wr) (fun i _ => n - (intOf i).toNat)
  case atStart => exact ⟨0, by omega, rfl, by simp [Hid], Below.refl _ _⟩
  case round =>
    obtain ⟨k, hk, rfl, he, hb⟩ := hrel
    by_cases hlt : k < n
    · obtain ⟨b, off, x, rfl, hx, hm, c0, c1, c2, c3⟩ := (h.below hb).at4 hlt
      go_wp2_with (go_at_call 57; refine (ValidCues1_any x _).mono ?_; rintro e w2 ⟨rfl, hb2⟩)
      · have q1 : (!cueOne x) = true := by assumption
        go_ret
        exact ⟨ret_int (by rw [idxI_hit he.out hx q1]), below_mid hb hb2 hb.size⟩
      · have q1 : (!cueOne x) = false := by assumption
        go_roundw
        case rel => exact ⟨k + 1, by omega, by go_num, by rw [Hid, any_step _ hx, he.out, q1]; rfl, below_mid hb hb2 hb.size⟩
        case measure => simp [intOf]; omega
    · go_wp2
      go_ret
      have : k = n := by omega
      subst this
      exact ⟨ret_int (by rw [idxI_miss (by rw [← take_all h.1]; exact he.out)]), hb⟩

theorem ContainsFuncCue_any (A : Option Addr) (n c : Nat) (xs : List (Int × Int × Int × Int)) (w : World) (h : Sl w 4 e4 A n xs) (hn : n ≤ 1048577) :
    Calls Try.prog 56 #[.slice A n c, .func (.func 57) #[] #[]] w fun e w' => e = .returned (.bool (xs.any fun x => !cueOne x)) ∧ Below w.heap.size w w' := by
  go_enter Try.func56, Try.ntmps56
  go_wp2_with (go_at_call 71; refine (IndexFuncCue_any A n c xs _ h hn).mono ?_; rintro e w2 ⟨rfl, hb2⟩)
  go_ret
  exact ⟨ret_bool (idxI_nn _ _), hb2⟩

theorem implValidCues_any (A : Option Addr) (n c : Nat) (xs : List (Int × Int × Int × Int)) (w : World) (h : Sl w 4 e4 A n xs) (hn : n ≤ 1048577) :
    Calls Try.prog 29 #[.slice A n c] w fun e w' => e = .returned (.bool (cueOk xs)) ∧ Below w.heap.size w w' := by
  have hl := h.1
  by_cases hmost : (n : Int) ≤ 6
  · have H := Lib.hid hl; clear hl
    go_enter Try.func29, Try.ntmps29
    go_wp2_with (go_at_call 56; refine (ContainsFuncCue_any A n c xs _ h hn).mono ?_; rintro e w2 ⟨rfl, hb2⟩)
    go_ret
    exact ⟨ret_bool (by have := any_not_all cueOne xs; simp only [cueOk, H.out, ← this]; simp; omega), hb2⟩
  · have H := Lib.hid hl; clear hl
    go_enter Try.func29, Try.ntmps29
    go_wp2
    go_ret
    exact ⟨ret_bool (by simp only [cueOk, H.out]; simp; omega), Below.refl _ _⟩
end Go.Proofs.Ytnikpadclmjglaa
