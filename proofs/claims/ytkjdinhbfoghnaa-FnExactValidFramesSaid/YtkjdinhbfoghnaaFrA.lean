/-
  Contracts of the functions on frames: equality, validity.
-/
import Derived.Test.YtkjdinhbfoghnaaBase
import Derived.Test.YtkjdinhbfoghnaaFr
import Derived.Laws.StructEq
namespace Go.Proofs.Ytkjdinhbfoghnaa
open Go.RowKit

theorem neqFrame (x y : Int × Int) (w : World) : (binOp .neq 52 (.agg #[.int .i64 x.1, .int .i64 x.2]) (.agg #[.int .i64 y.1, .int .i64 y.2])).run Try.prog w = .ok (.bool (!decide (x = y))) w := by
  have hS : Try.prog.underlying 52 = some (.struct (Try.prog.fieldsOf 52)) := by kernel_rfl
  have hp : Try.prog.stoodInHeld 52 = false := by kernel_rfl
  have u3 := Try.underlying2
  rw [run_neq_struct, show (10000 : Nat) = 9999 + 1 from rfl, run_equalIn_agg w 9999 52 _ _ hS hp]
  simp only [Program.fieldsOf, Try.underlying52]
  go_simp
  by_cases h1 : x.1 = y.1 <;> by_cases h2 : x.2 = y.2 <;> simp [h1, h2, Prod.ext_iff]

theorem specSameFrames_any (A B : Option Addr) (n m c d : Nat) (xs ys : List (Int × Int)) (w : World) (h : Sl w 2 e2 A n xs) (h' : Sl w 2 e2 B m ys) (hn : n ≤ 1048577) (hm : m ≤ 1048577) :
    Calls Try.prog 14 #[.slice A n c, .slice B m d] w fun e w' => e = .returned (.bool (decide (xs = ys))) ∧ Below w.heap.size w w' := by
  by_cases hnm : n = m
  · subst hnm
    go_enter Try.func14, Try.ntmps14
    go_wp2
    go_loopw [5] (fun i wr => ∃ k : Nat, k ≤ n ∧ i = .int .i64 k ∧ Hid (xs.take k = ys.take k) ∧ Below w.heap.size w wr) (fun i _ => n - (intOf i).toNat)
    case atStart => exact ⟨0, by omega, rfl, by simp [Hid], Below.refl _ _⟩
    case round =>
      obtain ⟨k, hk, rfl, he, hb⟩ := hrel
      by_cases hlt : k < n
      · obtain ⟨b, off, x, rfl, hx, _, c0, c1⟩ := (h.below hb).at2 hlt
        obtain ⟨b', off', y, rfl, hy, _, d0, d1⟩ := (h'.below hb).at2 hlt
        have hq := fun w => neqFrame x y w
        go_wp2_with fail
        go_quiet (fail)
        go_wp2_with fail
        · have e1 : (!decide (x = y)) = true := by assumption
          go_ret
          exact ⟨ret_bool (by have := ne_of_get hx hy (by simpa using e1); simp [this]), below_drewN hb _⟩
        · have e1 : (!decide (x = y)) = false := by assumption
          go_roundw
          case rel => exact ⟨k + 1, by omega, by go_num, take_eq_step he.out hx hy (by simpa using e1), below_drewN hb _⟩
          case measure => simp [intOf]; omega
      · go_wp2
        go_ret
        have : k = n := by omega
        subst this
        exact ⟨ret_bool (by have := eq_of_take he.out h.1 h'.1; simp [this]), hb⟩
  · have hne : xs ≠ ys := fun e => hnm (by rw [← h.1, ← h'.1, e])
    have H := Lib.hid hne; clear hne
    go_enter Try.func14, Try.ntmps14
    go_wp2
    go_ret
    exact ⟨ret_bool (by simp [H.out]), Below.refl _ _⟩
theorem EqualFrame_any (A B : Option Addr) (n m c d : Nat) (xs ys : List (Int × Int)) (w : World) (h : Sl w 2 e2 A n xs) (h' : Sl w 2 e2 B m ys) (hn : n ≤ 1048577) (hm : m ≤ 1048577) :
    Calls Try.prog 43 #[.slice A n c, .slice B m d] w fun e w' => e = .returned (.bool (decide (xs = ys))) ∧ Below w.heap.size w w' := by
  by_cases hnm : n = m
  · subst hnm
    go_enter Try.func43, Try.ntmps43
    go_wp2
    go_loopw [13] (fun i wr => ∃ k : Nat, k ≤ n ∧ i = .int .i64 k ∧ Hid (xs.take k = ys.take k) ∧ Below w.heap.size w wr) (fun i _ => n - (intOf i).toNat)
    case atStart => exact ⟨0, by omega, rfl, by simp [Hid], Below.refl _ _⟩
    case round =>
      obtain ⟨k, hk, rfl, he, hb⟩ := hrel
      by_cases hlt : k < n
      · obtain ⟨b, off, x, rfl, hx, _, c0, c1⟩ := (h.below hb).at2 hlt
        obtain ⟨b', off', y, rfl, hy, _, d0, d1⟩ := (h'.below hb).at2 hlt
        have hq := fun w => neqFrame x y w
        go_wp2_with fail
        go_quiet (fail)
        go_wp2_with fail
        · have e1 : (!decide (x = y)) = true := by assumption
          go_ret
          exact ⟨ret_bool (by have := ne_of_get hx hy (by simpa using e1); simp [this]), below_drewN hb _⟩
        · have e1 : (!decide (x = y)) = false := by assumption
          go_roundw
          case rel => exact ⟨k + 1, by omega, by go_num, take_eq_step he.out hx hy (by simpa using e1), below_drewN hb _⟩
          case measure => simp [intOf]; omega
      · go_wp2
        go_ret
        have : k = n := by omega
        subst this
        exact ⟨ret_bool (by have := eq_of_take he.out h.1 h'.1; simp [this]), hb⟩
  · have hne : xs ≠ ys := fun e => hnm (by rw [← h.1, ← h'.1, e])
    have H := Lib.hid hne; clear hne
    go_enter Try.func43, Try.ntmps43
    go_wp2
    go_ret
    exact ⟨ret_bool (by simp [H.out]), Below.refl _ _⟩
theorem implSameFrames_any (A B : Option Addr) (n m c d : Nat) (xs ys : List (Int × Int)) (w : World) (h : Sl w 2 e2 A n xs) (h' : Sl w 2 e2 B m ys) (hn : n ≤ 1048577) (hm : m ≤ 1048577) :
    Calls Try.prog 16 #[.slice A n c, .slice B m d] w fun e w' => e = .returned (.bool (decide (xs = ys))) ∧ Below w.heap.size w w' := by
  go_enter Try.func16, Try.ntmps16
  go_wp2_with (go_at_call 43; refine (EqualFrame_any A B n m c d xs ys _ h h' hn hm).mono ?_; rintro e w2 ⟨rfl, hb2⟩)
  go_ret
  exact ⟨rfl, hb2⟩

theorem l16Ok_any (A : Option Addr) (n c : Nat) (xs : List (Int × Int)) (w : World) (h : Sl w 2 e2 A n xs) (hn : n ≤ 1048577) :
    Calls Try.prog 45 #[.slice A n c] w fun e w' => e = .returned (.bool (frOk xs)) ∧ w = w' := by
  go_enter Try.func45, Try.ntmps45
  go_wp2
  go_loop [3] (fun i => ∃ k : Nat, k ≤ n ∧ i = .int .i64 k ∧ Hid ((xs.take k).all frOne = true)) (fun i => n - (intOf i).toNat)
  case atStart => exact ⟨0, by omega, rfl, by simp [Hid]⟩
  case round =>
    obtain ⟨k, hk, rfl, he⟩ := hrel
    by_cases hlt : k < n
    · obtain ⟨b, off, x, rfl, hx, _, c0, c1⟩ := h.at2 hlt
      cases h1 : inB x.1 1 10000 <;> cases h2 : inB x.2 0 10000
      all_goals go_wp2_with (go_at_call 49; refine (l00In_any _ _ _ _).mono ?_; rintro e w' ⟨rfl, rfl⟩)
      all_goals first
        | (go_round
           case rel => exact ⟨k + 1, by omega, by go_num, by rw [Hid, all_step _ hx, he.out]; simp [frOne, h1, h2]⟩
           case measure => simp [intOf]; omega)
        | (go_ret
           exact ⟨ret_bool (by have := all_no frOne hx (by simp [frOne, h1, h2]); simp [frOk, this]), rfl⟩)
    · go_wp2
      go_ret
      have : k = n := by omega
      subst this
      have e1 : xs.all frOne = true := by rw [← he.out, take_all h.1]
      exact ⟨ret_bool (by simp [frOk, e1, h.1]; omega), rfl⟩

theorem specValidFrames_any (A : Option Addr) (n c : Nat) (xs : List (Int × Int)) (w : World) (h : Sl w 2 e2 A n xs) (hn : n ≤ 1048577) :
    Calls Try.prog 18 #[.slice A n c] w fun e w' => e = .returned (.bool (frOk xs)) ∧ w = w' := by
  go_enter Try.func18, Try.ntmps18
  go_wp2_with (go_at_call 45; refine (l16Ok_any A n c xs _ h hn).mono ?_; rintro e w' ⟨rfl, rfl⟩)
  go_ret
  exact ⟨rfl, rfl⟩

theorem ValidFrames1_any (x : Int × Int) (w : World) :
    Calls Try.prog 47 #[.agg #[.int .i64 x.1, .int .i64 x.2]] w fun e w' => e = .returned (.bool (!frOne x)) ∧ Below w.heap.size w w' := by
  cases h1 : inB x.1 1 10000 <;> cases h2 : inB x.2 0 10000
  all_goals
    go_enter Try.func47, Try.ntmps47
    go_wp2_with (go_at_call 48; refine (within_any _ _ _ _).mono ?_; rintro e w' ⟨rfl, rfl⟩)
    go_ret
    exact ⟨ret_bool (by simp [frOne, h1, h2]), below_alloc _ _⟩

theorem IndexFunc_any (A : Option Addr) (n c : Nat) (xs : List (Int × Int)) (w : World) (h : Sl w 2 e2 A n xs) (hn : n ≤ 1048577) :
    Calls Try.prog 61 #[.slice A n c, .func (.func 47) #[] #[]] w fun e w' => e = .returned (.int .i64 (idxI (fun x => !frOne x) xs)) ∧ Below w.heap.size w w' := by
  go_enter Try.func61, Try.ntmps61
  go_wp2
  go_loopw [8] (fun i wr => ∃ k : Nat, k ≤ n ∧ i = .int .i64 k ∧ Hid ((xs.take k).any (fun x => !frOne x) = false) ∧ Below w.heap.size w wr) (fun i _ => n - (intOf i).toNat)
  case atStart => exact ⟨0, by omega, rfl, by simp [Hid], Below.refl _ _⟩
  case round =>
    obtain ⟨k, hk, rfl, he, hb⟩ := hrel
    by_cases hlt : k < n
    · obtain ⟨b, off, x, rfl, hx, _, c0, c1⟩ := (h.below hb).at2 hlt
      go_wp2_with (go_at_call 47; refine (ValidFrames1_any x _).mono ?_; rintro e w2 ⟨rfl, hb2⟩)
      · have e1 : (!frOne x) = true := by assumption
        go_ret
        exact ⟨ret_int (by rw [idxI_hit he.out hx e1]), below_mid hb hb2 hb.size⟩
      · have e1 : (!frOne x) = false := by assumption
        go_roundw
        case rel => exact ⟨k + 1, by omega, by go_num, by rw [Hid, any_step _ hx, he.out, e1]; rfl, below_mid hb hb2 hb.size⟩
        case measure => simp [intOf]; omega
    · go_wp2
      go_ret
      have : k = n := by omega
      subst this
      exact ⟨ret_int (by rw [idxI_miss (by rw [← take_all h.1]; exact he.out)]), hb⟩

theorem ContainsFunc_any (A : Option Addr) (n c : Nat) (xs : List (Int × Int)) (w : World) (h : Sl w 2 e2 A n xs) (hn : n ≤ 1048577) :
    Calls Try.prog 46 #[.slice A n c, .func (.func 47) #[] #[]] w fun e w' => e = .returned (.bool (xs.any fun x => !frOne x)) ∧ Below w.heap.size w w' := by
  go_enter Try.func46, Try.ntmps46
  go_wp2_with (go_at_call 61; refine (IndexFunc_any A n c xs _ h hn).mono ?_; rintro e w2 ⟨rfl, hb2⟩)
  go_ret
  exact ⟨ret_bool (idxI_nn _ _), hb2⟩

theorem ValidFrames_any (A : Option Addr) (n c : Nat) (xs : List (Int × Int)) (w : World) (h : Sl w 2 e2 A n xs) (hn : n ≤ 1048577) :
    Calls Try.prog 19 #[.slice A n c] w fun e w' => e = .returned (.bool (frOk xs)) ∧ Below w.heap.size w w' := by
  have hl := h.1
  by_cases h60 : (n : Int) ≤ 60
  · have H := Lib.hid hl; clear hl
    go_enter Try.func19, Try.ntmps19
    go_wp2_with (go_at_call 46; refine (ContainsFunc_any A n c xs _ h hn).mono ?_; rintro e w2 ⟨rfl, hb2⟩)
    go_ret
    exact ⟨ret_bool (by have := any_not_all frOne xs; simp only [frOk, H.out, ← this]; simp; omega), hb2⟩
  · have H := Lib.hid hl; clear hl
    go_enter Try.func19, Try.ntmps19
    go_wp2
    go_ret
    exact ⟨ret_bool (by simp only [frOk, H.out]; simp; omega), Below.refl _ _⟩
end Go.Proofs.Ytkjdinhbfoghnaa
