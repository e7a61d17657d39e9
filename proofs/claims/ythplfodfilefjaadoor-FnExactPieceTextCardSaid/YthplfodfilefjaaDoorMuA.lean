/-
  Contracts of the functions on pieces: validity, beats.
-/
import Derived.Test.YthplfodfilefjaaDoorBPart
import Derived.Test.YthplfodfilefjaaDoorMu
import Derived.Test.YthplfodfilefjaaDoorBInt
namespace Go.Proofs.YthplfodfilefjaaDoor
set_option maxRecDepth 100000
open Go.RowKit

theorem l19One_any (b i : Nat) (x : Int × Int × Int) (w : World) (c0 : w.cell? ⟨b, i, none⟩ = some (.int .i64 x.1)) (c1 : w.cell? ⟨b, i + 1, none⟩ = some (.int .i64 x.2.1)) (c2 : w.cell? ⟨b, i + 2, none⟩ = some (.int .i64 x.2.2)) :
    Calls Tryd.prog 46 #[.pointer (some ⟨b, i, none⟩)] w fun e w' => e = .returned (.bool (ptOne x)) ∧ w = w' := by
  cases h1 : inB x.1 1 200 <;> cases h2 : inB x.2.1 1 12 <;> cases h3 : inB x.2.2 20 300
  all_goals
    go_enter Tryd.func46, Tryd.ntmps46
    go_wp2_with (go_at_call 29; refine (l00In_any _ _ _ _).mono ?_; rintro e w' ⟨rfl, rfl⟩)
    go_ret
    exact ⟨ret_bool (by simp [ptOne, h1, h2, h3]), rfl⟩

theorem l19Ok_any (A : Option Addr) (n c : Nat) (xs : List (Int × Int × Int)) (w : World) (h : Sl w 3 e3 A n xs) (hn : n ≤ 1048577) :
    Calls Tryd.prog 32 #[.slice A n c] w fun e w' => e = .returned (.bool (ptOk xs)) ∧ w = w' := by
  have hl := h.1
  go_enter Tryd.func32, Tryd.ntmps32
  go_wp2
  go_loop [3] (fun i => ∃ k : Nat, k ≤ n ∧ i = .int .i64 k ∧ Hid ((xs.take k).all ptOne = true)) (fun i => n - (intOf i).toNat)
  case atStart => exact ⟨0, by omega, rfl, by simp [Hid]⟩
  case round =>
    obtain ⟨k, hk, rfl, he⟩ := hrel
    by_cases hlt : k < n
    · obtain ⟨b, off, x, rfl, hx, hm, c0, c1, c2⟩ := h.at3 hlt
      cases h1 : ptOne x
      all_goals go_wp2_with (go_at_call 46; refine (l19One_any b (off + k * 3) x _ c0 c1 c2).mono ?_; rintro e w' ⟨rfl, rfl⟩)
      all_goals first
        | (go_round
           case rel => exact ⟨k + 1, by omega, by go_num, by rw [Hid, all_step _ hx, he.out]; simp [h1]⟩
           case measure => simp [intOf]; omega)
        | (go_ret
           exact ⟨ret_bool (by have := all_no ptOne hx h1; simp [ptOk, this]), rfl⟩)
    · have : k = n := by omega
      subst this
      have HL := Lib.hid h.1
      go_wp2_with (go_at_call 29; refine (l00In_any _ _ _ _).mono ?_; rintro e w' ⟨rfl, rfl⟩)
      go_ret
      have q1 : xs.all ptOne = true := by rw [← he.out, take_all h.1]
      exact ⟨ret_bool (by simp [ptOk, q1, HL.out]), rfl⟩

theorem validPart_any (x : Int × Int × Int) (w : World) :
    Calls Tryd.prog 49 #[.agg #[.int .i64 x.1, .int .i64 x.2.1, .int .i64 x.2.2]] w fun e w' => e = .returned (.bool (ptOne x)) ∧ Below w.heap.size w w' := by
  cases h1 : inB x.1 1 200 <;> cases h2 : inB x.2.1 1 12 <;> cases h3 : inB x.2.2 20 300
  all_goals
    go_enter Tryd.func49, Tryd.ntmps49
    go_wp2_with (go_at_call 31; refine (within_any _ _ _ _).mono ?_; rintro e w' ⟨rfl, rfl⟩)
    go_ret
    exact ⟨ret_bool (by simp [ptOne, h1, h2, h3]), below_alloc _ _⟩

theorem ValidPiece1_any (x : Int × Int × Int) (w : World) :
    Calls Tryd.prog 48 #[.agg #[.int .i64 x.1, .int .i64 x.2.1, .int .i64 x.2.2]] w fun e w' => e = .returned (.bool (!ptOne x)) ∧ Below w.heap.size w w' := by
  go_enter Tryd.func48, Tryd.ntmps48
  go_wp2_with fail
  refine (validPart_any x _).mono ?_
  rintro e w2 ⟨rfl, hb2⟩
  go_wp2_with fail
  go_ret
  exact ⟨rfl, below_step (below_alloc _ _) hb2⟩

theorem IndexFuncPart_any (A : Option Addr) (n c : Nat) (xs : List (Int × Int × Int)) (w : World) (h : Sl w 3 e3 A n xs) (hn : n ≤ 1048577) :
    Calls Tryd.prog 60 #[.slice A n c, .func (.func 48) #[] #[]] w fun e w' => e = .returned (.int .i64 (idxI (fun x => !ptOne x) xs)) ∧ Below w.heap.size w w' := by
  go_enter Tryd.func60, Tryd.ntmps60
  go_wp2
  go_loopw [8] (fun i wr => ∃ k : Nat, k ≤ n ∧ i = .int .i64 k ∧ Hid ((xs.take k).any (fun x => !ptOne x) = false) ∧ Below w.heap.size w wr) (fun i _ => n - (intOf i).toNat)
  case atStart => exact ⟨0, by omega, rfl, by simp [Hid], Below.refl _ _⟩
  case round =>
    obtain ⟨k, hk, rfl, he, hb⟩ := hrel
    by_cases hlt : k < n
    · obtain ⟨b, off, x, rfl, hx, hm, c0, c1, c2⟩ := (h.below hb).at3 hlt
      go_wp2_with (go_at_call 48; refine (ValidPiece1_any x _).mono ?_; rintro e w2 ⟨rfl, hb2⟩)
      · have q1 : (!ptOne x) = true := by assumption
        go_ret
        exact ⟨ret_int (by rw [idxI_hit he.out hx q1]), below_mid hb hb2 hb.size⟩
      · have q1 : (!ptOne x) = false := by assumption
        go_roundw
        case rel => exact ⟨k + 1, by omega, by go_num, by rw [Hid, any_step _ hx, he.out, q1]; rfl, below_mid hb hb2 hb.size⟩
        case measure => simp [intOf]; omega
    · go_wp2
      go_ret
      have : k = n := by omega
      subst this
      exact ⟨ret_int (by rw [idxI_miss (by rw [← take_all h.1]; exact he.out)]), hb⟩

theorem ContainsFuncPart_any (A : Option Addr) (n c : Nat) (xs : List (Int × Int × Int)) (w : World) (h : Sl w 3 e3 A n xs) (hn : n ≤ 1048577) :
    Calls Tryd.prog 47 #[.slice A n c, .func (.func 48) #[] #[]] w fun e w' => e = .returned (.bool (xs.any fun x => !ptOne x)) ∧ Below w.heap.size w w' := by
  go_enter Tryd.func47, Tryd.ntmps47
  go_wp2_with (go_at_call 60; refine (IndexFuncPart_any A n c xs _ h hn).mono ?_; rintro e w2 ⟨rfl, hb2⟩)
  go_ret
  exact ⟨ret_bool (idxI_nn _ _), hb2⟩

theorem implValidPiece_any (A : Option Addr) (n c : Nat) (xs : List (Int × Int × Int)) (w : World) (h : Sl w 3 e3 A n xs) (hn : n ≤ 1048577) :
    Calls Tryd.prog 34 #[.slice A n c] w fun e w' => e = .returned (.bool (ptOk xs)) ∧ Below w.heap.size w w' := by
  have hl := h.1
  have H := Lib.hid hl; clear hl
  by_cases h1 : (1 : Int) ≤ (n : Int)
  · by_cases h2 : (n : Int) ≤ 12
    · go_enter Tryd.func34, Tryd.ntmps34
      go_wp2_with (go_at_call 47; refine (ContainsFuncPart_any A n c xs _ h hn).mono ?_; rintro e w2 ⟨rfl, hb2⟩)
      go_ret
      exact ⟨ret_bool (by have := any_not_all ptOne xs; simp only [ptOk, H.out, ← this]; simp [inB]; omega), hb2⟩
    · go_enter Tryd.func34, Tryd.ntmps34
      go_wp2
      go_ret
      exact ⟨ret_bool (by simp only [ptOk, H.out]; simp [inB]; omega), Below.refl _ _⟩
  · go_enter Tryd.func34, Tryd.ntmps34
    go_wp2
    go_ret
    exact ⟨ret_bool (by simp only [ptOk, H.out]; simp [inB]; omega), Below.refl _ _⟩

end Go.Proofs.YthplfodfilefjaaDoor
