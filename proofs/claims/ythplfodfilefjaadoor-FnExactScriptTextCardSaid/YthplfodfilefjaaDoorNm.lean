/-
  Scripts: names, what a list has, what is shown: the functions.
-/
import Derived.Test.YthplfodfilefjaaDoorVs
import Derived.Test.YthplfodfilefjaaDoorScC
namespace Go.Proofs.YthplfodfilefjaaDoor
set_option maxRecDepth 100000
open Go.RowKit

theorem l01Small_any (v : Int) (w : World) : Calls Tryd.prog 63 #[.int .u8 v] w fun e w' => e = .returned (.bool (smB v)) ∧ w = w' := by
  unfold smB
  by_cases h1 : 97 ≤ v <;> by_cases h2 : v ≤ 122
  all_goals
    go_enter Tryd.func63, Tryd.ntmps63
    go_wp2
    go_ret
    exact ⟨by simp [h1, h2], rfl⟩
theorem l01Digit_any (v : Int) (w : World) : Calls Tryd.prog 64 #[.int .u8 v] w fun e w' => e = .returned (.bool (dgB v)) ∧ w = w' := by
  unfold dgB
  by_cases h1 : 48 ≤ v <;> by_cases h2 : v ≤ 57
  all_goals
    go_enter Tryd.func64, Tryd.ntmps64
    go_wp2
    go_ret
    exact ⟨by simp [h1, h2], rfl⟩

theorem l18Has_any (A : Option Addr) (n c : Nat) (ss : List ByteArray) (s : ByteArray) (w : World) (h : Sl w 1 eS A n ss) (hn : n ≤ 1048577) :
    Calls Tryd.prog 54 #[.slice A n c, .string s] w fun e w' => e = .returned (.bool (hasB ss s)) ∧ w = w' := by
  go_enter Tryd.func54, Tryd.ntmps54
  go_wp2
  go_loop [5] (fun i => ∃ k : Nat, k ≤ n ∧ i = .int .i64 k ∧ Hid (∀ i x, i < k → ss[i]? = some x → x ≠ s)) (fun i => n - (intOf i).toNat)
  case atStart => exact ⟨0, by omega, rfl, by intro i x hi; omega⟩
  case round =>
    obtain ⟨k, hk, rfl, he⟩ := hrel
    by_cases hlt : k < n
    · obtain ⟨b, off, x, rfl, hx, hm, c0⟩ := h.atS hlt
      have HX := Lib.hid hx
      clear hx
      cases q1 : (x.toList == s.toList)
      · go_wp2
        go_round
        case rel =>
          refine ⟨k + 1, by omega, by go_num, ?_⟩
          intro i y hi hy
          rcases Nat.lt_succ_iff_lt_or_eq.1 hi with hi | rfl
          · exact he i y hi hy
          · rw [HX.out] at hy; cases hy; rw [str_eq] at q1; simpa using q1
        case measure => simp [intOf]; omega
      · go_wp2
        go_ret
        exact ⟨ret_bool (hasB_at HX.out (by rw [str_eq] at q1; simpa using q1)).symm, rfl⟩
    · have : k = n := by omega
      subst this
      have HN : Hid (hasB ss s = false) := hasB_no fun i x hx => he.out i x (by rw [← h.1]; exact (List.getElem?_eq_some_iff.1 hx).1) hx
      go_wp2
      go_ret
      exact ⟨ret_bool HN.out.symm, rfl⟩

theorem Index_any (A : Option Addr) (n c : Nat) (ss : List ByteArray) (s : ByteArray) (w : World) (h : Sl w 1 eS A n ss) (hn : n ≤ 1048577) :
    Calls Tryd.prog 72 #[.slice A n c, .string s] w fun e w' => (∃ k : Int, e = .returned (.int .i64 k) ∧ Hid (hasB ss s = decide (0 ≤ k))) ∧ w = w' := by
  go_enter Tryd.func72, Tryd.ntmps72
  go_wp2
  go_loop [8] (fun i => ∃ k : Nat, k ≤ n ∧ i = .int .i64 k ∧ Hid (∀ i x, i < k → ss[i]? = some x → x ≠ s)) (fun i => n - (intOf i).toNat)
  case atStart => exact ⟨0, by omega, rfl, by intro i x hi; omega⟩
  case round =>
    obtain ⟨k, hk, rfl, he⟩ := hrel
    by_cases hlt : k < n
    · obtain ⟨b, off, x, rfl, hx, hm, c0⟩ := h.atS hlt
      have HX := Lib.hid hx
      clear hx
      cases q1 : (s.toList == x.toList)
      · go_wp2
        go_round
        case rel =>
          refine ⟨k + 1, by omega, by go_num, ?_⟩
          intro i y hi hy
          rcases Nat.lt_succ_iff_lt_or_eq.1 hi with hi | rfl
          · exact he i y hi hy
          · rw [HX.out] at hy; cases hy; rw [str_eq] at q1; exact fun e => by simp [e] at q1
        case measure => simp [intOf]; omega
      · go_wp2
        go_ret
        exact ⟨⟨_, rfl, by rw [Hid, hasB_at HX.out (by rw [str_eq] at q1; simpa using (of_decide_eq_true q1).symm)]; simp⟩, rfl⟩
    · have : k = n := by omega
      subst this
      have HN : Hid (hasB ss s = false) := hasB_no fun i x hx => he.out i x (by rw [← h.1]; exact (List.getElem?_eq_some_iff.1 hx).1) hx
      go_wp2
      go_ret
      exact ⟨⟨_, rfl, by rw [Hid, HN.out]; simp⟩, rfl⟩

theorem Contains_any (A : Option Addr) (n c : Nat) (ss : List ByteArray) (s : ByteArray) (w : World) (h : Sl w 1 eS A n ss) (hn : n ≤ 1048577) :
    Calls Tryd.prog 65 #[.slice A n c, .string s] w fun e w' => e = .returned (.bool (hasB ss s)) ∧ w = w' := by
  go_enter Tryd.func65, Tryd.ntmps65
  go_wp2_with fail
  refine (Index_any A n c ss s _ h hn).mono ?_
  rintro e w2 ⟨⟨k, rfl, HK⟩, rfl⟩
  go_wp2_with fail
  go_ret
  exact ⟨ret_bool (by rw [HK.out]), rfl⟩

theorem hasSlide_any (b : Nat) (A : Option Addr) (n c : Nat) (ss : List ByteArray) (s : ByteArray) (w : World) (c0 : w.cell? ⟨b, 0, none⟩ = some (.slice A n c)) (h : Sl w 1 eS A n ss) (hn : n ≤ 1048577) :
    Calls Tryd.prog 57 #[.pointer (some ⟨b, 0, none⟩), .string s] w fun e w' => e = .returned (.bool (hasB ss s)) ∧ w = w' := by
  go_enter Tryd.func57, Tryd.ntmps57
  go_wp2_with fail
  refine (Contains_any A n c ss s _ h hn).mono ?_
  rintro e w2 ⟨rfl, rfl⟩
  go_wp2_with fail
  go_ret
  exact ⟨rfl, rfl⟩

theorem l18Is_any (A : Option Addr) (n c : Nat) (xs : List AX) (s : ByteArray) (w : World) (h : Sl w 4 eAct A n xs) (hn : n ≤ 1048577) :
    Calls Tryd.prog 55 #[.slice A n c, .string s] w fun e w' => e = .returned (.bool (isSh xs s)) ∧ w = w' := by
  go_enter Tryd.func55, Tryd.ntmps55
  go_wp2
  go_loop [5, 6] (fun r i => ∃ k : Nat, ∃ q : Bool, k ≤ n ∧ i = .int .i64 k ∧ r = .bool q ∧ Hid (q = isSh (xs.take k) s)) (fun _ i => n - (intOf i).toNat)
  case atStart => exact ⟨0, false, by omega, rfl, rfl, rfl⟩
  case round =>
    obtain ⟨k, q, hk, rfl, rfl, he⟩ := hrel
    by_cases hlt : k < n
    · obtain ⟨b, off, x, rfl, hx, hm, c0, c1, c2, c3⟩ := h.atAct hlt
      have HS := Lib.hid (isSh_step hx s)
      clear hx
      cases q1 : (x.2.2.1.toList == s.toList)
      · have HF : Hid (q = isSh (xs.take (k + 1)) s) := by rw [Hid, HS.out, isStep_no (.inl (by rw [str_eq] at q1; simpa using q1))]; exact he
        go_wp2
        go_round
        case rel => exact ⟨k + 1, q, by omega, by go_num, rfl, HF⟩
        case measure => simp [intOf]; omega
      · cases q2 : (x.2.1.toList == [116, 117, 114, 110])
        · have HF : Hid ((x.2.1.toList == [115, 104, 111, 119]) = isSh (xs.take (k + 1)) s) := by rw [Hid, HS.out, isStep_yes (by rw [str_eq] at q1; simpa using q1) q2]; rfl
          go_wp2
          go_round
          case rel => exact ⟨k + 1, _, by omega, by go_num, rfl, HF⟩
          case measure => simp [intOf]; omega
        · have HF : Hid (q = isSh (xs.take (k + 1)) s) := by rw [Hid, HS.out, isStep_no (.inr q2)]; exact he
          go_wp2
          go_round
          case rel => exact ⟨k + 1, q, by omega, by go_num, rfl, HF⟩
          case measure => simp [intOf]; omega
    · have : k = n := by omega
      subst this
      have HL := Lib.hid h.1
      go_wp2
      go_ret
      exact ⟨ret_bool (by rw [he.out, List.take_of_length_le (by rw [HL.out]; exact Nat.le_refl _)]), rfl⟩

theorem isShown_any (A : Option Addr) (n c : Nat) (xs : List AX) (s : ByteArray) (w : World) (h : Sl w 4 eAct A n xs) (hn : n ≤ 1048577) :
    Calls Tryd.prog 58 #[.slice A n c, .string s] w fun e w' => e = .returned (.bool (isSh xs s)) ∧ w = w' := by
  go_enter Tryd.func58, Tryd.ntmps58
  go_wp2
  go_loop [5] (fun i => ∃ k : Nat, k ≤ n ∧ i = .int .i64 (k - 1) ∧ Hid (isSh xs s = isSh (xs.take k) s)) (fun i => (intOf i + 1).toNat)
  case atStart => exact ⟨n, by omega, by go_num, by rw [Hid, List.take_of_length_le (by rw [h.1]; exact Nat.le_refl _)]⟩
  case round =>
    obtain ⟨k1, hk, rfl, he⟩ := hrel
    cases k1 with
    | succ k =>
      have ek : ((k + 1 : Nat) : Int) - 1 = (k : Int) := by omega
      rw [ek]
      obtain ⟨b, off, x, rfl, hx, hm, c0, c1, c2, c3⟩ := h.atAct (i := k) (by omega)
      have HS := Lib.hid (isSh_step hx s)
      clear hx
      cases q1 : (x.2.2.1.toList == s.toList)
      · have HF : Hid (isSh xs s = isSh (xs.take k) s) := by rw [Hid, he.out, HS.out, isStep_no (.inl (by rw [str_eq] at q1; simpa using q1))]
        go_wp2
        go_round
        case rel => exact ⟨k, by omega, by go_num, HF⟩
        case measure => simp [intOf]
      · cases q2 : (x.2.1.toList == [116, 117, 114, 110])
        · have HF : Hid ((x.2.1.toList == [115, 104, 111, 119]) = isSh xs s) := by rw [Hid, he.out, HS.out, isStep_yes (by rw [str_eq] at q1; simpa using q1) q2]; rfl
          go_wp2
          go_ret
          exact ⟨ret_bool HF.out, rfl⟩
        · have HF : Hid (isSh xs s = isSh (xs.take k) s) := by rw [Hid, he.out, HS.out, isStep_no (.inr q2)]
          go_wp2
          go_round
          case rel => exact ⟨k, by omega, by go_num, HF⟩
          case measure => simp [intOf]
    | zero =>
      have HF : Hid (isSh xs s = false) := he.out
      go_wp2
      go_ret
      exact ⟨ret_bool HF.out.symm, rfl⟩

end Go.Proofs.YthplfodfilefjaaDoor
