/-
  Contracts of the functions on showings: LoadsOf.
-/
import Derived.Test.YtodfomglhlamoaaLdC
namespace Go.Proofs.Ytodfomglhlamoaa
open Go.RowKit

theorem ldCode_zero {l : List UInt8} {p : Int} (h : ldCode l p = 0) : ldOk l = true ∧ 1 ≤ p ∧ p ≤ 6 := by
  unfold ldCode at h
  cases h1 : ldOk l <;> cases h2 : inB p 1 6 <;> simp_all
  exact inB_true.1 h2
theorem ldOk_len {l : List UInt8} (h : ldOk l = true) : l.length ≤ 40 := by
  unfold ldOk at h
  simp at h
  exact h.2
theorem plOk_iff {pl : List Int} {p : Int} : plOk pl p = true ↔ ∀ v ∈ pl, 0 ≤ v ∧ v ≤ p - 1 := by
  unfold plOk
  rw [List.all_eq_true]
  exact ⟨fun h v hv => inB_true.1 (h v hv), fun h v hv => inB_true.2 (h v hv)⟩
theorem loCode_bad {l : List UInt8} {p : Int} {pl : List Int} (h : ¬ ldCode l p = 0) : loCode l p pl = ldCode l p := by rw [loCode, if_neg h]
theorem loCode_len {l : List UInt8} {p : Int} {pl : List Int} (h : ldCode l p = 0) (h2 : ¬ pl.length = l.length) : loCode l p pl = 2 := by rw [loCode, if_pos h, if_neg h2]
theorem loCode_pl {l : List UInt8} {p : Int} {pl : List Int} (h : ldCode l p = 0) (h2 : pl.length = l.length) : loCode l p pl = if plOk pl p then 0 else 2 := by rw [loCode, if_pos h, if_pos h2]
theorem loVal_no {l : List UInt8} {p : Int} {pl : List Int} (h : ¬ loCode l p pl = 0) : loVal l p pl = 0 := by rw [loVal, if_neg h]

theorem specLoadsOf_any (s : ByteArray) (p : Int) (A : Option Addr) (n c : Nat) (xs : List Int) (w : World) (hs : s.size ≤ 1048576) (_hp : In64 p) (h : Sl w 1 e1 A n xs) (hn : n ≤ 1048577) :
    Calls Try.prog 16 #[.string s, .int .i64 p, .slice A n c] w fun e w' => e = .returned (.tuple #[.int .i64 (loVal s.data.toList p xs), .int .i64 (loCode s.data.toList p xs)]) ∧ Below w.heap.size w w' := by
  have hl := h.1
  by_cases hz : ldCode s.data.toList p = 0
  · obtain ⟨hok, hp1, hp2⟩ := ldCode_zero hz
    have hsz := ldOk_len hok
    rw [lenB] at hsz
    obtain ⟨P, rfl⟩ := Int.eq_ofNat_of_zero_le (show 0 ≤ p by omega)
    by_cases hlen : n = s.size
    · subst hlen
      have HC := Lib.hid (loCode_pl (pl := xs) hz (by rw [lenB, hl]))
      have HZ := Lib.hid hz
      clear hz hl
      go_enter Try.func16, Try.ntmps16
      go_wp2_with fail
      refine (l20Code_any s P _ hs).mono ?_
      rintro e w2 ⟨rfl, rfl⟩
      rw [HZ.out]
      go_wp2_with fail
      go_loop [9] (fun i => ∃ k : Nat, k ≤ s.size ∧ i = .int .i64 k ∧ Hid ((xs.take k).all (fun v => inB v 0 ((P : Int) - 1)) = true)) (fun i => s.size - (intOf i).toNat)
      case atStart => exact ⟨0, by omega, rfl, by simp [Hid]⟩
      case round =>
        obtain ⟨k, hk, rfl, he⟩ := hrel
        by_cases hlt : k < s.size
        · obtain ⟨b, off, v, rfl, hx, hm, c0⟩ := h.at1 hlt
          cases q : inB v 0 ((P : Int) - 1)
          · have H1 : Hid (loCode s.data.toList P xs = 2) := by
              rw [Hid, HC.out, if_neg]; unfold plOk; rw [all_no (fun v => inB v 0 ((P : Int) - 1)) hx q]; decide
            go_wp2_with fail
            refine (l00In_any _ _ _ _).mono ?_
            rintro e w3 ⟨rfl, rfl⟩
            go_wp2_with fail
            go_ret2
            exact ⟨ret2 (by rw [loVal_no (by rw [H1.out]; decide)]) H1.out.symm, Below.refl _ _⟩
          · have HS : Hid ((xs.take (k + 1)).all (fun v => inB v 0 ((P : Int) - 1)) = true) := by rw [Hid, all_step _ hx, he.out, q]; rfl
            go_wp2_with fail
            refine (l00In_any _ _ _ _).mono ?_
            rintro e w3 ⟨rfl, rfl⟩
            go_wp2_with fail
            go_round
            case rel => exact ⟨k + 1, by omega, by go_num, HS⟩
            case measure => simp [intOf]; omega
        · have : k = s.size := by omega
          subst this
          have hall : plOk xs P = true := by unfold plOk; rw [← take_all h.1]; exact he.out
          have H1 : Hid (loCode s.data.toList P xs = 0) := by rw [Hid, HC.out, if_pos hall]
          have H2 : Hid (loVal s.data.toList P xs = lsVal s.data.toList xs P) := by rw [Hid, loVal, if_pos H1.out]
          go_wp2_with fail
          refine (l20Of_any s P A s.size c xs _ hs (by omega) (by omega) h rfl (plOk_iff.1 hall)).mono ?_
          rintro e w3 ⟨rfl, hb⟩
          go_wp2_with fail
          go_ret2
          exact ⟨ret2 H2.out.symm H1.out.symm, hb⟩
    · have H1 : Hid (loCode s.data.toList P xs = 2) := loCode_len hz (by rw [lenB, hl]; exact hlen)
      have HZ := Lib.hid hz
      clear hz hl
      go_enter Try.func16, Try.ntmps16
      go_wp2_with fail
      refine (l20Code_any s P _ hs).mono ?_
      rintro e w2 ⟨rfl, rfl⟩
      rw [HZ.out]
      go_wp2_with fail
      go_ret2
      exact ⟨ret2 (by rw [loVal_no (by rw [H1.out]; decide)]) H1.out.symm, Below.refl _ _⟩
  · have hz2 : (ldCode s.data.toList p != 0) = true := by simp [hz]
    have H1 := Lib.hid (loCode_bad (pl := xs) hz)
    clear hl
    go_enter Try.func16, Try.ntmps16
    go_wp2_with fail
    refine (l20Code_any s p _ hs).mono ?_
    rintro e w2 ⟨rfl, rfl⟩
    go_wp2_with fail
    go_ret2
    exact ⟨ret2 (by rw [loVal_no (by rw [H1.out]; exact hz)]) H1.out.symm, Below.refl _ _⟩

theorem LoadsOf1_any (v p : Int) (g : Nat) (w : World) (hp : 1 ≤ p ∧ p ≤ 6) (c0 : w.cell? ⟨g, 0, none⟩ = some (.int .i64 p)) :
    Calls Try.prog 44 #[.int .i64 v, .pointer (some ⟨g, 0, none⟩)] w fun e w' => e = .returned (.bool (!inB v 0 (p - 1))) ∧ w = w' := by
  go_enter Try.func44, Try.ntmps44
  go_wp2_with (go_at_call 38; refine (within_any _ _ _ _).mono ?_; rintro e w' ⟨rfl, rfl⟩)
  go_ret
  exact ⟨rfl, rfl⟩

theorem IndexFuncL_any (p : Int) (g : Nat) (A : Option Addr) (n c : Nat) (xs : List Int) (w : World) (h : Sl w 1 e1 A n xs) (hn : n ≤ 1048577) (hp : 1 ≤ p ∧ p ≤ 6) (c0 : w.cell? ⟨g, 0, none⟩ = some (.int .i64 p)) :
    Calls Try.prog 53 #[.slice A n c, .func (.func 44) #[] #[.pointer (some ⟨g, 0, none⟩)]] w fun e w' => e = .returned (.int .i64 (idxI (fun v => !inB v 0 (p - 1)) xs)) ∧ w = w' := by
  go_enter Try.func53, Try.ntmps53
  go_wp2
  go_loop [8] (fun i => ∃ k : Nat, k ≤ n ∧ i = .int .i64 k ∧ Hid ((xs.take k).any (fun v => !inB v 0 (p - 1)) = false)) (fun i => n - (intOf i).toNat)
  case atStart => exact ⟨0, by omega, rfl, by simp [Hid]⟩
  case round =>
    obtain ⟨k, hk, rfl, he⟩ := hrel
    by_cases hlt : k < n
    · obtain ⟨b, off, x, rfl, hx, hm, c1⟩ := h.at1 hlt
      go_wp2_with (go_at_call 44; refine (LoadsOf1_any x p g _ hp c0).mono ?_; rintro e w2 ⟨rfl, rfl⟩)
      · have q1 : (!inB x 0 (p - 1)) = true := by assumption
        go_ret
        exact ⟨ret_int (by rw [idxI_hit he.out hx q1]), rfl⟩
      · have q1 : (!inB x 0 (p - 1)) = false := by assumption
        go_round
        case rel => exact ⟨k + 1, by omega, by go_num, by rw [Hid, any_step _ hx, he.out, q1]; rfl⟩
        case measure => simp [intOf]; omega
    · go_wp2
      go_ret
      have : k = n := by omega
      subst this
      exact ⟨ret_int (by rw [idxI_miss (by rw [← take_all h.1]; exact he.out)]), rfl⟩

theorem ContainsFuncL_any (p : Int) (g : Nat) (A : Option Addr) (n c : Nat) (xs : List Int) (w : World) (h : Sl w 1 e1 A n xs) (hn : n ≤ 1048577) (hp : 1 ≤ p ∧ p ≤ 6) (c0 : w.cell? ⟨g, 0, none⟩ = some (.int .i64 p)) :
    Calls Try.prog 43 #[.slice A n c, .func (.func 44) #[] #[.pointer (some ⟨g, 0, none⟩)]] w fun e w' => e = .returned (.bool (!plOk xs p)) ∧ w = w' := by
  have HE : Hid (decide (0 ≤ idxI (fun v => !inB v 0 (p - 1)) xs) = !plOk xs p) := by
    have h1 := idxI_nn (fun v => !inB v 0 (p - 1)) xs
    have h2 := any_not_all (fun v => inB v 0 (p - 1)) xs
    rw [Hid, h1, plOk, ← h2, Bool.not_not]
  go_enter Try.func43, Try.ntmps43
  go_wp2_with (go_at_call 53; refine (IndexFuncL_any p g A n c xs _ h hn hp c0).mono ?_; rintro e w2 ⟨rfl, rfl⟩)
  go_ret
  exact ⟨ret_bool HE.out, rfl⟩

theorem implLoadsOf_any (s : ByteArray) (p : Int) (A : Option Addr) (n c : Nat) (xs : List Int) (w : World) (hs : s.size ≤ 1048576) (_hp : In64 p) (h : Sl w 1 e1 A n xs) (hn : n ≤ 1048577) :
    Calls Try.prog 18 #[.string s, .int .i64 p, .slice A n c] w fun e w' => e = .returned (.tuple #[.int .i64 (loVal s.data.toList p xs), .int .i64 (loCode s.data.toList p xs)]) ∧ Below w.heap.size w w' := by
  have hl := h.1
  by_cases hz : ldCode s.data.toList p = 0
  · obtain ⟨hok, hp1, hp2⟩ := ldCode_zero hz
    have hsz := ldOk_len hok
    rw [lenB] at hsz
    obtain ⟨P, rfl⟩ := Int.eq_ofNat_of_zero_le (show 0 ≤ p by omega)
    have hb0 := below_alloc w (.cells #[.int .i64 (P : Int)] 2)
    have hs0 := h.below hb0
    have c0 : (w.alloc (.cells #[.int .i64 (P : Int)] 2)).cell? ⟨w.heap.size, 0, none⟩ = some (.int .i64 (P : Int)) := by simp [go_sem]
    by_cases hlen : n = s.size
    · subst hlen
      have HC := Lib.hid (loCode_pl (pl := xs) hz (by rw [lenB, hl]))
      have HZ := Lib.hid hz
      clear hz hl
      cases hpl : plOk xs P
      · have H1 : Hid (loCode s.data.toList P xs = 2) := by rw [Hid, HC.out, hpl]; rfl
        go_enter Try.func18, Try.ntmps18
        go_wp2_with fail
        refine (showingCode_any s P _ hs).mono ?_
        rintro e w2 ⟨rfl, rfl⟩
        rw [HZ.out]
        go_wp2_with fail
        refine (ContainsFuncL_any P w.heap.size A s.size c xs _ hs0 hn (by omega) c0).mono ?_
        rintro e w3 ⟨rfl, rfl⟩
        go_wp2_with fail
        go_ret2
        exact ⟨ret2 (by rw [loVal_no (by rw [H1.out]; decide)]) H1.out.symm, hb0⟩
      · have H1 : Hid (loCode s.data.toList P xs = 0) := by rw [Hid, HC.out, hpl]; rfl
        have H2 : Hid (loVal s.data.toList P xs = lsVal s.data.toList xs P) := by rw [Hid, loVal, if_pos H1.out]
        go_enter Try.func18, Try.ntmps18
        go_wp2_with fail
        refine (showingCode_any s P _ hs).mono ?_
        rintro e w2 ⟨rfl, rfl⟩
        rw [HZ.out]
        go_wp2_with fail
        refine (ContainsFuncL_any P w.heap.size A s.size c xs _ hs0 hn (by omega) c0).mono ?_
        rintro e w3 ⟨rfl, rfl⟩
        go_wp2_with fail
        refine (loadsOf_any s P A s.size c xs _ hs (by omega) (by omega) hs0 rfl (plOk_iff.1 hpl)).mono ?_
        rintro e w3 ⟨rfl, hb⟩
        go_wp2_with fail
        go_ret2
        exact ⟨ret2 H2.out.symm H1.out.symm, below_step hb0 hb⟩
    · have H1 : Hid (loCode s.data.toList P xs = 2) := loCode_len hz (by rw [lenB, hl]; exact hlen)
      have HZ := Lib.hid hz
      have hlen2 : ((n : Int) != (s.size : Int)) = true := by rw [bne_iff_ne]; omega
      clear hz hl
      go_enter Try.func18, Try.ntmps18
      go_wp2_with fail
      refine (showingCode_any s P _ hs).mono ?_
      rintro e w2 ⟨rfl, rfl⟩
      rw [HZ.out]
      go_wp2_with fail
      go_ret2
      exact ⟨ret2 (by rw [loVal_no (by rw [H1.out]; decide)]) H1.out.symm, hb0⟩
  · have hz2 : (ldCode s.data.toList p == 0) = false := by simp [hz]
    have hz3 : (ldCode s.data.toList p != 0) = true := by simp [hz]
    have H1 := Lib.hid (loCode_bad (pl := xs) hz)
    clear hl
    go_enter Try.func18, Try.ntmps18
    go_wp2_with fail
    refine (showingCode_any s p _ hs).mono ?_
    rintro e w2 ⟨rfl, rfl⟩
    go_wp2_with fail
    go_ret2
    exact ⟨ret2 (by rw [loVal_no (by rw [H1.out]; exact hz)]) H1.out.symm, below_alloc _ _⟩

end Go.Proofs.Ytodfomglhlamoaa
