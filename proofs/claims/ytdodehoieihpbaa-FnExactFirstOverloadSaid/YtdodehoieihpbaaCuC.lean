/-
  Contracts of the exported functions on cues.
-/
import Derived.Test.YtdodehoieihpbaaCuB
namespace Go.Proofs.Ytdodehoieihpbaa
open Go.RowKit

def cueCode (xs : List (Int × Int × Int × Int)) : Int := if cueOk xs then 0 else 1
def endVal (xs : List (Int × Int × Int × Int)) : Int := if cueOk xs then cend xs else 0
def mostVal (xs : List (Int × Int × Int × Int)) : Int := if cueOk xs then most xs else 0
def idleVal (xs : List (Int × Int × Int × Int)) : Int := if cueOk xs then idleK xs (cend xs).toNat else 0
def handsAtCode (xs : List (Int × Int × Int × Int)) (t : Int) : Int := if cueOk xs then (if inB t 0 20000 then 0 else 2) else 1
def handsAtVal (xs : List (Int × Int × Int × Int)) (t : Int) : Int := if handsAtCode xs t = 0 then hands xs t else 0
def hCode (xs : List (Int × Int × Int × Int)) (m : Int) : Int := if cueOk xs then (if inB m 0 24 then 0 else 2) else 1
def overCode (xs : List (Int × Int × Int × Int)) (m : Int) : Int := if hCode xs m = 0 then (if ovK xs m xs.length < 0 then 3 else 0) else hCode xs m
def overVal (xs : List (Int × Int × Int × Int)) (m : Int) : Int := if overCode xs m = 0 then ovK xs m xs.length else 0
theorem hCode_cases (xs : List (Int × Int × Int × Int)) (m : Int) : (hCode xs m = 1 ∧ cueOk xs = false) ∨ (hCode xs m = 2 ∧ cueOk xs = true ∧ inB m 0 24 = false) ∨ (hCode xs m = 0 ∧ cueOk xs = true ∧ inB m 0 24 = true) := by
  unfold hCode
  cases cueOk xs <;> cases inB m 0 24 <;> simp
theorem ovK_step {xs : List (Int × Int × Int × Int)} (m : Int) {k : Nat} {x : Int × Int × Int × Int} (h : xs[k]? = some x) : ovK xs m (k + 1) = overF xs m (ovK xs m k) x := foldl_step _ _ h

theorem specEndOfCues_any (A : Option Addr) (n c : Nat) (xs : List (Int × Int × Int × Int)) (w : World) (h : Sl w 4 e4 A n xs) (hn : n ≤ 1048577) :
    Calls Try.prog 20 #[.slice A n c] w fun e w' => e = .returned (.tuple #[.int .i64 (endVal xs), .int .i64 (cueCode xs)]) ∧ Below w.heap.size w w' := by
  cases hok : cueOk xs
  · go_enter Try.func20, Try.ntmps20
    go_wp2_with fail
    refine (l17Ok_any A n c xs _ h hn).mono ?_
    rintro e w2 ⟨rfl, hb⟩
    go_wp2_with fail
    go_ret2
    exact ⟨ret2 (by simp [endVal, hok]) (by simp [cueCode, hok]), hb⟩
  · go_enter Try.func20, Try.ntmps20
    go_wp2_with fail
    refine (l17Ok_any A n c xs _ h hn).mono ?_
    rintro e w2 ⟨rfl, hb⟩
    go_wp2_with fail
    refine (l17End_any A n c xs _ (h.below hb) (cueOk_iff.1 hok).w).mono ?_
    rintro e w3 ⟨rfl, hb3⟩
    go_wp2_with fail
    go_ret2
    exact ⟨ret2 (by simp [endVal, hok]) (by simp [cueCode, hok]), below_step hb hb3⟩

theorem implEndOfCues_any (A : Option Addr) (n c : Nat) (xs : List (Int × Int × Int × Int)) (w : World) (h : Sl w 4 e4 A n xs) (hn : n ≤ 1048577) :
    Calls Try.prog 21 #[.slice A n c] w fun e w' => e = .returned (.tuple #[.int .i64 (endVal xs), .int .i64 (cueCode xs)]) ∧ Below w.heap.size w w' := by
  cases hok : cueOk xs
  · go_enter Try.func21, Try.ntmps21
    go_wp2_with fail
    refine (implValidCues_any A n c xs _ h hn).mono ?_
    rintro e w2 ⟨rfl, hb⟩
    go_wp2_with fail
    go_ret2
    exact ⟨ret2 (by simp [endVal, hok]) (by simp [cueCode, hok]), hb⟩
  · go_enter Try.func21, Try.ntmps21
    go_wp2_with fail
    refine (implValidCues_any A n c xs _ h hn).mono ?_
    rintro e w2 ⟨rfl, hb⟩
    go_wp2_with fail
    refine (endOfCues_any A n c xs _ (h.below hb) (cueOk_iff.1 hok).w).mono ?_
    rintro e w3 ⟨rfl, hb3⟩
    go_wp2_with fail
    go_ret2
    exact ⟨ret2 (by simp [endVal, hok]) (by simp [cueCode, hok]), below_step hb hb3⟩

theorem specMostHands_any (A : Option Addr) (n c : Nat) (xs : List (Int × Int × Int × Int)) (w : World) (h : Sl w 4 e4 A n xs) (hn : n ≤ 1048577) :
    Calls Try.prog 24 #[.slice A n c] w fun e w' => e = .returned (.tuple #[.int .i64 (mostVal xs), .int .i64 (cueCode xs)]) ∧ Below w.heap.size w w' := by
  cases hok : cueOk xs
  · go_enter Try.func24, Try.ntmps24
    go_wp2_with fail
    refine (l17Ok_any A n c xs _ h hn).mono ?_
    rintro e w2 ⟨rfl, hb⟩
    go_wp2_with fail
    go_ret2
    exact ⟨ret2 (by simp [mostVal, hok]) (by simp [cueCode, hok]), hb⟩
  · go_enter Try.func24, Try.ntmps24
    go_wp2_with fail
    refine (l17Ok_any A n c xs _ h hn).mono ?_
    rintro e w2 ⟨rfl, hb⟩
    go_wp2_with fail
    refine (l17Most_any A n c xs _ (h.below hb) (cueOk_iff.1 hok).w).mono ?_
    rintro e w3 ⟨rfl, hb3⟩
    go_wp2_with fail
    go_ret2
    exact ⟨ret2 (by simp [mostVal, hok]) (by simp [cueCode, hok]), below_step hb hb3⟩

theorem implMostHands_any (A : Option Addr) (n c : Nat) (xs : List (Int × Int × Int × Int)) (w : World) (h : Sl w 4 e4 A n xs) (hn : n ≤ 1048577) :
    Calls Try.prog 25 #[.slice A n c] w fun e w' => e = .returned (.tuple #[.int .i64 (mostVal xs), .int .i64 (cueCode xs)]) ∧ Below w.heap.size w w' := by
  cases hok : cueOk xs
  · go_enter Try.func25, Try.ntmps25
    go_wp2_with fail
    refine (implValidCues_any A n c xs _ h hn).mono ?_
    rintro e w2 ⟨rfl, hb⟩
    go_wp2_with fail
    go_ret2
    exact ⟨ret2 (by simp [mostVal, hok]) (by simp [cueCode, hok]), hb⟩
  · go_enter Try.func25, Try.ntmps25
    go_wp2_with fail
    refine (implValidCues_any A n c xs _ h hn).mono ?_
    rintro e w2 ⟨rfl, hb⟩
    go_wp2_with fail
    refine (mostHands_any A n c xs _ (h.below hb) (cueOk_iff.1 hok).w).mono ?_
    rintro e w3 ⟨rfl, hb3⟩
    go_wp2_with fail
    go_ret2
    exact ⟨ret2 (by simp [mostVal, hok]) (by simp [cueCode, hok]), below_step hb hb3⟩

theorem specHandsAt_any (A : Option Addr) (n c : Nat) (xs : List (Int × Int × Int × Int)) (t : Int) (w : World) (h : Sl w 4 e4 A n xs) (hn : n ≤ 1048577) (_ht : In64 t) :
    Calls Try.prog 22 #[.slice A n c, .int .i64 t] w fun e w' => e = .returned (.tuple #[.int .i64 (handsAtVal xs t), .int .i64 (handsAtCode xs t)]) ∧ Below w.heap.size w w' := by
  cases hok : cueOk xs
  · go_enter Try.func22, Try.ntmps22
    go_wp2_with fail
    refine (l17Ok_any A n c xs _ h hn).mono ?_
    rintro e w2 ⟨rfl, hb⟩
    go_wp2_with fail
    go_ret2
    exact ⟨ret2 (by simp [handsAtVal, handsAtCode, hok]) (by simp [handsAtCode, hok]), hb⟩
  · cases hin : inB t 0 20000
    · go_enter Try.func22, Try.ntmps22
      go_wp2_with fail
      refine (l17Ok_any A n c xs _ h hn).mono ?_
      rintro e w2 ⟨rfl, hb⟩
      go_wp2_with fail
      refine (l00In_any _ _ _ _).mono ?_
      rintro e w3 ⟨rfl, rfl⟩
      go_wp2_with fail
      go_ret2
      exact ⟨ret2 (by simp [handsAtVal, handsAtCode, hok, hin]) (by simp [handsAtCode, hok, hin]), hb⟩
    · go_enter Try.func22, Try.ntmps22
      go_wp2_with fail
      refine (l17Ok_any A n c xs _ h hn).mono ?_
      rintro e w2 ⟨rfl, hb⟩
      go_wp2_with fail
      refine (l00In_any _ _ _ _).mono ?_
      rintro e w3 ⟨rfl, rfl⟩
      go_wp2_with fail
      refine (l17At_any A n c xs t _ (h.below hb) (cueOk_iff.1 hok).w).mono ?_
      rintro e w3 ⟨rfl, hb3⟩
      go_wp2_with fail
      go_ret2
      exact ⟨ret2 (by simp [handsAtVal, handsAtCode, hok, hin]) (by simp [handsAtCode, hok, hin]), below_step hb hb3⟩

theorem implHandsAt_any (A : Option Addr) (n c : Nat) (xs : List (Int × Int × Int × Int)) (t : Int) (w : World) (h : Sl w 4 e4 A n xs) (hn : n ≤ 1048577) (_ht : In64 t) :
    Calls Try.prog 23 #[.slice A n c, .int .i64 t] w fun e w' => e = .returned (.tuple #[.int .i64 (handsAtVal xs t), .int .i64 (handsAtCode xs t)]) ∧ Below w.heap.size w w' := by
  cases hok : cueOk xs
  · go_enter Try.func23, Try.ntmps23
    go_wp2_with fail
    refine (implValidCues_any A n c xs _ h hn).mono ?_
    rintro e w2 ⟨rfl, hb⟩
    go_wp2_with fail
    go_ret2
    exact ⟨ret2 (by simp [handsAtVal, handsAtCode, hok]) (by simp [handsAtCode, hok]), hb⟩
  · cases hin : inB t 0 20000
    · go_enter Try.func23, Try.ntmps23
      go_wp2_with fail
      refine (implValidCues_any A n c xs _ h hn).mono ?_
      rintro e w2 ⟨rfl, hb⟩
      go_wp2_with fail
      refine (within_any _ _ _ _).mono ?_
      rintro e w3 ⟨rfl, rfl⟩
      go_wp2_with fail
      go_ret2
      exact ⟨ret2 (by simp [handsAtVal, handsAtCode, hok, hin]) (by simp [handsAtCode, hok, hin]), hb⟩
    · go_enter Try.func23, Try.ntmps23
      go_wp2_with fail
      refine (implValidCues_any A n c xs _ h hn).mono ?_
      rintro e w2 ⟨rfl, hb⟩
      go_wp2_with fail
      refine (within_any _ _ _ _).mono ?_
      rintro e w3 ⟨rfl, rfl⟩
      go_wp2_with fail
      refine (handsAt_any A n c xs t _ (h.below hb) (cueOk_iff.1 hok).w).mono ?_
      rintro e w3 ⟨rfl, hb3⟩
      go_wp2_with fail
      go_ret2
      exact ⟨ret2 (by simp [handsAtVal, handsAtCode, hok, hin]) (by simp [handsAtCode, hok, hin]), below_step hb hb3⟩

theorem l17Code_any (A : Option Addr) (n c : Nat) (xs : List (Int × Int × Int × Int)) (m : Int) (w : World) (h : Sl w 4 e4 A n xs) (hn : n ≤ 1048577) :
    Calls Try.prog 56 #[.slice A n c, .int .i64 m] w fun e w' => e = .returned (.int .i64 (hCode xs m)) ∧ Below w.heap.size w w' := by
  cases hok : cueOk xs <;> cases hin : inB m 0 24
  all_goals
    go_enter Try.func56, Try.ntmps56
    go_wp2_with fail
    refine (l17Ok_any A n c xs _ h hn).mono ?_
    rintro e w2 ⟨rfl, hb⟩
    go_wp2_with (go_at_call 51; refine (l00In_any _ _ _ _).mono ?_; rintro e w' ⟨rfl, rfl⟩)
    go_ret
    exact ⟨ret_int (by simp [hCode, hok, hin]), hb⟩

theorem cuesCode_any (A : Option Addr) (n c : Nat) (xs : List (Int × Int × Int × Int)) (m : Int) (w : World) (h : Sl w 4 e4 A n xs) (hn : n ≤ 1048577) :
    Calls Try.prog 57 #[.slice A n c, .int .i64 m] w fun e w' => e = .returned (.int .i64 (hCode xs m)) ∧ Below w.heap.size w w' := by
  cases hok : cueOk xs <;> cases hin : inB m 0 24
  all_goals
    go_enter Try.func57, Try.ntmps57
    go_wp2_with fail
    refine (implValidCues_any A n c xs _ h hn).mono ?_
    rintro e w2 ⟨rfl, hb⟩
    go_wp2_with (go_at_call 48; refine (within_any _ _ _ _).mono ?_; rintro e w' ⟨rfl, rfl⟩)
    go_ret
    exact ⟨ret_int (by simp [hCode, hok, hin]), hb⟩

theorem specIdleCues_any (A : Option Addr) (n c : Nat) (xs : List (Int × Int × Int × Int)) (w : World) (h : Sl w 4 e4 A n xs) (hn : n ≤ 1048577) :
    Calls Try.prog 26 #[.slice A n c] w fun e w' => e = .returned (.tuple #[.int .i64 (idleVal xs), .int .i64 (cueCode xs)]) ∧ Below w.heap.size w w' := by
  cases hok : cueOk xs
  · go_enter Try.func26, Try.ntmps26
    go_wp2_with fail
    refine (l17Ok_any A n c xs _ h hn).mono ?_
    rintro e w2 ⟨rfl, hb⟩
    go_wp2_with fail
    go_ret2
    exact ⟨ret2 (by simp [idleVal, hok]) (by simp [cueCode, hok]), hb⟩
  · have ok := (cueOk_iff.1 hok).w
    have hE := ok.endK_bd xs.length
    change 0 ≤ cend xs ∧ cend xs ≤ 21000 at hE
    obtain ⟨T, hT⟩ : ∃ T : Nat, cend xs = T := ⟨(cend xs).toNat, by omega⟩
    have hT2 : T ≤ 21000 := by omega
    have HT := Lib.hid hT
    clear hT hE
    go_enter Try.func26, Try.ntmps26
    go_wp2_with fail
    refine (l17Ok_any A n c xs _ h hn).mono ?_
    rintro e w2 ⟨rfl, hb⟩
    go_wp2_with fail
    refine (l17End_any A n c xs _ (h.below hb) ok).mono ?_
    rintro e w3 ⟨rfl, hb3⟩
    have hb03 := below_step hb hb3
    rw [HT.out]
    go_wp2_with fail
    go_loopw [4, 6] (fun s i wr => ∃ k : Nat, k ≤ T ∧ i = .int .i64 k ∧ s = .int .i64 (idleK xs k) ∧ Below w.heap.size w wr) (fun _ i _ => T - (intOf i).toNat)
    case atStart => exact ⟨0, by omega, rfl, by simp [idleK], hb03⟩
    case round =>
      obtain ⟨k, hk, rfl, rfl, hbr⟩ := hrel
      have hi := idleK_bd xs k
      by_cases hlt : k < T
      · cases q : (hands xs (k : Int) == 0)
        · have HS := Lib.hid (idleK_no q)
          go_wp2_with fail
          refine (l17At_any A n c xs k _ (h.below hbr) ok).mono ?_
          rintro e w4 ⟨rfl, hb4⟩
          go_wp2_with fail
          go_roundw
          case rel => exact ⟨k + 1, by omega, by go_num, by rw [HS.out], below_mid hbr hb4 hbr.size⟩
          case measure => simp [intOf]; omega
        · have HS := Lib.hid (idleK_yes q)
          go_wp2_with fail
          refine (l17At_any A n c xs k _ (h.below hbr) ok).mono ?_
          rintro e w4 ⟨rfl, hb4⟩
          go_wp2_with fail
          go_roundw
          case rel => exact ⟨k + 1, by omega, by go_num, by rw [HS.out], below_mid hbr hb4 hbr.size⟩
          case measure => simp [intOf]; omega
      · have : k = T := by omega
        subst this
        go_wp2_with fail
        go_ret2
        exact ⟨ret2 (by simp [idleVal, hok, HT.out]) (by simp [cueCode, hok]), hbr⟩

theorem implIdleCues_any (A : Option Addr) (n c : Nat) (xs : List (Int × Int × Int × Int)) (w : World) (h : Sl w 4 e4 A n xs) (hn : n ≤ 1048577) :
    Calls Try.prog 27 #[.slice A n c] w fun e w' => e = .returned (.tuple #[.int .i64 (idleVal xs), .int .i64 (cueCode xs)]) ∧ Below w.heap.size w w' := by
  cases hok : cueOk xs
  · go_enter Try.func27, Try.ntmps27
    go_wp2_with fail
    refine (implValidCues_any A n c xs _ h hn).mono ?_
    rintro e w2 ⟨rfl, hb⟩
    go_wp2_with fail
    go_ret2
    exact ⟨ret2 (by simp [idleVal, hok]) (by simp [cueCode, hok]), hb⟩
  · have ok := (cueOk_iff.1 hok).w
    have hE := ok.endK_bd xs.length
    change 0 ≤ cend xs ∧ cend xs ≤ 21000 at hE
    obtain ⟨T, hT⟩ : ∃ T : Nat, cend xs = T := ⟨(cend xs).toNat, by omega⟩
    have hT2 : T ≤ 21000 := by omega
    have HT := Lib.hid hT
    clear hT hE
    go_enter Try.func27, Try.ntmps27
    go_wp2_with fail
    refine (implValidCues_any A n c xs _ h hn).mono ?_
    rintro e w2 ⟨rfl, hb⟩
    go_wp2_with fail
    refine (endOfCues_any A n c xs _ (h.below hb) ok).mono ?_
    rintro e w3 ⟨rfl, hb3⟩
    have hb03 := below_step hb hb3
    rw [HT.out]
    go_wp2_with fail
    go_loopw [4, 11] (fun s i wr => ∃ k : Nat, k ≤ T ∧ i = .int .i64 k ∧ s = .int .i64 (idleK xs k) ∧ Below w.heap.size w wr) (fun _ i _ => T - (intOf i).toNat)
    case atStart => exact ⟨0, by omega, rfl, by simp [idleK], hb03⟩
    case round =>
      obtain ⟨k, hk, rfl, rfl, hbr⟩ := hrel
      have hi := idleK_bd xs k
      by_cases hlt : k < T
      · cases q : (hands xs (k : Int) == 0)
        · have HS := Lib.hid (idleK_no q)
          go_wp2_with fail
          refine (handsAt_any A n c xs k _ (h.below hbr) ok).mono ?_
          rintro e w4 ⟨rfl, hb4⟩
          go_wp2_with fail
          go_roundw
          case rel => exact ⟨k + 1, by omega, by go_num, by rw [HS.out], below_mid hbr hb4 hbr.size⟩
          case measure => simp [intOf]; omega
        · have HS := Lib.hid (idleK_yes q)
          go_wp2_with fail
          refine (handsAt_any A n c xs k _ (h.below hbr) ok).mono ?_
          rintro e w4 ⟨rfl, hb4⟩
          go_wp2_with fail
          go_roundw
          case rel => exact ⟨k + 1, by omega, by go_num, by rw [HS.out], below_mid hbr hb4 hbr.size⟩
          case measure => simp [intOf]; omega
      · have : k = T := by omega
        subst this
        go_wp2_with fail
        go_ret2
        exact ⟨ret2 (by simp [idleVal, hok, HT.out]) (by simp [cueCode, hok]), hbr⟩

theorem specFirstOverload_any (A : Option Addr) (n c : Nat) (xs : List (Int × Int × Int × Int)) (m : Int) (w : World) (h : Sl w 4 e4 A n xs) (hn : n ≤ 1048577) (_hm : In64 m) :
    Calls Try.prog 28 #[.slice A n c, .int .i64 m] w fun e w' => e = .returned (.tuple #[.int .i64 (overVal xs m), .int .i64 (overCode xs m)]) ∧ Below w.heap.size w w' := by
  rcases hCode_cases xs m with ⟨hc, hok⟩ | ⟨hc, hok, hin⟩ | ⟨hc, hok, hin⟩
  · have HC := Lib.hid hc
    have H1 : Hid (overCode xs m = 1) := by rw [Hid, overCode, hc]; rfl
    have H2 : Hid (overVal xs m = 0) := by rw [Hid, overVal, H1.out]; rfl
    clear hc
    go_enter Try.func28, Try.ntmps28
    go_wp2_with fail
    refine (l17Code_any A n c xs m _ h hn).mono ?_
    rintro e w2 ⟨rfl, hb⟩
    rw [HC.out]
    go_wp2_with fail
    go_ret2
    exact ⟨ret2 H2.out.symm H1.out.symm, hb⟩
  · have HC := Lib.hid hc
    have H1 : Hid (overCode xs m = 2) := by rw [Hid, overCode, hc]; rfl
    have H2 : Hid (overVal xs m = 0) := by rw [Hid, overVal, H1.out]; rfl
    clear hc
    go_enter Try.func28, Try.ntmps28
    go_wp2_with fail
    refine (l17Code_any A n c xs m _ h hn).mono ?_
    rintro e w2 ⟨rfl, hb⟩
    rw [HC.out]
    go_wp2_with fail
    go_ret2
    exact ⟨ret2 H2.out.symm H1.out.symm, hb⟩
  · have HC := Lib.hid hc
    have H1 : Hid (overCode xs m = if ovK xs m xs.length < 0 then 3 else 0) := by rw [Hid, overCode, if_pos hc]
    clear hc
    have ok := (cueOk_iff.1 hok).w
    have hn6 : n ≤ 6 := by rw [← h.1]; exact ok.len
    have HL := Lib.hid h.1
    go_enter Try.func28, Try.ntmps28
    go_wp2_with fail
    refine (l17Code_any A n c xs m _ h hn).mono ?_
    rintro e w2 ⟨rfl, hb⟩
    rw [HC.out]
    go_wp2_with fail
    go_loopw [7, 8] (fun s i wr => ∃ k : Nat, k ≤ n ∧ i = .int .i64 k ∧ s = .int .i64 (ovK xs m k) ∧ Below w.heap.size w wr) (fun _ i _ => n - (intOf i).toNat)
    case atStart => exact ⟨0, by omega, rfl, by simp [ovK], hb⟩
    case round =>
      obtain ⟨k, hk, rfl, rfl, hbr⟩ := hrel
      by_cases hlt : k < n
      · obtain ⟨b, off, x, rfl, hx, hmx, c0, c1, c2, c3⟩ := (h.below hbr).at4 hlt
        have hb1 := ok.one x hmx
        have HS := Lib.hid (ovK_step m hx)
        by_cases t1 : m < hands xs x.1
        · by_cases t2 : ovK xs m k < 0
          · have HF : Hid (overF xs m (ovK xs m k) x = x.1) := by rw [Hid, overF, if_pos ⟨t1, .inl t2⟩]
            go_wp2_with fail
            refine (l17At_any _ n c xs x.1 _ (h.below hbr) ok).mono ?_
            rintro e w4 ⟨rfl, hb4⟩
            have hb5 := below_mid hbr hb4 hbr.size
            have d0 := ((h.below hb5).get4 hx).1
            go_wp2_with fail
            go_roundw
            case rel => exact ⟨k + 1, by omega, by go_num, by rw [HS.out, HF.out], hb5⟩
            case measure => simp [intOf]; omega
          by_cases t3 : x.1 < ovK xs m k
          · have HF : Hid (overF xs m (ovK xs m k) x = x.1) := by rw [Hid, overF, if_pos ⟨t1, .inr t3⟩]
            go_wp2_with fail
            refine (l17At_any _ n c xs x.1 _ (h.below hbr) ok).mono ?_
            rintro e w4 ⟨rfl, hb4⟩
            have hb5 := below_mid hbr hb4 hbr.size
            have d0 := ((h.below hb5).get4 hx).1
            go_wp2_with fail
            go_roundw
            case rel => exact ⟨k + 1, by omega, by go_num, by rw [HS.out, HF.out], hb5⟩
            case measure => simp [intOf]; omega
          have HF : Hid (overF xs m (ovK xs m k) x = ovK xs m k) := by rw [Hid, overF, if_neg (by omega)]
          go_wp2_with fail
          refine (l17At_any _ n c xs x.1 _ (h.below hbr) ok).mono ?_
          rintro e w4 ⟨rfl, hb4⟩
          have hb5 := below_mid hbr hb4 hbr.size
          have d0 := ((h.below hb5).get4 hx).1
          go_wp2_with fail
          go_roundw
          case rel => exact ⟨k + 1, by omega, by go_num, by rw [HS.out, HF.out], hb5⟩
          case measure => simp [intOf]; omega
        · have HF : Hid (overF xs m (ovK xs m k) x = ovK xs m k) := by rw [Hid, overF, if_neg (by omega)]
          have t1' : decide (m < hands xs x.1) = false := by simp; omega
          go_wp2_with fail
          refine (l17At_any _ n c xs x.1 _ (h.below hbr) ok).mono ?_
          rintro e w4 ⟨rfl, hb4⟩
          have hb5 := below_mid hbr hb4 hbr.size
          have d0 := ((h.below hb5).get4 hx).1
          go_wp2_with fail
          go_roundw
          case rel => exact ⟨k + 1, by omega, by go_num, by rw [HS.out, HF.out], hb5⟩
          case measure => simp [intOf]; omega
      · have : k = n := by omega
        subst this
        by_cases t : ovK xs m k < 0
        · have H1' : Hid (overCode xs m = 3) := by rw [Hid, H1.out, HL.out, if_pos t]
          go_wp2_with fail
          go_ret2
          exact ⟨ret2 (by rw [overVal, H1'.out]; rfl) H1'.out.symm, hbr⟩
        · have H1' : Hid (overCode xs m = 0) := by rw [Hid, H1.out, HL.out, if_neg t]
          go_wp2_with fail
          go_ret2
          exact ⟨ret2 (by rw [overVal, if_pos H1'.out, HL.out]) H1'.out.symm, hbr⟩

theorem implFirstOverload_any (A : Option Addr) (n c : Nat) (xs : List (Int × Int × Int × Int)) (m : Int) (w : World) (h : Sl w 4 e4 A n xs) (hn : n ≤ 1048577) (_hm : In64 m) :
    Calls Try.prog 29 #[.slice A n c, .int .i64 m] w fun e w' => e = .returned (.tuple #[.int .i64 (overVal xs m), .int .i64 (overCode xs m)]) ∧ Below w.heap.size w w' := by
  rcases hCode_cases xs m with ⟨hc, hok⟩ | ⟨hc, hok, hin⟩ | ⟨hc, hok, hin⟩
  · have HC := Lib.hid hc
    have H1 : Hid (overCode xs m = 1) := by rw [Hid, overCode, hc]; rfl
    have H2 : Hid (overVal xs m = 0) := by rw [Hid, overVal, H1.out]; rfl
    clear hc
    go_enter Try.func29, Try.ntmps29
    go_wp2_with fail
    refine (cuesCode_any A n c xs m _ h hn).mono ?_
    rintro e w2 ⟨rfl, hb⟩
    rw [HC.out]
    go_wp2_with fail
    go_ret2
    exact ⟨ret2 H2.out.symm H1.out.symm, hb⟩
  · have HC := Lib.hid hc
    have H1 : Hid (overCode xs m = 2) := by rw [Hid, overCode, hc]; rfl
    have H2 : Hid (overVal xs m = 0) := by rw [Hid, overVal, H1.out]; rfl
    clear hc
    go_enter Try.func29, Try.ntmps29
    go_wp2_with fail
    refine (cuesCode_any A n c xs m _ h hn).mono ?_
    rintro e w2 ⟨rfl, hb⟩
    rw [HC.out]
    go_wp2_with fail
    go_ret2
    exact ⟨ret2 H2.out.symm H1.out.symm, hb⟩
  · have HC := Lib.hid hc
    have H1 : Hid (overCode xs m = if ovK xs m xs.length < 0 then 3 else 0) := by rw [Hid, overCode, if_pos hc]
    clear hc
    have ok := (cueOk_iff.1 hok).w
    have hn6 : n ≤ 6 := by rw [← h.1]; exact ok.len
    have HL := Lib.hid h.1
    go_enter Try.func29, Try.ntmps29
    go_wp2_with fail
    refine (cuesCode_any A n c xs m _ h hn).mono ?_
    rintro e w2 ⟨rfl, hb⟩
    rw [HC.out]
    go_wp2_with fail
    go_loopw [7, 18] (fun s i wr => ∃ k : Nat, k ≤ n ∧ i = .int .i64 k ∧ s = .int .i64 (ovK xs m k) ∧ Below w.heap.size w wr) (fun _ i _ => n - (intOf i).toNat)
    case atStart => exact ⟨0, by omega, rfl, by simp [ovK], hb⟩
    case round =>
      obtain ⟨k, hk, rfl, rfl, hbr⟩ := hrel
      by_cases hlt : k < n
      · obtain ⟨b, off, x, rfl, hx, hmx, c0, c1, c2, c3⟩ := (h.below hbr).at4 hlt
        have hb1 := ok.one x hmx
        have HS := Lib.hid (ovK_step m hx)
        by_cases t1 : m < hands xs x.1
        · by_cases t2 : ovK xs m k < 0
          · have HF : Hid (overF xs m (ovK xs m k) x = x.1) := by rw [Hid, overF, if_pos ⟨t1, .inl t2⟩]
            have hba := hbr.alloc hbr.size (.cells #[.int .i64 x.1, .int .i64 x.2.1, .int .i64 x.2.2.1, .int .i64 x.2.2.2] 45)
            go_wp2_with fail
            refine (handsAt_any _ n c xs x.1 _ (h.below hba) ok).mono ?_
            rintro e w4 ⟨rfl, hb4⟩
            have hb5 := below_mid hba hb4 hba.size
            have d0 : w4.cell? ⟨wr.heap.size, 0, none⟩ = some (.int .i64 x.1) := by rw [hb4.cell (by simp)]; simp
            go_wp2_with fail
            go_roundw
            case rel => exact ⟨k + 1, by omega, by go_num, by rw [HS.out, HF.out], hb5⟩
            case measure => simp [intOf]; omega
          by_cases t3 : x.1 < ovK xs m k
          · have HF : Hid (overF xs m (ovK xs m k) x = x.1) := by rw [Hid, overF, if_pos ⟨t1, .inr t3⟩]
            have hba := hbr.alloc hbr.size (.cells #[.int .i64 x.1, .int .i64 x.2.1, .int .i64 x.2.2.1, .int .i64 x.2.2.2] 45)
            go_wp2_with fail
            refine (handsAt_any _ n c xs x.1 _ (h.below hba) ok).mono ?_
            rintro e w4 ⟨rfl, hb4⟩
            have hb5 := below_mid hba hb4 hba.size
            have d0 : w4.cell? ⟨wr.heap.size, 0, none⟩ = some (.int .i64 x.1) := by rw [hb4.cell (by simp)]; simp
            go_wp2_with fail
            go_roundw
            case rel => exact ⟨k + 1, by omega, by go_num, by rw [HS.out, HF.out], hb5⟩
            case measure => simp [intOf]; omega
          have HF : Hid (overF xs m (ovK xs m k) x = ovK xs m k) := by rw [Hid, overF, if_neg (by omega)]
          have hba := hbr.alloc hbr.size (.cells #[.int .i64 x.1, .int .i64 x.2.1, .int .i64 x.2.2.1, .int .i64 x.2.2.2] 45)
          go_wp2_with fail
          refine (handsAt_any _ n c xs x.1 _ (h.below hba) ok).mono ?_
          rintro e w4 ⟨rfl, hb4⟩
          have hb5 := below_mid hba hb4 hba.size
          have d0 : w4.cell? ⟨wr.heap.size, 0, none⟩ = some (.int .i64 x.1) := by rw [hb4.cell (by simp)]; simp
          go_wp2_with fail
          go_roundw
          case rel => exact ⟨k + 1, by omega, by go_num, by rw [HS.out, HF.out], hb5⟩
          case measure => simp [intOf]; omega
        · have HF : Hid (overF xs m (ovK xs m k) x = ovK xs m k) := by rw [Hid, overF, if_neg (by omega)]
          have t1' : decide (m < hands xs x.1) = false := by simp; omega
          have hba := hbr.alloc hbr.size (.cells #[.int .i64 x.1, .int .i64 x.2.1, .int .i64 x.2.2.1, .int .i64 x.2.2.2] 45)
          go_wp2_with fail
          refine (handsAt_any _ n c xs x.1 _ (h.below hba) ok).mono ?_
          rintro e w4 ⟨rfl, hb4⟩
          have hb5 := below_mid hba hb4 hba.size
          have d0 : w4.cell? ⟨wr.heap.size, 0, none⟩ = some (.int .i64 x.1) := by rw [hb4.cell (by simp)]; simp
          go_wp2_with fail
          go_roundw
          case rel => exact ⟨k + 1, by omega, by go_num, by rw [HS.out, HF.out], hb5⟩
          case measure => simp [intOf]; omega
      · have : k = n := by omega
        subst this
        by_cases t : ovK xs m k < 0
        · have H1' : Hid (overCode xs m = 3) := by rw [Hid, H1.out, HL.out, if_pos t]
          go_wp2_with fail
          go_ret2
          exact ⟨ret2 (by rw [overVal, H1'.out]; rfl) H1'.out.symm, hbr⟩
        · have H1' : Hid (overCode xs m = 0) := by rw [Hid, H1.out, HL.out, if_neg t]
          go_wp2_with fail
          go_ret2
          exact ⟨ret2 (by rw [overVal, if_pos H1'.out, HL.out]) H1'.out.symm, hbr⟩
end Go.Proofs.Ytdodehoieihpbaa
