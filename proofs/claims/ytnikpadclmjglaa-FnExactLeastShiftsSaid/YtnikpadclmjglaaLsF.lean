/-
  The least shifts and the least hands, the reference's exported functions.
-/
import Derived.Test.YtnikpadclmjglaaLsE
import Derived.Test.YtnikpadclmjglaaLsD
import Derived.BigQuiet
namespace Go.Proofs.Ytnikpadclmjglaa
set_option maxRecDepth 100000
open Go.RowKit

theorem Own.lit_at {α : Type} (w : World) (g : Nat) (hg : g = w.heap.size) (T : TypeId) (k : Nat) (enc : α → List Value) (hk : ∀ x, (enc x).length = k) (base : Nat) (hb : base ≤ g) : Own (w.alloc (.cells #[] T)) base T k enc (.slice (some ⟨g, 0, none⟩) 0 0) ([] : List α) := by
  subst hg
  exact Own.lit w #[] T [] 0 hb rfl (by simp [maxLen]) hk rfl
theorem l17Walk_any (B0 : Nat) (L : Option Addr) (n c : Nat) (xs : List Cu) (ok : CuOk xs) (hxl : Hid (xs.length = n)) (gw : Nat) (hLS : 0 < n → ∀ a, L = some a → a.block ≠ gw) (h : Int) (r : Nat) : WalkC B0 L n c xs gw h r := by
  induction r with
  | zero => exact l17Walk_step B0 L n c xs ok hxl gw hLS h 0 (fun r' e => by cases e)
  | succ r ih => exact l17Walk_step B0 L n c xs ok hxl gw hLS h (r + 1) (fun r' e => by injection e with e; subst e; exact ih)

set_option maxHeartbeats 1600000 in
theorem l17Least_any (A : Option Addr) (n c : Nat) (xs : List Cu) (ok : CuOk xs) (h : Int) (w : World) (hL : Sl w 4 e4 A n xs) :
    Calls Try.prog 27 #[.slice A n c, .int .i64 h] w (RetOwnC 2 1 e1 (lsAll xs h).1 (lsAll xs h).2 w) := by
  have hbW : Below w.heap.size w (((w.alloc (.cells #[.slice A n c, .int .i64 h, .slice none 0 0, .int .i64 (-1)] 79)).alloc (.cells #[] 49)).alloc (.cells #[] 2)) := ((below_alloc w _).alloc (by simp) _).alloc (by simp; omega) _
  have hI : IvW w.heap.size A n c w.heap.size h ([], -1) (((w.alloc (.cells #[.slice A n c, .int .i64 h, .slice none 0 0, .int .i64 (-1)] 79)).alloc (.cells #[] 49)).alloc (.cells #[] 2)) :=
    ⟨cell_al2 (newcell w _ _ _ rfl 0) _ _, cell_al2 (newcell w _ _ _ rfl 1) _ _, ⟨_, cell_al2 (newcell w _ _ _ rfl 2) _ _, Own.none_, fun g hg => by cases hg⟩, cell_al2 (newcell w _ _ _ rfl 3) _ _, by simp [go_sem], by simp [go_sem]⟩
  have HI := Lib.hid hI
  have h1 : Own (((w.alloc (.cells #[.slice A n c, .int .i64 h, .slice none 0 0, .int .i64 (-1)] 79)).alloc (.cells #[] 49)).alloc (.cells #[] 2)) w.heap.size 49 4 e4 (.slice (some ⟨w.heap.size + 1, 0, none⟩) 0 0) (zS xs []) := by
    rw [show zS xs [] = [] from List.zipWith_nil_right]
    exact (Own.lit_at (w.alloc (.cells #[.slice A n c, .int .i64 h, .slice none 0 0, .int .i64 (-1)] 79)) (w.heap.size + 1) (by simp) 49 4 e4 e4_len w.heap.size (by omega)).alloc _
  have h2 : Own (((w.alloc (.cells #[.slice A n c, .int .i64 h, .slice none 0 0, .int .i64 (-1)] 79)).alloc (.cells #[] 49)).alloc (.cells #[] 2)) w.heap.size 2 1 e1 (.slice (some ⟨w.heap.size + 2, 0, none⟩) 0 0) ([] : List Int) :=
    Own.lit_at ((w.alloc (.cells #[.slice A n c, .int .i64 h, .slice none 0 0, .int .i64 (-1)] 79)).alloc (.cells #[] 49)) (w.heap.size + 2) (by simp) 2 1 e1 e1_len w.heap.size (by omega)
  have hr := l17Walk_any w.heap.size A n c xs ok hL.1 w.heap.size (fun hp a ha e => by have := hL.lt hp a ha; omega) h n [] _ 0 0 _ 0 ([], -1) _ (by omega) (by simp; omega) HI.out (((hL.alloc _).alloc _).alloc _) h1 (fun g hg => by injection hg with hg; subst hg; simp) h2 (fun g hg => by injection hg with hg; subst hg; simp) (ShB.nil _) rfl
  have HR := Lib.hid hr
  clear hr hI h1 h2
  go_enter Try.func27, Try.ntmps27
  go_wp2_with fail
  refine HR.out.mono ?_
  rintro e w4 ⟨rfl, hI4, hk4⟩
  rw [List.drop_zero] at hI4
  have hb4 := hbW.trans (hk4.below (B := w.heap.size) (by rintro k rfl; omega) (by simp; omega))
  have c3 := hI4.c3
  obtain ⟨v2, c2, ho2, _⟩ := hI4.c2
  change w4.cell? _ = some (.int .i64 (lsAll xs h).2) at c3
  change Own _ _ _ _ _ _ (lsAll xs h).1 at ho2
  clear hI4
  go_wp2_with fail
  go_quiet (fail)
  have hb5 := below_drewN hb4 nq
  have ho5 := ho2.drewN nq
  go_wp2_with fail
  go_ret2
  exact RetOwnC.mk ho5 hb5

set_option maxHeartbeats 1600000 in
theorem specLeastShifts_any (A : Option Addr) (n c : Nat) (xs : List Cu) (h : Int) (w : World) (hL : Sl w 4 e4 A n xs) (hn : n ≤ 1048577) (_ht : In64 h) :
    Calls Try.prog 12 #[.slice A n c, .int .i64 h] w (RetOwnC 2 1 e1 (lsVal xs h) (lsCode xs h) w) := by
  rcases hCode_cases xs h with ⟨h1, hok⟩ | ⟨h1, hok, hin⟩ | ⟨h1, hok, hin⟩
  iterate 2
    · have HV : Hid (lsVal xs h = []) := lsVal_no (by rw [h1]; decide)
      have HC : Hid (lsCode xs h = hCode xs h) := lsCode_no (by rw [h1]; decide)
      have H1 := Lib.hid h1
      go_enter Try.func12, Try.ntmps12
      go_wp2_with fail
      refine (l17Code_any A n c xs h _ hL hn).mono ?_
      rintro e w2 ⟨rfl, hb⟩
      rw [H1.out]
      go_wp2_with fail
      go_ret2
      rw [HV.out, HC.out, H1.out]
      exact RetOwnC.none_ hb
  · have ok := cueOk_iff.1 hok
    have H1 := Lib.hid h1
    go_enter Try.func12, Try.ntmps12
    go_wp2_with fail
    refine (l17Code_any A n c xs h _ hL hn).mono ?_
    rintro e w2 ⟨rfl, hb⟩
    rw [H1.out]
    go_wp2_with fail
    refine (l17Least_any A n c xs ok h _ (hL.below hb)).mono ?_
    rintro e w4 ⟨A4, n4, c4, rfl, ho4, hb4⟩
    have hb5 := below_step hb hb4
    by_cases t1 : (lsAll xs h).2 < 0
    · have HV : Hid (lsVal xs h = []) := by rw [Hid, lsVal, if_neg fun e => absurd t1 (by have := e.2; omega)]
      have HC : Hid (lsCode xs h = 3) := by rw [Hid, lsCode, if_pos h1, if_neg (by omega)]
      have hd := decide_eq_true t1
      go_wp2_with fail
      go_ret2
      rw [HV.out, HC.out]
      exact RetOwnC.none_ hb5
    · have HV : Hid (lsVal xs h = (lsAll xs h).1) := by rw [Hid, lsVal, if_pos ⟨h1, by omega⟩]
      have HC : Hid (lsCode xs h = 0) := by rw [Hid, lsCode, if_pos h1, if_pos (by omega)]
      have hd := decide_eq_false t1
      go_wp2_with fail
      go_ret2
      rw [HV.out, HC.out]
      exact RetOwnC.mk (ho4.mono hb.size) hb5

set_option maxHeartbeats 1600000 in
theorem specHandsWithSlack_any (A : Option Addr) (n c : Nat) (xs : List Cu) (w : World) (h : Sl w 4 e4 A n xs) (hn : n ≤ 1048577) :
    Calls Try.prog 8 #[.slice A n c] w fun e w' => e = .returned (.tuple #[.int .i64 (hwVal xs), .int .i64 (cueCode xs)]) ∧ Below w.heap.size w w' := by
  cases hok : cueOk xs
  · go_enter Try.func8, Try.ntmps8
    go_wp2_with fail
    refine (l17Ok_any A n c xs _ h hn).mono ?_
    rintro e w2 ⟨rfl, hb⟩
    go_wp2_with fail
    go_ret2
    exact ⟨ret2 (by simp [hwVal, hok]) (by simp [cueCode, hok]), hb⟩
  · have ok := cueOk_iff.1 hok
    have hbd := hsAll_bd ok
    have HQ1 : Hid (hwVal xs = hsAll xs) := by rw [Hid, hwVal, hok]; rfl
    have HF : Hid (∀ m : Int, hsAll xs ≤ m ↔ 0 ≤ (lsAll xs m).2) := fun m => hs_iff
    go_enter Try.func8, Try.ntmps8
    go_wp2_with fail
    refine (l17Ok_any A n c xs _ h hn).mono ?_
    rintro e w2 ⟨rfl, hb2⟩
    go_wp2_with fail
    go_loopw [4] (fun i wr => ∃ k : Nat, (k : Int) ≤ hsAll xs ∧ i = .int .i64 k ∧ Below w.heap.size w wr) (fun i _ => 25 - (intOf i).toNat)
    case atStart => exact ⟨0, by omega, rfl, hb2⟩
    case round =>
      obtain ⟨k, hk, rfl, hb⟩ := hrel
      have hf := HF.out (k : Int)
      go_wp2_with fail
      refine (l17Least_any A n c xs ok (k : Int) _ (h.below hb)).mono ?_
      rintro e w4 ⟨A4, n4, c4, rfl, _, hb4⟩
      have hb5 := below_mid hb hb4 hb.size
      by_cases t1 : 0 ≤ (lsAll xs (k : Int)).2
      · have he : Hid (hsAll xs = (k : Int)) := by rw [Hid]; have := hf.2 t1; omega
        have hd := decide_eq_true t1
        clear hf
        go_wp2_with fail
        go_ret2
        exact ⟨ret2 (by rw [HQ1.out, he.out]) (by simp [cueCode, hok]), hb5⟩
      · have hlt : (k : Int) + 1 ≤ hsAll xs := by rcases Int.lt_or_le (k : Int) (hsAll xs) with h1 | h1; omega; exact absurd (hf.1 h1) t1
        have hd := decide_eq_false t1
        clear hf
        go_wp2_with fail
        go_roundw
        case rel => exact ⟨k + 1, by omega, by go_num, hb5⟩
        case measure => simp [intOf]; omega

theorem allS_mem_len {xs : List Cu} {s : List Int} (h : s ∈ allS xs) : s.length = xs.length := allS_len h
theorem foldS_len {xs : List Cu} {h : Int} {m : Nat} : ∀ (l : List (List Int)) (st : List Int × Int), st.1.length ≤ m → (∀ s ∈ l, s.length ≤ m) → (foldS (lsStep xs h) [] l st).1.length ≤ m
  | [], _, h1, _ => h1
  | s :: l, st, h1, h2 => by
    show (foldS (lsStep xs h) [] l (lsStep xs h st ([] ++ s))).1.length ≤ m
    refine foldS_len l _ ?_ fun t ht => h2 t (by simp [ht])
    rw [lsStep]; split
    · exact h2 s (by simp)
    · exact h1
theorem lsVal_len (xs : List Cu) (h : Int) : (lsVal xs h).length ≤ 1048577 := by
  rw [lsVal]; split
  · next hc =>
    have ok : cueOk xs = true := by
      have := hc.1
      rcases hCode_cases xs h with ⟨h1, _⟩ | ⟨h1, _⟩ | ⟨_, h2, _⟩
      · omega
      · omega
      · exact h2
    have hl := (cueOk_iff.1 ok).len
    exact foldS_len (allS xs) ([], -1) (by simp) fun s hs => by rw [allS_len hs]; omega
  · simp

end Go.Proofs.Ytnikpadclmjglaa
