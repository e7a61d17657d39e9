/-
  Contracts of the functions on pieces: when all beats begin, with a range (the program).
-/
import Derived.Test.YtoehlgfjfdfnfaaTmC
import Derived.Test.YtoehlgfjfdfnfaaTn
import Derived.Deep.RegionHeld3
namespace Go.Proofs.Ytoehlgfjfdfnfaa
open Go.RowKit

theorem TimeOfBeat1_any (b : Int) (gb gl : Nat) (A : Option Addr) (n c : Nat) (xs : List (Int × Int × Int)) (w : World) (h : Sl w 3 e3 A n xs) (ok : PtB xs) (cb : w.cell? ⟨gb, 0, none⟩ = some (.int .i64 b)) (cl : w.cell? ⟨gl, 0, none⟩ = some (.slice A n c)) :
    Calls Try.prog 38 #[.pointer (some ⟨gb, 0, none⟩), .pointer (some ⟨gl, 0, none⟩)] w fun e w' => e = .returned (.bool (inB b 0 (btI xs - 1))) ∧ Below w.heap.size w w' := by
  have hbt := ok.bt_bd
  have r1 : IntKind.i64.wrap (btI xs - 1) = btI xs - 1 := wr64 (by omega)
  go_enter Try.func38, Try.ntmps38
  go_wp2_with fail
  go_region_held3 (fun w' => Below w.heap.size w w' ∧ w'.cell? ⟨gb, 0, none⟩ = some (.int .i64 b) ∧ w'.cell? ⟨gl, 0, none⟩ = some (.slice A n c))
    (first
      | exact ⟨(Below.refl _ _).drew, cb, cl⟩
      | assumption
      | (obtain ⟨hq1, hq2, hq3⟩ := (show Below w.heap.size w _ ∧ World.cell? _ ⟨gb, 0, none⟩ = some (.int .i64 b) ∧ World.cell? _ ⟨gl, 0, none⟩ = some (.slice A n c) from by assumption)
         exact ⟨below_mid hq1 hb3 hq1.size, (hb3.cell (World.block_lt_of_cell? _ _ hq2)).trans hq2, (hb3.cell (World.block_lt_of_cell? _ _ hq3)).trans hq3⟩)
      | trace_state)
    (first
      | (go_at_call 39; refine (beatsOf_any A n c xs _ (h.below (show Below w.heap.size w _ ∧ World.cell? _ ⟨gb, 0, none⟩ = some (.int .i64 b) ∧ World.cell? _ ⟨gl, 0, none⟩ = some (.slice A n c) from by assumption).1) ok).mono ?_; rintro r w3 ⟨rfl, hb3⟩)
      | (go_at_call 32; refine (within_any _ _ _ _).mono ?_; rintro r w3 ⟨rfl, rfl⟩))
  have hq := (show Below w.heap.size w _ ∧ World.cell? _ ⟨gb, 0, none⟩ = some (.int .i64 b) ∧ World.cell? _ ⟨gl, 0, none⟩ = some (.slice A n c) from by assumption)
  go_wp2_with fail
  go_ret
  exact ⟨rfl, hq.1⟩

theorem BeatAt1_any (s : Int) (gs : Nat) (w : World) (cs : w.cell? ⟨gs, 0, none⟩ = some (.int .i64 s)) :
    Calls Try.prog 31 #[.pointer (some ⟨gs, 0, none⟩)] w fun e w' => e = .returned (.bool (inB s 0 100000)) ∧ Below w.heap.size w w' := by
  go_enter Try.func31, Try.ntmps31
  go_wp2_with (go_at_call 32; refine (within_any _ _ _ _).mono ?_; rintro e w' ⟨rfl, rfl⟩)
  go_ret
  exact ⟨rfl, Below.refl _ _⟩

theorem LengthOfPiece1_any (w : World) :
    Calls Try.prog 35 #[] w fun e w' => e = .returned (.bool true) ∧ Below w.heap.size w w' := by
  go_enter Try.func35, Try.ntmps35
  go_wp2
  go_ret
  exact ⟨rfl, Below.refl _ _⟩

theorem FitCues11_any (s : Int) (w : World) :
    Calls Try.prog 42 #[.int .i64 s] w fun e w' => e = .returned (.bool (!inB s 0 100000)) ∧ w = w' := by
  go_enter Try.func42, Try.ntmps42
  go_wp2_with (go_at_call 32; refine (within_any _ _ _ _).mono ?_; rintro e w' ⟨rfl, rfl⟩)
  go_ret
  exact ⟨rfl, rfl⟩

theorem IndexFuncSec_any (A : Option Addr) (n c : Nat) (xs : List Int) (w : World) (h : Sl w 1 e1 A n xs) (hn : n ≤ 1048577) :
    Calls Try.prog 52 #[.slice A n c, .func (.func 42) #[] #[]] w fun e w' => e = .returned (.int .i64 (idxI (fun v => !inB v 0 100000) xs)) ∧ w = w' := by
  go_enter Try.func52, Try.ntmps52
  go_wp2
  go_loop [8] (fun i => ∃ k : Nat, k ≤ n ∧ i = .int .i64 k ∧ Hid ((xs.take k).any (fun v => !inB v 0 100000) = false)) (fun i => n - (intOf i).toNat)
  case atStart => exact ⟨0, by omega, rfl, by simp [Hid]⟩
  case round =>
    obtain ⟨k, hk, rfl, he⟩ := hrel
    by_cases hlt : k < n
    · obtain ⟨b, off, x, rfl, hx, hm, c1⟩ := h.at1 hlt
      go_wp2_with (go_at_call 42; refine (FitCues11_any x _).mono ?_; rintro e w2 ⟨rfl, rfl⟩)
      · have q1 : (!inB x 0 100000) = true := by assumption
        go_ret
        exact ⟨ret_int (by rw [idxI_hit he.out hx q1]), rfl⟩
      · have q1 : (!inB x 0 100000) = false := by assumption
        go_round
        case rel => exact ⟨k + 1, by omega, by go_num, by rw [Hid, any_step _ hx, he.out, q1]; rfl⟩
        case measure => simp [intOf]; omega
    · go_wp2
      go_ret
      have : k = n := by omega
      subst this
      exact ⟨ret_int (by rw [idxI_miss (by rw [← take_all h.1]; exact he.out)]), rfl⟩

theorem ContainsFuncSec_any (A : Option Addr) (n c : Nat) (xs : List Int) (w : World) (h : Sl w 1 e1 A n xs) (hn : n ≤ 1048577) :
    Calls Try.prog 41 #[.slice A n c, .func (.func 42) #[] #[]] w fun e w' => e = .returned (.bool (!xs.all fun v => inB v 0 100000)) ∧ w = w' := by
  have HE : Hid (decide (0 ≤ idxI (fun v => !inB v 0 100000) xs) = !xs.all fun v => inB v 0 100000) := by
    have h1 := idxI_nn (fun v => !inB v 0 100000) xs
    have h2 := any_not_all (fun v => inB v 0 100000) xs
    rw [Hid, h1, ← h2, Bool.not_not]
  go_enter Try.func41, Try.ntmps41
  go_wp2_with (go_at_call 52; refine (IndexFuncSec_any A n c xs _ h hn).mono ?_; rintro e w2 ⟨rfl, rfl⟩)
  go_ret
  exact ⟨ret_bool HE.out, rfl⟩

theorem FitCues1_any (gs : Nat) (B : Option Addr) (m d : Nat) (ss : List Int) (w : World) (h : Sl w 1 e1 B m ss) (hm : m ≤ 1048577) (cs : w.cell? ⟨gs, 0, none⟩ = some (.slice B m d)) :
    Calls Try.prog 40 #[.pointer (some ⟨gs, 0, none⟩)] w fun e w' => e = .returned (.bool (fcIn ss)) ∧ Below w.heap.size w w' := by
  have hl := h.1
  by_cases hle : m ≤ 20
  · have HE : Hid (fcIn ss = !!(ss.all fun v => inB v 0 100000)) := by rw [Hid, fcIn, hl]; simp [hle]
    go_enter Try.func40, Try.ntmps40
    go_wp2_with (go_at_call 41; refine (ContainsFuncSec_any B m d ss _ h hm).mono ?_; rintro e w2 ⟨rfl, rfl⟩)
    all_goals go_ret
    all_goals exact ⟨ret_bool (by rw [HE.out]; simp_all), Below.refl _ _⟩
  · have HE : Hid (fcIn ss = false) := by rw [Hid, fcIn, hl]; simp [hle]
    go_enter Try.func40, Try.ntmps40
    go_wp2
    all_goals go_ret
    all_goals exact ⟨ret_bool (by rw [HE.out]), Below.refl _ _⟩

theorem timesOfT_no (A : Option Addr) (n c : Nat) (xs : List (Int × Int × Int)) (b : Int) (gb gl : Nat) (w : World) (h : Sl w 3 e3 A n xs) (hn : n ≤ 1048577) (cb : w.cell? ⟨gb, 0, none⟩ = some (.int .i64 b)) (cl : w.cell? ⟨gl, 0, none⟩ = some (.slice A n c)) (hz : tiCode xs (inB b 0 (btI xs - 1)) ≠ 0) :
    Calls Try.prog 30 #[.slice A n c, .func (.func 38) #[] #[.pointer (some ⟨gb, 0, none⟩), .pointer (some ⟨gl, 0, none⟩)]] w fun e w' => e = .returned (.tuple #[.int .i64 0, .slice none 0 0, .int .i64 (tiCode xs (inB b 0 (btI xs - 1)))]) ∧ Below w.heap.size w w' := by
  cases hok : ptOk xs
  · have H1 : Hid (tiCode xs (inB b 0 (btI xs - 1)) = 1) := by rw [Hid, tiCode, hok]; rfl
    rw [H1.out]
    go_enter Try.func30, Try.ntmps30
    go_wp2_with fail
    refine (implValidPiece_any A n c xs _ h hn).mono ?_
    rintro e w2 ⟨rfl, hb2⟩
    go_wp2_with fail
    go_ret3
    exact ⟨rfl, hb2⟩
  · have ok := ptOk_iff.1 hok
    cases hr : inB b 0 (btI xs - 1)
    · have H1 : Hid (tiCode xs false = 2) := by rw [Hid, tiCode, hok]; rfl
      rw [H1.out]
      go_enter Try.func30, Try.ntmps30
      go_wp2_with fail
      refine (implValidPiece_any A n c xs _ h hn).mono ?_
      rintro e w2 ⟨rfl, hb2⟩
      have cb2 := (hb2.cell (World.block_lt_of_cell? _ _ cb)).trans cb; have cl2 := (hb2.cell (World.block_lt_of_cell? _ _ cl)).trans cl
      go_wp2_with fail
      refine (TimeOfBeat1_any b gb gl A n c xs _ (h.below hb2) ok.b cb2 cl2).mono ?_
      rintro e w3 ⟨rfl, hb3⟩
      rw [hr]
      have hbb := below_step hb2 hb3
      go_wp2_with fail
      go_ret3
      exact ⟨rfl, hbb⟩
    · rw [hr] at hz
      have hp : partsI xs = 0 := by
        apply Classical.byContradiction; intro h0; exact hz (by rw [tiCode, hok]; simp [h0])
      have H1 : Hid (tiCode xs true = 5) := by rw [Hid, tiCode, hok]; simp [hp]
      rw [H1.out]
      clear hz
      go_enter Try.func30, Try.ntmps30
      go_wp2_with fail
      refine (implValidPiece_any A n c xs _ h hn).mono ?_
      rintro e w2 ⟨rfl, hb2⟩
      have cb2 := (hb2.cell (World.block_lt_of_cell? _ _ cb)).trans cb; have cl2 := (hb2.cell (World.block_lt_of_cell? _ _ cl)).trans cl
      go_wp2_with fail
      refine (TimeOfBeat1_any b gb gl A n c xs _ (h.below hb2) ok.b cb2 cl2).mono ?_
      rintro e w3 ⟨rfl, hb3⟩
      rw [hr]
      have hbb := below_step hb2 hb3
      go_wp2_with fail
      refine (unitsOf_any A n c xs _ (h.below hbb) ok.b).mono ?_
      rintro e w4 ⟨rfl, hb4⟩
      rw [hp]
      have hbb4 := below_step hbb hb4
      go_wp2_with fail
      go_ret3
      exact ⟨rfl, hbb4⟩

theorem timesOfT_yes (A : Option Addr) (n c : Nat) (xs : List (Int × Int × Int)) (b : Int) (gb gl : Nat) (w : World) (h : Sl w 3 e3 A n xs) (hn : n ≤ 1048577) (cb : w.cell? ⟨gb, 0, none⟩ = some (.int .i64 b)) (cl : w.cell? ⟨gl, 0, none⟩ = some (.slice A n c)) (hz : tiCode xs (inB b 0 (btI xs - 1)) = 0) :
    Calls Try.prog 30 #[.slice A n c, .func (.func 38) #[] #[.pointer (some ⟨gb, 0, none⟩), .pointer (some ⟨gl, 0, none⟩)]] w fun e w' => ∃ B m d, e = .returned (.tuple #[.int .i64 (partsI xs), .slice B m d, .int .i64 0]) ∧ Own w' w.heap.size 2 1 e1 (.slice B m d) (bgL (partsI xs) xs) ∧ Below w.heap.size w w' := by
  obtain ⟨ok, hr, hp⟩ := tiCode_0 hz
  have hpb := parts_bd ok.b hp
  have hp2 : (partsI xs == 0) = false := by simp [hp]
  clear hz hp
  go_enter Try.func30, Try.ntmps30
  go_wp2_with fail
  refine (implValidPiece_any A n c xs _ h hn).mono ?_
  rintro e w2 ⟨rfl, hb2⟩
  rw [ptOk_iff.2 ok]
  have cb2 := (hb2.cell (World.block_lt_of_cell? _ _ cb)).trans cb; have cl2 := (hb2.cell (World.block_lt_of_cell? _ _ cl)).trans cl
  go_wp2_with fail
  refine (TimeOfBeat1_any b gb gl A n c xs _ (h.below hb2) ok.b cb2 cl2).mono ?_
  rintro e w3 ⟨rfl, hb3⟩
  rw [hr]
  have hbb := below_step hb2 hb3
  go_wp2_with fail
  refine (unitsOf_any A n c xs _ (h.below hbb) ok.b).mono ?_
  rintro e w4 ⟨rfl, hb4⟩
  have hbb4 := below_step hbb hb4
  go_wp2_with fail
  refine (beginsOf_any A n c xs _ _ (h.below hbb4) ok.b ⟨hpb.1, hpb.2.1⟩).mono ?_
  rintro e w5 ⟨B, m, d, rfl, ho, hb5⟩
  have hbb5 := below_step hbb4 hb5
  go_wp2_with fail
  go_ret3
  exact ⟨B, m, d, rfl, ho.mono hbb4.size, hbb5⟩

theorem timesOfB_no (A : Option Addr) (n c : Nat) (xs : List (Int × Int × Int)) (s : Int) (gs : Nat) (w : World) (h : Sl w 3 e3 A n xs) (hn : n ≤ 1048577) (cs : w.cell? ⟨gs, 0, none⟩ = some (.int .i64 s)) (hz : tiCode xs (inB s 0 100000) ≠ 0) :
    Calls Try.prog 30 #[.slice A n c, .func (.func 31) #[] #[.pointer (some ⟨gs, 0, none⟩)]] w fun e w' => e = .returned (.tuple #[.int .i64 0, .slice none 0 0, .int .i64 (tiCode xs (inB s 0 100000))]) ∧ Below w.heap.size w w' := by
  cases hok : ptOk xs
  · have H1 : Hid (tiCode xs (inB s 0 100000) = 1) := by rw [Hid, tiCode, hok]; rfl
    rw [H1.out]
    go_enter Try.func30, Try.ntmps30
    go_wp2_with fail
    refine (implValidPiece_any A n c xs _ h hn).mono ?_
    rintro e w2 ⟨rfl, hb2⟩
    go_wp2_with fail
    go_ret3
    exact ⟨rfl, hb2⟩
  · have ok := ptOk_iff.1 hok
    cases hr : inB s 0 100000
    · have H1 : Hid (tiCode xs false = 2) := by rw [Hid, tiCode, hok]; rfl
      rw [H1.out]
      go_enter Try.func30, Try.ntmps30
      go_wp2_with fail
      refine (implValidPiece_any A n c xs _ h hn).mono ?_
      rintro e w2 ⟨rfl, hb2⟩
      have cs2 := (hb2.cell (World.block_lt_of_cell? _ _ cs)).trans cs
      go_wp2_with fail
      refine (BeatAt1_any s gs _ cs2).mono ?_
      rintro e w3 ⟨rfl, hb3⟩
      rw [hr]
      have hbb := below_step hb2 hb3
      go_wp2_with fail
      go_ret3
      exact ⟨rfl, hbb⟩
    · rw [hr] at hz
      have hp : partsI xs = 0 := by
        apply Classical.byContradiction; intro h0; exact hz (by rw [tiCode, hok]; simp [h0])
      have H1 : Hid (tiCode xs true = 5) := by rw [Hid, tiCode, hok]; simp [hp]
      rw [H1.out]
      clear hz
      go_enter Try.func30, Try.ntmps30
      go_wp2_with fail
      refine (implValidPiece_any A n c xs _ h hn).mono ?_
      rintro e w2 ⟨rfl, hb2⟩
      have cs2 := (hb2.cell (World.block_lt_of_cell? _ _ cs)).trans cs
      go_wp2_with fail
      refine (BeatAt1_any s gs _ cs2).mono ?_
      rintro e w3 ⟨rfl, hb3⟩
      rw [hr]
      have hbb := below_step hb2 hb3
      go_wp2_with fail
      refine (unitsOf_any A n c xs _ (h.below hbb) ok.b).mono ?_
      rintro e w4 ⟨rfl, hb4⟩
      rw [hp]
      have hbb4 := below_step hbb hb4
      go_wp2_with fail
      go_ret3
      exact ⟨rfl, hbb4⟩

theorem timesOfB_yes (A : Option Addr) (n c : Nat) (xs : List (Int × Int × Int)) (s : Int) (gs : Nat) (w : World) (h : Sl w 3 e3 A n xs) (hn : n ≤ 1048577) (cs : w.cell? ⟨gs, 0, none⟩ = some (.int .i64 s)) (hz : tiCode xs (inB s 0 100000) = 0) :
    Calls Try.prog 30 #[.slice A n c, .func (.func 31) #[] #[.pointer (some ⟨gs, 0, none⟩)]] w fun e w' => ∃ B m d, e = .returned (.tuple #[.int .i64 (partsI xs), .slice B m d, .int .i64 0]) ∧ Own w' w.heap.size 2 1 e1 (.slice B m d) (bgL (partsI xs) xs) ∧ Below w.heap.size w w' := by
  obtain ⟨ok, hr, hp⟩ := tiCode_0 hz
  have hpb := parts_bd ok.b hp
  have hp2 : (partsI xs == 0) = false := by simp [hp]
  clear hz hp
  go_enter Try.func30, Try.ntmps30
  go_wp2_with fail
  refine (implValidPiece_any A n c xs _ h hn).mono ?_
  rintro e w2 ⟨rfl, hb2⟩
  rw [ptOk_iff.2 ok]
  have cs2 := (hb2.cell (World.block_lt_of_cell? _ _ cs)).trans cs
  go_wp2_with fail
  refine (BeatAt1_any s gs _ cs2).mono ?_
  rintro e w3 ⟨rfl, hb3⟩
  rw [hr]
  have hbb := below_step hb2 hb3
  go_wp2_with fail
  refine (unitsOf_any A n c xs _ (h.below hbb) ok.b).mono ?_
  rintro e w4 ⟨rfl, hb4⟩
  have hbb4 := below_step hbb hb4
  go_wp2_with fail
  refine (beginsOf_any A n c xs _ _ (h.below hbb4) ok.b ⟨hpb.1, hpb.2.1⟩).mono ?_
  rintro e w5 ⟨B, m, d, rfl, ho, hb5⟩
  have hbb5 := below_step hbb4 hb5
  go_wp2_with fail
  go_ret3
  exact ⟨B, m, d, rfl, ho.mono hbb4.size, hbb5⟩

theorem timesOfL_no (A : Option Addr) (n c : Nat) (xs : List (Int × Int × Int))  (w : World) (h : Sl w 3 e3 A n xs) (hn : n ≤ 1048577)  (hz : tiCode xs (true) ≠ 0) :
    Calls Try.prog 30 #[.slice A n c, .func (.func 35) #[] #[]] w fun e w' => e = .returned (.tuple #[.int .i64 0, .slice none 0 0, .int .i64 (tiCode xs (true))]) ∧ Below w.heap.size w w' := by
  cases hok : ptOk xs
  · have H1 : Hid (tiCode xs (true) = 1) := by rw [Hid, tiCode, hok]; rfl
    rw [H1.out]
    go_enter Try.func30, Try.ntmps30
    go_wp2_with fail
    refine (implValidPiece_any A n c xs _ h hn).mono ?_
    rintro e w2 ⟨rfl, hb2⟩
    go_wp2_with fail
    go_ret3
    exact ⟨rfl, hb2⟩
  · have ok := ptOk_iff.1 hok
    have hp : partsI xs = 0 := by
      apply Classical.byContradiction; intro h0; exact hz (by rw [tiCode, hok]; simp [h0])
    have H1 : Hid (tiCode xs true = 5) := by rw [Hid, tiCode, hok]; simp [hp]
    rw [H1.out]
    clear hz
    go_enter Try.func30, Try.ntmps30
    go_wp2_with fail
    refine (implValidPiece_any A n c xs _ h hn).mono ?_
    rintro e w2 ⟨rfl, hb2⟩
    skip
    go_wp2_with fail
    refine (LengthOfPiece1_any _).mono ?_
    rintro e w3 ⟨rfl, hb3⟩
    have hbb := below_step hb2 hb3
    go_wp2_with fail
    refine (unitsOf_any A n c xs _ (h.below hbb) ok.b).mono ?_
    rintro e w4 ⟨rfl, hb4⟩
    rw [hp]
    have hbb4 := below_step hbb hb4
    go_wp2_with fail
    go_ret3
    exact ⟨rfl, hbb4⟩

theorem timesOfL_yes (A : Option Addr) (n c : Nat) (xs : List (Int × Int × Int))  (w : World) (h : Sl w 3 e3 A n xs) (hn : n ≤ 1048577)  (hz : tiCode xs (true) = 0) :
    Calls Try.prog 30 #[.slice A n c, .func (.func 35) #[] #[]] w fun e w' => ∃ B m d, e = .returned (.tuple #[.int .i64 (partsI xs), .slice B m d, .int .i64 0]) ∧ Own w' w.heap.size 2 1 e1 (.slice B m d) (bgL (partsI xs) xs) ∧ Below w.heap.size w w' := by
  obtain ⟨ok, hr, hp⟩ := tiCode_0 hz
  have hpb := parts_bd ok.b hp
  have hp2 : (partsI xs == 0) = false := by simp [hp]
  clear hz hp
  go_enter Try.func30, Try.ntmps30
  go_wp2_with fail
  refine (implValidPiece_any A n c xs _ h hn).mono ?_
  rintro e w2 ⟨rfl, hb2⟩
  rw [ptOk_iff.2 ok]
  skip
  go_wp2_with fail
  refine (LengthOfPiece1_any _).mono ?_
  rintro e w3 ⟨rfl, hb3⟩
  have hbb := below_step hb2 hb3
  go_wp2_with fail
  refine (unitsOf_any A n c xs _ (h.below hbb) ok.b).mono ?_
  rintro e w4 ⟨rfl, hb4⟩
  have hbb4 := below_step hbb hb4
  go_wp2_with fail
  refine (beginsOf_any A n c xs _ _ (h.below hbb4) ok.b ⟨hpb.1, hpb.2.1⟩).mono ?_
  rintro e w5 ⟨B, m, d, rfl, ho, hb5⟩
  have hbb5 := below_step hbb4 hb5
  go_wp2_with fail
  go_ret3
  exact ⟨B, m, d, rfl, ho.mono hbb4.size, hbb5⟩

theorem timesOfF_no (A : Option Addr) (n c : Nat) (xs : List (Int × Int × Int)) (gs : Nat) (B0 : Option Addr) (m0 d0 : Nat) (ss : List Int) (w : World) (h : Sl w 3 e3 A n xs) (hn : n ≤ 1048577) (hs : Sl w 1 e1 B0 m0 ss) (hm : m0 ≤ 1048577) (cs : w.cell? ⟨gs, 0, none⟩ = some (.slice B0 m0 d0)) (hz : tiCode xs (fcIn ss) ≠ 0) :
    Calls Try.prog 30 #[.slice A n c, .func (.func 40) #[] #[.pointer (some ⟨gs, 0, none⟩)]] w fun e w' => e = .returned (.tuple #[.int .i64 0, .slice none 0 0, .int .i64 (tiCode xs (fcIn ss))]) ∧ Below w.heap.size w w' := by
  cases hok : ptOk xs
  · have H1 : Hid (tiCode xs (fcIn ss) = 1) := by rw [Hid, tiCode, hok]; rfl
    rw [H1.out]
    go_enter Try.func30, Try.ntmps30
    go_wp2_with fail
    refine (implValidPiece_any A n c xs _ h hn).mono ?_
    rintro e w2 ⟨rfl, hb2⟩
    go_wp2_with fail
    go_ret3
    exact ⟨rfl, hb2⟩
  · have ok := ptOk_iff.1 hok
    cases hr : fcIn ss
    · have H1 : Hid (tiCode xs false = 2) := by rw [Hid, tiCode, hok]; rfl
      rw [H1.out]
      go_enter Try.func30, Try.ntmps30
      go_wp2_with fail
      refine (implValidPiece_any A n c xs _ h hn).mono ?_
      rintro e w2 ⟨rfl, hb2⟩
      have cs2 := (hb2.cell (World.block_lt_of_cell? _ _ cs)).trans cs
      go_wp2_with fail
      refine (FitCues1_any gs B0 m0 d0 ss _ (hs.below hb2) hm cs2).mono ?_
      rintro e w3 ⟨rfl, hb3⟩
      rw [hr]
      have hbb := below_step hb2 hb3
      go_wp2_with fail
      go_ret3
      exact ⟨rfl, hbb⟩
    · rw [hr] at hz
      have hp : partsI xs = 0 := by
        apply Classical.byContradiction; intro h0; exact hz (by rw [tiCode, hok]; simp [h0])
      have H1 : Hid (tiCode xs true = 5) := by rw [Hid, tiCode, hok]; simp [hp]
      rw [H1.out]
      clear hz
      go_enter Try.func30, Try.ntmps30
      go_wp2_with fail
      refine (implValidPiece_any A n c xs _ h hn).mono ?_
      rintro e w2 ⟨rfl, hb2⟩
      have cs2 := (hb2.cell (World.block_lt_of_cell? _ _ cs)).trans cs
      go_wp2_with fail
      refine (FitCues1_any gs B0 m0 d0 ss _ (hs.below hb2) hm cs2).mono ?_
      rintro e w3 ⟨rfl, hb3⟩
      rw [hr]
      have hbb := below_step hb2 hb3
      go_wp2_with fail
      refine (unitsOf_any A n c xs _ (h.below hbb) ok.b).mono ?_
      rintro e w4 ⟨rfl, hb4⟩
      rw [hp]
      have hbb4 := below_step hbb hb4
      go_wp2_with fail
      go_ret3
      exact ⟨rfl, hbb4⟩

theorem timesOfF_yes (A : Option Addr) (n c : Nat) (xs : List (Int × Int × Int)) (gs : Nat) (B0 : Option Addr) (m0 d0 : Nat) (ss : List Int) (w : World) (h : Sl w 3 e3 A n xs) (hn : n ≤ 1048577) (hs : Sl w 1 e1 B0 m0 ss) (hm : m0 ≤ 1048577) (cs : w.cell? ⟨gs, 0, none⟩ = some (.slice B0 m0 d0)) (hz : tiCode xs (fcIn ss) = 0) :
    Calls Try.prog 30 #[.slice A n c, .func (.func 40) #[] #[.pointer (some ⟨gs, 0, none⟩)]] w fun e w' => ∃ B m d, e = .returned (.tuple #[.int .i64 (partsI xs), .slice B m d, .int .i64 0]) ∧ Own w' w.heap.size 2 1 e1 (.slice B m d) (bgL (partsI xs) xs) ∧ Below w.heap.size w w' := by
  obtain ⟨ok, hr, hp⟩ := tiCode_0 hz
  have hpb := parts_bd ok.b hp
  have hp2 : (partsI xs == 0) = false := by simp [hp]
  clear hz hp
  go_enter Try.func30, Try.ntmps30
  go_wp2_with fail
  refine (implValidPiece_any A n c xs _ h hn).mono ?_
  rintro e w2 ⟨rfl, hb2⟩
  rw [ptOk_iff.2 ok]
  have cs2 := (hb2.cell (World.block_lt_of_cell? _ _ cs)).trans cs
  go_wp2_with fail
  refine (FitCues1_any gs B0 m0 d0 ss _ (hs.below hb2) hm cs2).mono ?_
  rintro e w3 ⟨rfl, hb3⟩
  rw [hr]
  have hbb := below_step hb2 hb3
  go_wp2_with fail
  refine (unitsOf_any A n c xs _ (h.below hbb) ok.b).mono ?_
  rintro e w4 ⟨rfl, hb4⟩
  have hbb4 := below_step hbb hb4
  go_wp2_with fail
  refine (beginsOf_any A n c xs _ _ (h.below hbb4) ok.b ⟨hpb.1, hpb.2.1⟩).mono ?_
  rintro e w5 ⟨B, m, d, rfl, ho, hb5⟩
  have hbb5 := below_step hbb4 hb5
  go_wp2_with fail
  go_ret3
  exact ⟨B, m, d, rfl, ho.mono hbb4.size, hbb5⟩

end Go.Proofs.Ytoehlgfjfdfnfaa
