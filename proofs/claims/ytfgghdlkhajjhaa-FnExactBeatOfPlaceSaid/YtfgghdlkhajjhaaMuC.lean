/-
  Contracts of the functions on pieces: the place of a beat.
-/
import Derived.Test.YtfgghdlkhajjhaaMuB
import Derived.Deep.QuietTactic
import Derived.BigQuiet
namespace Go.Proofs.Ytfgghdlkhajjhaa
open Go.RowKit

def poCode (xs : List (Int × Int × Int)) (b : Int) : Int := bcCode xs b
def poVal (xs : List (Int × Int × Int)) (b : Int) : Int × Int × Int := if bcCode xs b = 0 then plF xs b else (0, 0, 0)
theorem bcCode_zero {xs : List (Int × Int × Int)} {b : Int} (h : bcCode xs b = 0) : ptOk xs = true ∧ inB b 0 (btI xs - 1) = true := by
  unfold bcCode at h
  cases h1 : ptOk xs <;> cases h2 : inB b 0 (btI xs - 1) <;> simp_all
theorem ret4 {k l m o : IntKind} {a b c d u v x y : Int} (h : a = b) (h' : c = d) (h'' : u = v) (h3 : x = y) : Ending.returned (.tuple #[.int k a, .int l c, .int m u, .int o x]) = .returned (.tuple #[.int k b, .int l d, .int m v, .int o y]) := by rw [h, h', h'', h3]
theorem results_tmp4 {fn : Func} {t u v x : Tmp} (h : fn.results = #[.tmp t, .tmp u, .tmp v, .tmp x]) (tmps : Array Value) (P : Program) (w : World) :
    (results fn tmps).run P w = .ok (.tuple #[tmps.getD t undef, tmps.getD u undef, tmps.getD v undef, tmps.getD x undef]) w := by
  simp [results, h]
theorem tdivM {a b : Int} (ha : 0 ≤ a) (_hb : 0 < b) : Int.tmod a b = a % b := Int.tmod_eq_emod_of_nonneg ha
theorem tdiv64' {a b : Int} (ha : 0 ≤ a) (hb : 0 < b) (h : a ≤ 9223372036854775807) : IntKind.i64.wrap (Int.tdiv a b) = a / b := by
  rw [Int.tdiv_eq_ediv_of_nonneg ha]
  have h0 : 0 ≤ a / b := Int.ediv_nonneg ha (by omega)
  have h1 : a / b ≤ a := Int.ediv_le_self _ ha
  exact wr64 (by omega)

theorem l19Code_any (A : Option Addr) (n c : Nat) (xs : List (Int × Int × Int)) (b : Int) (w : World) (h : Sl w 3 e3 A n xs) (hn : n ≤ 1048577) :
    Calls Try.prog 50 #[.slice A n c, .int .i64 b] w fun e w' => e = .returned (.int .i64 (bcCode xs b)) ∧ Below w.heap.size w w' := by
  cases hok : ptOk xs
  · go_enter Try.func50, Try.ntmps50
    go_wp2_with fail
    refine (l19Ok_any A n c xs _ h hn).mono ?_
    rintro e w2 ⟨rfl, rfl⟩
    go_wp2_with fail
    go_ret
    exact ⟨ret_int (by simp [bcCode, hok]), Below.refl _ _⟩
  · have ok := ptOk_iff.1 hok
    have hbt := ok.b.bt_bd
    cases hin : inB b 0 (btI xs - 1)
    all_goals
      go_enter Try.func50, Try.ntmps50
      go_wp2_with fail
      refine (l19Ok_any A n c xs _ h hn).mono ?_
      rintro e w2 ⟨rfl, rfl⟩
      go_wp2_with fail
      refine (l19Beats_any A n c xs _ h ok.b).mono ?_
      rintro e w3 ⟨rfl, hb3⟩
      go_wp2_with fail
      refine (l00In_any _ _ _ _).mono ?_
      rintro e w4 ⟨rfl, rfl⟩
      go_wp2_with fail
      go_ret
      exact ⟨ret_int (by simp [bcCode, hok, hin]), hb3⟩

set_option maxHeartbeats 400000 in
theorem specPlaceOfBeat_any (A : Option Addr) (n c : Nat) (xs : List (Int × Int × Int)) (b : Int) (w : World) (h : Sl w 3 e3 A n xs) (hn : n ≤ 1048577) (_hb : In64 b) :
    Calls Try.prog 24 #[.slice A n c, .int .i64 b] w fun e w' => e = .returned (.tuple #[.int .i64 (poVal xs b).1, .int .i64 (poVal xs b).2.1, .int .i64 (poVal xs b).2.2, .int .i64 (poCode xs b)]) ∧ Below w.heap.size w w' := by
  by_cases hz : bcCode xs b = 0
  · obtain ⟨hok, hin⟩ := bcCode_zero hz
    have ok := ptOk_iff.1 hok
    have hbt := ok.b.bt_bd
    have hbi := inB_true.1 hin
    have hl2 := ok.len
    have hl3 := h.1
    have H2 : Hid (poVal xs b = plF xs b) := by rw [Hid, poVal, if_pos hz]
    have HZ := Lib.hid hz
    clear hz
    go_enter Try.func24, Try.ntmps24
    go_wp2_with fail
    refine (l19Code_any A n c xs b _ h hn).mono ?_
    rintro e w2 ⟨rfl, hb0⟩
    rw [HZ.out]
    go_wp2_with fail
    go_loopw [1, 9] (fun v i wr => ∃ k : Nat, k < n ∧ i = .int .i64 k ∧ v = .int .i64 (b - btK xs k) ∧ 0 ≤ b - btK xs k ∧ Hid (plF xs b = ((k : Int) + (plF (xs.drop k) (b - btK xs k)).1, (plF (xs.drop k) (b - btK xs k)).2)) ∧ Below w.heap.size w wr) (fun _ i _ => n - (intOf i).toNat)
    case atStart => exact ⟨0, by have := ok.len0; omega, rfl, by simp [btK, sumI], by simp [btK, sumI]; omega, by simp [Hid, btK, sumI], hb0⟩
    case round =>
      obtain ⟨k, hk, rfl, rfl, hnn, he, hb⟩ := hrel
      obtain ⟨bb, off, x, rfl, hx, hm, c0, c1, c2⟩ := (h.below hb).at3 hk
      have HS := Lib.hid (btK_step hx)
      have q0 := ok.b.btK_bd k
      have hx1 := ok.one x hm
      have q1 := bF_bd hx1
      have g1 : (0 : Int) ≤ (k : Int) := by omega
      have g2 : (k : Int) < (n : Int) := by omega
      have r1 : IntKind.i64.wrap (x.1 * x.2.1) = x.1 * x.2.1 := wr64 (by omega)
      have r2 : IntKind.i64.wrap (b - btK xs k - x.1 * x.2.1) = b - btK xs k - x.1 * x.2.1 := wr64 (by omega)
      by_cases q : x.1 * x.2.1 ≤ b - btK xs k
      · have HP := Lib.hid (plF_go hx q)
        have hk1 : k + 1 < n := by
          rcases Nat.lt_or_ge (k + 1) n with h1 | h1
          · exact h1
          · exfalso
            have e1 : k + 1 = n := by omega
            have := HS.out
            rw [e1, ← hl3, btK_len] at this
            omega
        have hr1 : Hid ((b - btK xs k - x.1 * x.2.1 : Int) = b - btK xs (k + 1)) := by rw [Hid, HS.out]; omega
        go_wp2_with fail
        go_quiet (fail)
        generalize hW : wr.drewN nq = w5
        have hb5 : Below w.heap.size w w5 := by rw [← hW]; exact below_drewN hb _
        obtain ⟨d0, d1, d2⟩ := (h.below hb5).get3 hx
        clear c0 c1 c2 hW
        go_wp2_with fail
        go_quiet (fail)
        clear r1 r2
        go_wp2_with fail
        go_roundw
        case rel => exact ⟨k + 1, hk1, by go_num, by rw [hr1.out], by have := HS.out; omega, by rw [Hid, he.out, HP.out, hr1.out]; simp only [Prod.mk.injEq]; exact ⟨by omega, trivial⟩, below_drewN hb5 _⟩
        case measure => simp [intOf]; omega
      · have HP := Lib.hid (plF_stop hx q)
        have hz2 : (x.2.1 == 0) = false := by rw [beq_eq_false_iff_ne]; omega
        have r3 : IntKind.i64.wrap (Int.tdiv (b - btK xs k) x.2.1) = (b - btK xs k) / x.2.1 := tdiv64' hnn (by omega) (by omega)
        have r4 : Int.tmod (b - btK xs k) x.2.1 = (b - btK xs k) % x.2.1 := tdivM hnn (by omega)
        go_wp2_with fail
        go_quiet (fail)
        generalize hW : wr.drewN nq = w5
        have hb5 : Below w.heap.size w w5 := by rw [← hW]; exact below_drewN hb _
        obtain ⟨d0, d1, d2⟩ := (h.below hb5).get3 hx
        clear c0 c1 c2 hW
        go_wp2_with fail
        go_quiet (fail)
        clear r1 r2 r3 r4
        go_wp2_with fail
        (try simp only [Exit.inBlock, Exit.then])
        refine bodyPost_ret (results_tmp4 rfl _ _ _) rfl ?_
        exact ⟨ret4 (by rw [H2.out, he.out, HP.out]; simp) (by rw [H2.out, he.out, HP.out]) (by rw [H2.out, he.out, HP.out]) HZ.out.symm, below_drewN hb5 _⟩
  · have hz2 : (bcCode xs b != 0) = true := by simp [hz]
    have H2 : Hid (poVal xs b = (0, 0, 0)) := by rw [Hid, poVal, if_neg hz]
    go_enter Try.func24, Try.ntmps24
    go_wp2_with fail
    refine (l19Code_any A n c xs b _ h hn).mono ?_
    rintro e w2 ⟨rfl, hb0⟩
    go_wp2_with fail
    (try simp only [Exit.inBlock, Exit.then])
    refine bodyPost_ret (results_tmp4 rfl _ _ _) rfl ?_
    exact ⟨ret4 (by rw [H2.out]) (by rw [H2.out]) (by rw [H2.out]) rfl, hb0⟩

set_option maxHeartbeats 400000 in
theorem implPlaceOfBeat_any (A : Option Addr) (n c : Nat) (xs : List (Int × Int × Int)) (b : Int) (w : World) (h : Sl w 3 e3 A n xs) (hn : n ≤ 1048577) (_hb : In64 b) :
    Calls Try.prog 25 #[.slice A n c, .int .i64 b] w fun e w' => e = .returned (.tuple #[.int .i64 (poVal xs b).1, .int .i64 (poVal xs b).2.1, .int .i64 (poVal xs b).2.2, .int .i64 (poCode xs b)]) ∧ Below w.heap.size w w' := by
  by_cases hz : bcCode xs b = 0
  · obtain ⟨hok, hin⟩ := bcCode_zero hz
    have ok := ptOk_iff.1 hok
    have hbt := ok.b.bt_bd
    have hbi := inB_true.1 hin
    have hl2 := ok.len
    have hl3 := h.1
    have H2 : Hid (poVal xs b = plF xs b) := by rw [Hid, poVal, if_pos hz]
    have HZ := Lib.hid hz
    clear hz
    go_enter Try.func25, Try.ntmps25
    go_wp2_with fail
    refine (implValidPiece_any A n c xs _ h hn).mono ?_
    rintro e w2 ⟨rfl, hb1⟩
    go_wp2_with fail
    refine (beatsOf_any A n c xs _ (h.below hb1) ok.b).mono ?_
    rintro e w3 ⟨rfl, hb2⟩
    have hb0 := below_step hb1 hb2
    go_wp2_with fail
    refine (within_any _ _ _ _).mono ?_
    rintro e w4 ⟨rfl, rfl⟩
    go_wp2_with fail
    go_loopw [1, 8] (fun v i wr => ∃ k : Nat, k < n ∧ i = .int .i64 k ∧ v = .int .i64 (b - btK xs k) ∧ 0 ≤ b - btK xs k ∧ Hid (plF xs b = ((k : Int) + (plF (xs.drop k) (b - btK xs k)).1, (plF (xs.drop k) (b - btK xs k)).2)) ∧ Below w.heap.size w wr) (fun _ i _ => n - (intOf i).toNat)
    case atStart => exact ⟨0, by have := ok.len0; omega, rfl, by simp [btK, sumI], by simp [btK, sumI]; omega, by simp [Hid, btK, sumI], hb0⟩
    case round =>
      obtain ⟨k, hk, rfl, rfl, hnn, he, hb⟩ := hrel
      obtain ⟨bb, off, x, rfl, hx, hm, c0, c1, c2⟩ := (h.below hb).at3 hk
      have HS := Lib.hid (btK_step hx)
      have q0 := ok.b.btK_bd k
      have hx1 := ok.one x hm
      have q1 := bF_bd hx1
      have g1 : (0 : Int) ≤ (k : Int) := by omega
      have g2 : (k : Int) < (n : Int) := by omega
      have r1 : IntKind.i64.wrap (x.1 * x.2.1) = x.1 * x.2.1 := wr64 (by omega)
      have r2 : IntKind.i64.wrap (b - btK xs k - x.1 * x.2.1) = b - btK xs k - x.1 * x.2.1 := wr64 (by omega)
      by_cases q : x.1 * x.2.1 ≤ b - btK xs k
      · have HP := Lib.hid (plF_go hx q)
        have hk1 : k + 1 < n := by
          rcases Nat.lt_or_ge (k + 1) n with h1 | h1
          · exact h1
          · exfalso
            have e1 : k + 1 = n := by omega
            have := HS.out
            rw [e1, ← hl3, btK_len] at this
            omega
        have hr1 : Hid ((b - btK xs k - x.1 * x.2.1 : Int) = b - btK xs (k + 1)) := by rw [Hid, HS.out]; omega
        go_wp2_with fail
        go_quiet (fail)
        generalize hW : wr.drewN nq = w5
        have hb5 : Below w.heap.size w w5 := by rw [← hW]; exact below_drewN hb _
        obtain ⟨d0, d1, d2⟩ := (h.below hb5).get3 hx
        clear c0 c1 c2 hW
        go_wp2_with fail
        go_quiet (fail)
        clear r1 r2
        go_wp2_with fail
        go_roundw
        case rel => exact ⟨k + 1, hk1, by go_num, by rw [hr1.out], by have := HS.out; omega, by rw [Hid, he.out, HP.out, hr1.out]; simp only [Prod.mk.injEq]; exact ⟨by omega, trivial⟩, below_drewN hb5 _⟩
        case measure => simp [intOf]; omega
      · have HP := Lib.hid (plF_stop hx q)
        have hz2 : (x.2.1 == 0) = false := by rw [beq_eq_false_iff_ne]; omega
        have r3 : IntKind.i64.wrap (Int.tdiv (b - btK xs k) x.2.1) = (b - btK xs k) / x.2.1 := tdiv64' hnn (by omega) (by omega)
        have r4 : Int.tmod (b - btK xs k) x.2.1 = (b - btK xs k) % x.2.1 := tdivM hnn (by omega)
        go_wp2_with fail
        go_quiet (fail)
        generalize hW : wr.drewN nq = w5
        have hb5 : Below w.heap.size w w5 := by rw [← hW]; exact below_drewN hb _
        obtain ⟨d0, d1, d2⟩ := (h.below hb5).get3 hx
        clear c0 c1 c2 hW
        go_wp2_with fail
        go_quiet (fail)
        clear r1 r2 r3 r4
        go_wp2_with fail
        (try simp only [Exit.inBlock, Exit.then])
        refine bodyPost_ret (results_tmp4 rfl _ _ _) rfl ?_
        exact ⟨ret4 (by rw [H2.out, he.out, HP.out]; simp) (by rw [H2.out, he.out, HP.out]) (by rw [H2.out, he.out, HP.out]) HZ.out.symm, below_drewN hb5 _⟩
  · have H2 : Hid (poVal xs b = (0, 0, 0)) := by rw [Hid, poVal, if_neg hz]
    cases hok : ptOk xs
    · have H1 : Hid (poCode xs b = 1) := by rw [Hid, poCode, bcCode, hok]; rfl
      go_enter Try.func25, Try.ntmps25
      go_wp2_with fail
      refine (implValidPiece_any A n c xs _ h hn).mono ?_
      rintro e w2 ⟨rfl, hb0⟩
      go_wp2_with fail
      (try simp only [Exit.inBlock, Exit.then])
      refine bodyPost_ret (results_tmp4 rfl _ _ _) rfl ?_
      exact ⟨ret4 (by rw [H2.out]) (by rw [H2.out]) (by rw [H2.out]) H1.out.symm, hb0⟩
    · have ok := ptOk_iff.1 hok
      have hbt := ok.b.bt_bd
      cases hin : inB b 0 (btI xs - 1)
      · have H1 : Hid (poCode xs b = 2) := by rw [Hid, poCode, bcCode, hok, hin]; rfl
        go_enter Try.func25, Try.ntmps25
        go_wp2_with fail
        refine (implValidPiece_any A n c xs _ h hn).mono ?_
        rintro e w2 ⟨rfl, hb1⟩
        go_wp2_with fail
        refine (beatsOf_any A n c xs _ (h.below hb1) ok.b).mono ?_
        rintro e w3 ⟨rfl, hb2⟩
        have hb0 := below_step hb1 hb2
        go_wp2_with fail
        refine (within_any _ _ _ _).mono ?_
        rintro e w4 ⟨rfl, rfl⟩
        go_wp2_with fail
        (try simp only [Exit.inBlock, Exit.then])
        refine bodyPost_ret (results_tmp4 rfl _ _ _) rfl ?_
        exact ⟨ret4 (by rw [H2.out]) (by rw [H2.out]) (by rw [H2.out]) H1.out.symm, hb0⟩
      · exact absurd (by rw [bcCode, hok, hin]; rfl) hz

end Go.Proofs.Ytfgghdlkhajjhaa
