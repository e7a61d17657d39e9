/-
  A script as text, both sides.
-/
import Derived.Test.YthplfodfilefjaaDoorDe
import Derived.Test.YthplfodfilefjaaDoorVb
import Derived.Test.YthplfodfilefjaaDoorVt
import Derived.Deep.RegionHeld3
import Derived.Laws.Concat
namespace Go.Proofs.YthplfodfilefjaaDoor
set_option maxRecDepth 100000
open Go.RowKit

def tSl (x : ByteArray) : ByteArray := (⟨#[115, 108, 105, 100, 101, 32]⟩ ++ x) ++ ⟨#[10]⟩
def tAt (x : AX) : ByteArray := ((((⟨#[97, 116, 32]⟩ ++ decS x.1) ++ ⟨#[32]⟩) ++ x.2.1) ++ ⟨#[32]⟩) ++ x.2.2.1
def stS (o : ByteArray) (x : ByteArray) : ByteArray := o ++ tSl x
def stA (o : ByteArray) (x : AX) : ByteArray := if tuB x = true then ((o ++ tAt x) ++ (⟨#[32]⟩ ++ decS x.2.2.2)) ++ ⟨#[10]⟩ else (o ++ tAt x) ++ ⟨#[10]⟩
def outS (ss : List ByteArray) : ByteArray := ss.foldl stS ByteArray.empty
def outA (ss : List ByteArray) (xs : List AX) : ByteArray := xs.foldl stA (outS ss)
noncomputable def stText (ss : List ByteArray) (xs : List AX) : ByteArray := if vScr ss xs = false then ByteArray.empty else outA ss xs
theorem outS_step {ss : List ByteArray} {k : Nat} {x : ByteArray} (hx : ss[k]? = some x) : outS (ss.take (k + 1)) = outS (ss.take k) ++ ((⟨#[115, 108, 105, 100, 101, 32]⟩ ++ x) ++ ⟨#[10]⟩) := by
  rw [outS, outS, take_snoc hx, List.foldl_append]; rfl
theorem outA_turn {ss : List ByteArray} {xs : List AX} {k : Nat} {x : AX} (hx : xs[k]? = some x) (h : tuB x = true) : outA ss (xs.take (k + 1)) = ((outA ss (xs.take k) ++ tAt x) ++ (⟨#[32]⟩ ++ decS x.2.2.2)) ++ ⟨#[10]⟩ := by
  rw [outA, outA, take_snoc hx, List.foldl_append]; simp only [List.foldl_cons, List.foldl_nil, stA]; rw [if_pos h]
theorem outA_else {ss : List ByteArray} {xs : List AX} {k : Nat} {x : AX} (hx : xs[k]? = some x) (h : tuB x = false) : outA ss (xs.take (k + 1)) = (outA ss (xs.take k) ++ tAt x) ++ ⟨#[10]⟩ := by
  rw [outA, outA, take_snoc hx, List.foldl_append]; simp only [List.foldl_cons, List.foldl_nil, stA]; rw [if_neg (by rw [h]; decide)]
theorem add_ok {P : Program} (a b : ByteArray) (h : a.size ≤ 1000000) (h' : b.size ≤ 1000000) (w : World) : (Op.stringOp .add a b).run P w = .ok (.string (a ++ b)) w := run_string_add_sum w a b (by omega)
theorem nmOk_size {s : ByteArray} (h : nmOk s = true) : s.size ≤ 12 := by
  rw [nmOk, decide_eq_true_iff] at h; exact h.2.1
theorem okSl_size {ss : List ByteArray} (h : okSl ss) {k : Nat} {x : ByteArray} (hx : ss[k]? = some x) : x.size ≤ 12 := nmOk_size (slCode_zero (h k x hx)).1
theorem wd_size {x : AX} (h : wdB x = true) : x.2.1.size ≤ 4 := by
  have : x.2.1.data.toList.length = 4 := by
    rw [← ByteArray.toList_eq]
    rcases wd_cases h with ⟨h1, _, _⟩ | ⟨_, h1, _⟩ | ⟨_, _, h1⟩ <;> (rw [beq_iff_eq] at h1; rw [h1]; rfl)
  rw [Array.length_toList] at this
  exact Nat.le_of_eq this
open Classical in
theorem okAc_sizes {ss : List ByteArray} {xs : List AX} (h1 : okSl ss) (h : okAc ss xs) {k : Nat} {x : AX} (hx : xs[k]? = some x) : x.2.1.size ≤ 4 ∧ x.2.2.1.size ≤ 12 ∧ In64 x.1 ∧ In64 x.2.2.2 := by
  obtain ⟨a, b, c, _⟩ := acCode_zero (h k x hx)
  refine ⟨wd_size a, ?_, ?_, ?_⟩
  · rw [hasB, decide_eq_true_iff] at b
    obtain ⟨i, hi⟩ := b
    exact okSl_size h1 hi
  · rw [nuB, decide_eq_true_iff] at c; unfold In64; omega
  · rw [nuB, decide_eq_true_iff] at c; unfold In64; omega

set_option maxHeartbeats 4000000 in
set_option maxRecDepth 100000 in
theorem l18Text_any (g : Nat) (A : Option Addr) (n c : Nat) (ss : List ByteArray) (B : Option Addr) (m d : Nat) (xs : List AX) (w : World) (c0 : w.cell? ⟨g, 0, none⟩ = some (.slice A n c)) (c1 : w.cell? ⟨g, 1, none⟩ = some (.slice B m d)) (h : Sl w 1 eS A n ss) (h2 : Sl w 4 eAct B m xs) (hv : vScr ss xs = true) :
    Calls Tryd.prog 22 #[.pointer (some ⟨g, 0, none⟩)] w fun e w' => e = .returned (.string (outA ss xs)) ∧ Below w.heap.size w w' := by
  have HV := Lib.hid (vScr_true hv)
  clear hv
  go_enter Tryd.func22, Tryd.ntmps22
  go_wp2_with fail
  go_loop [3, 4] (fun o i => ∃ k : Nat, ∃ ob : ByteArray, k ≤ n ∧ i = .int .i64 k ∧ o = .string ob ∧ ob.size ≤ 100 * k ∧ Hid (ob = outS (ss.take k))) (fun _ i => n - (intOf i).toNat)
  case atStart => exact ⟨0, ByteArray.empty, by omega, rfl, rfl, by decide, rfl⟩
  case round =>
    obtain ⟨k, ob, hk, rfl, rfl, hsz, HO⟩ := hrel
    have hk60 : k ≤ 60 := by have := okSl_len HV.out.1; rw [h.1] at this; omega
    by_cases hlt : k < n
    · obtain ⟨b, off, x, hbo, hx, hmm, d0⟩ := h.atS hlt
      have hxz := okSl_size HV.out.1 hx
      have HS := Lib.hid (outS_step hx)
      clear hx hmm
      subst hbo
      have z1 : ((⟨#[115, 108, 105, 100, 101, 32]⟩ : ByteArray) ++ x).size ≤ 18 := by rw [ByteArray.size_append]; exact Nat.add_le_add_left hxz 6
      have z2 : (((⟨#[115, 108, 105, 100, 101, 32]⟩ : ByteArray) ++ x) ++ ⟨#[10]⟩).size ≤ 19 := by rw [ByteArray.size_append]; exact Nat.add_le_add_right z1 1
      have a1 := add_ok (P := Tryd.prog) ⟨#[115, 108, 105, 100, 101, 32]⟩ x (by decide) (by omega)
      have a2 := add_ok (P := Tryd.prog) (⟨#[115, 108, 105, 100, 101, 32]⟩ ++ x) ⟨#[10]⟩ (by omega) (by decide)
      have a3 := add_ok (P := Tryd.prog) ob ((⟨#[115, 108, 105, 100, 101, 32]⟩ ++ x) ++ ⟨#[10]⟩) (by omega) (by omega)
      have HZ : Hid ((ob ++ ((⟨#[115, 108, 105, 100, 101, 32]⟩ ++ x) ++ ⟨#[10]⟩)).size ≤ 100 * (k + 1)) := by rw [Hid, ByteArray.size_append]; omega
      clear z1 z2 hxz hsz
      go_wp2_with fail
      go_round
      case rel => exact ⟨k + 1, _, by omega, by go_num, rfl, HZ.out, by rw [Hid, HS.out, ← HO.out]⟩
      case measure => simp [intOf]; omega
    · have : k = n := by omega
      subst this
      have HE : Hid (ob = outA ss (xs.take 0)) := by rw [Hid, HO.out, List.take_of_length_le (by rw [h.1]; exact Nat.le_refl _)]; rfl
      clear HO
      have hs6 : ob.size ≤ 6000 + 100 * 0 := by omega
      clear hsz
      go_wp2_with fail
      go_loopw [3, 5] (fun o i wr => ∃ z : Nat, ∃ ob : ByteArray, z ≤ m ∧ i = .int .i64 z ∧ o = .string ob ∧ ob.size ≤ 6000 + 100 * z ∧ Hid (ob = outA ss (xs.take z)) ∧ Below w.heap.size w wr) (fun _ i _ => m - (intOf i).toNat)
      case atStart => exact ⟨0, ob, by omega, rfl, rfl, hs6, HE, Below.refl _ _⟩
      case round =>
        clear HE hs6
        obtain ⟨z, ob, hzm, rfl, rfl, hsz, HO, hb⟩ := hrel
        have hz60 : z ≤ 60 := by have := okAc_len HV.out.2; rw [h2.1] at this; omega
        have y0 := (hb.cell (World.block_lt_of_cell? _ _ c0)).trans c0
        have y1 := (hb.cell (World.block_lt_of_cell? _ _ c1)).trans c1
        by_cases hlt2 : z < m
        · obtain ⟨b, off, x, hbo, hx, hmm, d0, d1, d2, d3⟩ := (h2.below hb).atAct hlt2
          subst hbo
          obtain ⟨y1, y2, y3, y4⟩ := okAc_sizes HV.out.1 HV.out.2 hx
          have HX := Lib.hid hx
          clear hx hmm
          have u1 := decS_size y3
          have u4 := decS_size y4
          have Y3 := Lib.hid y3
          have Y4 := Lib.hid y4
          clear y3 y4
          have t1 : ((⟨#[97, 116, 32]⟩ : ByteArray) ++ decS x.1).size ≤ 24 := by rw [ByteArray.size_append]; exact Nat.add_le_add_left u1 3
          have t2 : (((⟨#[97, 116, 32]⟩ : ByteArray) ++ decS x.1) ++ ⟨#[32]⟩).size ≤ 25 := by rw [ByteArray.size_append]; exact Nat.add_le_add_right t1 1
          have t3 : ((((⟨#[97, 116, 32]⟩ : ByteArray) ++ decS x.1) ++ ⟨#[32]⟩) ++ x.2.1).size ≤ 29 := by rw [ByteArray.size_append]; exact Nat.add_le_add t2 y1
          have t4 : (((((⟨#[97, 116, 32]⟩ : ByteArray) ++ decS x.1) ++ ⟨#[32]⟩) ++ x.2.1) ++ ⟨#[32]⟩).size ≤ 30 := by rw [ByteArray.size_append]; exact Nat.add_le_add_right t3 1
          have t5 : (tAt x).size ≤ 42 := by show (_ ++ _ : ByteArray).size ≤ 42; rw [ByteArray.size_append]; exact Nat.add_le_add t4 y2
          have t6 : (ob ++ tAt x).size ≤ 6042 + 100 * z := by rw [ByteArray.size_append]; omega
          have t7 : ((⟨#[32]⟩ : ByteArray) ++ decS x.2.2.2).size ≤ 22 := by rw [ByteArray.size_append]; exact Nat.add_le_add_left u4 1
          have t8 : ((ob ++ tAt x) ++ (⟨#[32]⟩ ++ decS x.2.2.2)).size ≤ 6064 + 100 * z := by rw [ByteArray.size_append]; omega
          have a1 := add_ok (P := Tryd.prog) ⟨#[97, 116, 32]⟩ (decS x.1) (by decide) (by omega)
          have a2 := add_ok (P := Tryd.prog) (⟨#[97, 116, 32]⟩ ++ decS x.1) ⟨#[32]⟩ (by omega) (by decide)
          have a3 := add_ok (P := Tryd.prog) ((⟨#[97, 116, 32]⟩ ++ decS x.1) ++ ⟨#[32]⟩) x.2.1 (by omega) (by omega)
          have a4 := add_ok (P := Tryd.prog) (((⟨#[97, 116, 32]⟩ ++ decS x.1) ++ ⟨#[32]⟩) ++ x.2.1) ⟨#[32]⟩ (by omega) (by decide)
          have a5 : ∀ w, (Op.stringOp .add ((((⟨#[97, 116, 32]⟩ ++ decS x.1) ++ ⟨#[32]⟩) ++ x.2.1) ++ ⟨#[32]⟩) x.2.2.1).run Tryd.prog w = .ok (.string (tAt x)) w := add_ok (P := Tryd.prog) _ x.2.2.1 (by omega) (by omega)
          have a6 := add_ok (P := Tryd.prog) ob (tAt x) (by omega) (by omega)
          have a7 := add_ok (P := Tryd.prog) ⟨#[32]⟩ (decS x.2.2.2) (by decide) (by omega)
          have a8 := add_ok (P := Tryd.prog) (ob ++ tAt x) (⟨#[32]⟩ ++ decS x.2.2.2) (by omega) (by omega)
          have a9 := add_ok (P := Tryd.prog) ((ob ++ tAt x) ++ (⟨#[32]⟩ ++ decS x.2.2.2)) ⟨#[10]⟩ (by omega) (by decide)
          have a10 := add_ok (P := Tryd.prog) (ob ++ tAt x) ⟨#[10]⟩ (by omega) (by decide)
          have HZ1 : Hid (((ob ++ tAt x) ++ ⟨#[10]⟩).size ≤ 6000 + 100 * (z + 1)) := by rw [Hid, ByteArray.size_append]; exact Nat.le_trans (Nat.add_le_add_right t6 1) (by omega)
          have HZ2 : Hid ((((ob ++ tAt x) ++ (⟨#[32]⟩ ++ decS x.2.2.2)) ++ ⟨#[10]⟩).size ≤ 6000 + 100 * (z + 1)) := by rw [Hid, ByteArray.size_append]; exact Nat.le_trans (Nat.add_le_add_right t8 1) (by omega)
          clear t1 t2 t3 t4 t5 t6 t7 t8 u1 u4 y1 y2 hsz
          have hb1 : Below w.heap.size w (wr.alloc (.cells #[.int .i64 x.1, .string x.2.1, .string x.2.2.1, .int .i64 x.2.2.2] 56)) := hb.alloc hb.size _
          have e0 : (wr.alloc (.cells #[.int .i64 x.1, .string x.2.1, .string x.2.2.1, .int .i64 x.2.2.2] 56)).cell? ⟨wr.heap.size, 0, none⟩ = some (.int .i64 x.1) := by simp [go_sem]
          have e1 : (wr.alloc (.cells #[.int .i64 x.1, .string x.2.1, .string x.2.2.1, .int .i64 x.2.2.2] 56)).cell? ⟨wr.heap.size, 1, none⟩ = some (.string x.2.1) := by simp [go_sem]
          have e2 : (wr.alloc (.cells #[.int .i64 x.1, .string x.2.1, .string x.2.2.1, .int .i64 x.2.2.2] 56)).cell? ⟨wr.heap.size, 2, none⟩ = some (.string x.2.2.1) := by simp [go_sem]
          have e3 : (wr.alloc (.cells #[.int .i64 x.1, .string x.2.1, .string x.2.2.1, .int .i64 x.2.2.2] 56)).cell? ⟨wr.heap.size, 3, none⟩ = some (.int .i64 x.2.2.2) := by simp [go_sem]
          cases q2 : (x.2.1.toList == [116, 117, 114, 110])
          · have HF := Lib.hid (outA_else (ss := ss) HX.out q2)
            go_wp2_with fail
            generalize wr.alloc (.cells #[.int .i64 x.1, .string x.2.1, .string x.2.2.1, .int .i64 x.2.2.2] 56) = W1 at hb1 e0 e1 e2 e3 ⊢
            generalize wr.heap.size = g1 at e0 e1 e2 e3 ⊢
            go_region_held3 (fun w' => Below W1.heap.size W1 w' ∧ w'.cell? ⟨g1, 0, none⟩ = some (.int .i64 x.1) ∧ w'.cell? ⟨g1, 1, none⟩ = some (.string x.2.1) ∧ w'.cell? ⟨g1, 2, none⟩ = some (.string x.2.2.1) ∧ w'.cell? ⟨g1, 3, none⟩ = some (.int .i64 x.2.2.2))
              (first
                | exact ⟨(Below.refl _ _).drew, e0, e1, e2, e3⟩
                | assumption
                | (obtain ⟨hq1, p0, p1, p2, p3⟩ := (show Below W1.heap.size W1 _ ∧ World.cell? _ ⟨g1, 0, none⟩ = some (.int .i64 x.1) ∧ World.cell? _ ⟨g1, 1, none⟩ = some (.string x.2.1) ∧ World.cell? _ ⟨g1, 2, none⟩ = some (.string x.2.2.1) ∧ World.cell? _ ⟨g1, 3, none⟩ = some (.int .i64 x.2.2.2) from by assumption)
                   exact ⟨below_mid hq1 hbA hq1.size, (hbA.cell (World.block_lt_of_cell? _ _ p0)).trans p0, (hbA.cell (World.block_lt_of_cell? _ _ p1)).trans p1, (hbA.cell (World.block_lt_of_cell? _ _ p2)).trans p2, (hbA.cell (World.block_lt_of_cell? _ _ p3)).trans p3⟩))
              (first
                | (go_at_call 30; refine (l01Dec_any x.1 _ Y3.out).mono ?_; rintro e wa ⟨rfl, hbA⟩))
            all_goals (
              obtain ⟨hbR, e0, e1, e2, e3⟩ := (show Below W1.heap.size W1 _ ∧ World.cell? _ ⟨g1, 0, none⟩ = some (.int .i64 x.1) ∧ World.cell? _ ⟨g1, 1, none⟩ = some (.string x.2.1) ∧ World.cell? _ ⟨g1, 2, none⟩ = some (.string x.2.2.1) ∧ World.cell? _ ⟨g1, 3, none⟩ = some (.int .i64 x.2.2.2) from by assumption)
              have hbS := below_mid hb1 hbR hb1.size
              go_wp2_with fail
              go_roundw
              case rel => exact ⟨z + 1, _, by omega, by go_num, rfl, HZ1.out, by rw [Hid, HF.out, ← HO.out], hbS⟩
              case measure => simp [intOf]; omega)
          · have HF := Lib.hid (outA_turn (ss := ss) HX.out q2)
            go_wp2_with fail
            generalize wr.alloc (.cells #[.int .i64 x.1, .string x.2.1, .string x.2.2.1, .int .i64 x.2.2.2] 56) = W1 at hb1 e0 e1 e2 e3 ⊢
            generalize wr.heap.size = g1 at e0 e1 e2 e3 ⊢
            go_region_held3 (fun w' => Below W1.heap.size W1 w' ∧ w'.cell? ⟨g1, 0, none⟩ = some (.int .i64 x.1) ∧ w'.cell? ⟨g1, 1, none⟩ = some (.string x.2.1) ∧ w'.cell? ⟨g1, 2, none⟩ = some (.string x.2.2.1) ∧ w'.cell? ⟨g1, 3, none⟩ = some (.int .i64 x.2.2.2))
              (first
                | exact ⟨(Below.refl _ _).drew, e0, e1, e2, e3⟩
                | assumption
                | (obtain ⟨hq1, p0, p1, p2, p3⟩ := (show Below W1.heap.size W1 _ ∧ World.cell? _ ⟨g1, 0, none⟩ = some (.int .i64 x.1) ∧ World.cell? _ ⟨g1, 1, none⟩ = some (.string x.2.1) ∧ World.cell? _ ⟨g1, 2, none⟩ = some (.string x.2.2.1) ∧ World.cell? _ ⟨g1, 3, none⟩ = some (.int .i64 x.2.2.2) from by assumption)
                   exact ⟨below_mid hq1 hbA hq1.size, (hbA.cell (World.block_lt_of_cell? _ _ p0)).trans p0, (hbA.cell (World.block_lt_of_cell? _ _ p1)).trans p1, (hbA.cell (World.block_lt_of_cell? _ _ p2)).trans p2, (hbA.cell (World.block_lt_of_cell? _ _ p3)).trans p3⟩))
              (first
                | (go_at_call 30; refine (l01Dec_any x.1 _ Y3.out).mono ?_; rintro e wa ⟨rfl, hbA⟩))
            all_goals (
              obtain ⟨hbR, e0, e1, e2, e3⟩ := (show Below W1.heap.size W1 _ ∧ World.cell? _ ⟨g1, 0, none⟩ = some (.int .i64 x.1) ∧ World.cell? _ ⟨g1, 1, none⟩ = some (.string x.2.1) ∧ World.cell? _ ⟨g1, 2, none⟩ = some (.string x.2.2.1) ∧ World.cell? _ ⟨g1, 3, none⟩ = some (.int .i64 x.2.2.2) from by assumption)
              have hbS := below_mid hb1 hbR hb1.size
              go_wp2_with fail
              refine (l01Dec_any x.2.2.2 _ Y4.out).mono ?_
              rintro e wc ⟨rfl, hbC⟩
              go_wp2_with fail
              go_roundw
              case rel => exact ⟨z + 1, _, by omega, by go_num, rfl, HZ2.out, by rw [Hid, HF.out, ← HO.out], below_mid hbS hbC hbS.size⟩
              case measure => simp [intOf]; omega)
        · have : z = m := by omega
          subst this
          have HE : Hid (ob = outA ss xs) := by rw [Hid, HO.out, List.take_of_length_le (by rw [h2.1]; exact Nat.le_refl _)]
          clear hsz
          go_wp2_with fail
          go_ret
          exact ⟨by first | (rw [← HE.out]; done) | (rw [← HE.out]; rfl), hb⟩

theorem stText_no {ss : List ByteArray} {xs : List AX} (h : vScr ss xs = false) : stText ss xs = ByteArray.empty := by rw [stText, if_pos h]
theorem stText_yes {ss : List ByteArray} {xs : List AX} (h : vScr ss xs = true) : stText ss xs = outA ss xs := by rw [stText, if_neg (by rw [h]; decide)]
theorem specScriptText_any (A : Option Addr) (n c : Nat) (ss : List ByteArray) (B : Option Addr) (m d : Nat) (xs : List AX) (w : World) (h : Sl w 1 eS A n ss) (h2 : Sl w 4 eAct B m xs) (hn : n ≤ 1048577) (hm : m ≤ 1048577) (hz : ∀ s ∈ ss, s.size ≤ maxLen) :
    Calls Tryd.prog 7 #[.agg #[.slice A n c, .slice B m d]] w fun e w' => e = .returned (.string (stText ss xs)) ∧ Below w.heap.size w w' := by
  have hW := below_alloc w (.cells #[.slice A n c, .slice B m d] 30)
  have x0 : (w.alloc (.cells #[.slice A n c, .slice B m d] 30)).cell? ⟨w.heap.size, 0, none⟩ = some (.slice A n c) := by simp [go_sem]
  have x1 : (w.alloc (.cells #[.slice A n c, .slice B m d] 30)).cell? ⟨w.heap.size, 1, none⟩ = some (.slice B m d) := by simp [go_sem]
  cases qv : vScr ss xs
  · have HS := Lib.hid (stText_no qv)
    go_enter Tryd.func7, Tryd.ntmps7
    go_wp2_with fail
    refine (l18Ok_any w.heap.size A n c ss B m d xs _ x0 x1 (h.below hW) (h2.below hW) hn hm hz).mono ?_
    rintro e w2 ⟨rfl, hb2⟩
    rw [qv]
    go_wp2_with fail
    go_ret
    exact ⟨by first | (rw [HS.out]; done) | (rw [HS.out]; rfl), below_step hW hb2⟩
  · have HS := Lib.hid (stText_yes qv)
    go_enter Tryd.func7, Tryd.ntmps7
    go_wp2_with fail
    refine (l18Ok_any w.heap.size A n c ss B m d xs _ x0 x1 (h.below hW) (h2.below hW) hn hm hz).mono ?_
    rintro e w2 ⟨rfl, hb2⟩
    replace x0 := (hb2.cell (World.block_lt_of_cell? _ _ x0)).trans x0
    replace x1 := (hb2.cell (World.block_lt_of_cell? _ _ x1)).trans x1
    replace hW := below_step hW hb2
    rw [qv]
    go_wp2_with fail
    refine (l18Text_any w.heap.size A n c ss B m d xs _ x0 x1 (h.below hW) (h2.below hW) qv).mono ?_
    rintro e w3 ⟨rfl, hb3⟩
    go_wp2_with fail
    go_ret
    exact ⟨by first | (rw [HS.out]; done) | (rw [HS.out]; rfl), below_step hW hb3⟩

set_option maxHeartbeats 4000000 in
set_option maxRecDepth 100000 in
theorem implScriptText_any (A : Option Addr) (n c : Nat) (ss : List ByteArray) (B : Option Addr) (m d : Nat) (xs : List AX) (w : World) (h : Sl w 1 eS A n ss) (h2 : Sl w 4 eAct B m xs) (hn : n ≤ 1048577) (hm : m ≤ 1048577) (hz : ∀ s ∈ ss, s.size ≤ maxLen) (hT0 : Tab w) :
    Calls Tryd.prog 9 #[.agg #[.slice A n c, .slice B m d]] w fun e w' => e = .returned (.string (stText ss xs)) ∧ Below w.heap.size w w' := by
  have hW := below_alloc w (.cells #[.slice A n c, .slice B m d] 30)
  have x0 : (w.alloc (.cells #[.slice A n c, .slice B m d] 30)).cell? ⟨w.heap.size, 0, none⟩ = some (.slice A n c) := by simp [go_sem]
  have x1 : (w.alloc (.cells #[.slice A n c, .slice B m d] 30)).cell? ⟨w.heap.size, 1, none⟩ = some (.slice B m d) := by simp [go_sem]
  cases qv : vScr ss xs
  · have HS := Lib.hid (stText_no qv)
    go_enter Tryd.func9, Tryd.ntmps9
    go_wp2_with fail
    refine (implValidScript_any A n c ss B m d xs _ (h.below hW) (h2.below hW) hn hm hz).mono ?_
    rintro e w2 ⟨rfl, hb2⟩
    rw [qv]
    go_wp2_with fail
    go_ret
    exact ⟨by first | (rw [HS.out]; done) | (rw [HS.out]; rfl), below_step hW hb2⟩
  · have HS := Lib.hid (stText_yes qv)
    have HV := Lib.hid (vScr_true qv)
    go_enter Tryd.func9, Tryd.ntmps9
    go_wp2_with fail
    refine (implValidScript_any A n c ss B m d xs _ (h.below hW) (h2.below hW) hn hm hz).mono ?_
    rintro e w2 ⟨rfl, hb2⟩
    replace x0 := (hb2.cell (World.block_lt_of_cell? _ _ x0)).trans x0
    replace x1 := (hb2.cell (World.block_lt_of_cell? _ _ x1)).trans x1
    replace hW := below_step hW hb2
    clear hb2
    rw [qv]
    clear qv hz
    have hT := hT0.below hW
    replace h := h.below hW
    replace h2 := h2.below hW
    go_wp2_with fail
    go_loop [3, 14] (fun o i => ∃ k : Nat, ∃ ob : ByteArray, k ≤ n ∧ i = .int .i64 k ∧ o = .string ob ∧ ob.size ≤ 100 * k ∧ Hid (ob = outS (ss.take k))) (fun _ i => n - (intOf i).toNat)
    case atStart => exact ⟨0, ByteArray.empty, by omega, rfl, rfl, by decide, rfl⟩
    case round =>
      obtain ⟨k, ob, hk, rfl, rfl, hsz, HO⟩ := hrel
      have hk60 : k ≤ 60 := by have := okSl_len HV.out.1; rw [h.1] at this; omega
      by_cases hlt : k < n
      · obtain ⟨b, off, x, hbo, hx, hmm, d0⟩ := h.atS hlt
        have hxz := okSl_size HV.out.1 hx
        have HS := Lib.hid (outS_step hx)
        clear hx hmm
        subst hbo
        have z1 : ((⟨#[115, 108, 105, 100, 101, 32]⟩ : ByteArray) ++ x).size ≤ 18 := by rw [ByteArray.size_append]; exact Nat.add_le_add_left hxz 6
        have z2 : (((⟨#[115, 108, 105, 100, 101, 32]⟩ : ByteArray) ++ x) ++ ⟨#[10]⟩).size ≤ 19 := by rw [ByteArray.size_append]; exact Nat.add_le_add_right z1 1
        have a1 := add_ok (P := Tryd.prog) ⟨#[115, 108, 105, 100, 101, 32]⟩ x (by decide) (by omega)
        have a2 := add_ok (P := Tryd.prog) (⟨#[115, 108, 105, 100, 101, 32]⟩ ++ x) ⟨#[10]⟩ (by omega) (by decide)
        have a3 := add_ok (P := Tryd.prog) ob ((⟨#[115, 108, 105, 100, 101, 32]⟩ ++ x) ++ ⟨#[10]⟩) (by omega) (by omega)
        have HZ : Hid ((ob ++ ((⟨#[115, 108, 105, 100, 101, 32]⟩ ++ x) ++ ⟨#[10]⟩)).size ≤ 100 * (k + 1)) := by rw [Hid, ByteArray.size_append]; omega
        clear z1 z2 hxz hsz
        go_wp2_with fail
        go_round
        case rel => exact ⟨k + 1, _, by omega, by go_num, rfl, HZ.out, by rw [Hid, HS.out, ← HO.out]⟩
        case measure => simp [intOf]; omega
      · have : k = n := by omega
        subst this
        have HE : Hid (ob = outA ss (xs.take 0)) := by rw [Hid, HO.out, List.take_of_length_le (by rw [h.1]; exact Nat.le_refl _)]; rfl
        clear HO
        have hs6 : ob.size ≤ 6000 + 100 * 0 := by omega
        clear hsz
        go_wp2_with fail
        go_loopw [3, 27] (fun o i wr => ∃ z : Nat, ∃ ob : ByteArray, z ≤ m ∧ i = .int .i64 z ∧ o = .string ob ∧ ob.size ≤ 6000 + 100 * z ∧ Hid (ob = outA ss (xs.take z)) ∧ Below w2.heap.size w2 wr) (fun _ i _ => m - (intOf i).toNat)
        case atStart => exact ⟨0, ob, by omega, rfl, rfl, hs6, HE, Below.refl _ _⟩
        case round =>
          clear HE hs6
          obtain ⟨z, ob, hzm, rfl, rfl, hsz, HO, hb⟩ := hrel
          have hz60 : z ≤ 60 := by have := okAc_len HV.out.2; rw [h2.1] at this; omega
          have y1 := (hb.cell (World.block_lt_of_cell? _ _ x1)).trans x1
          by_cases hlt2 : z < m
          · obtain ⟨b, off, x, hbo, hx, hmm, d0, d1, d2, d3⟩ := (h2.below hb).atAct hlt2
            subst hbo
            obtain ⟨y1, y2, y3, y4⟩ := okAc_sizes HV.out.1 HV.out.2 hx
            have HX := Lib.hid hx
            clear hx hmm
            have u1 := decS_size y3
            have u4 := decS_size y4
            have Y3 := Lib.hid y3
            have Y4 := Lib.hid y4
            clear y3 y4
            have t1 : ((⟨#[97, 116, 32]⟩ : ByteArray) ++ decS x.1).size ≤ 24 := by rw [ByteArray.size_append]; exact Nat.add_le_add_left u1 3
            have t2 : (((⟨#[97, 116, 32]⟩ : ByteArray) ++ decS x.1) ++ ⟨#[32]⟩).size ≤ 25 := by rw [ByteArray.size_append]; exact Nat.add_le_add_right t1 1
            have t3 : ((((⟨#[97, 116, 32]⟩ : ByteArray) ++ decS x.1) ++ ⟨#[32]⟩) ++ x.2.1).size ≤ 29 := by rw [ByteArray.size_append]; exact Nat.add_le_add t2 y1
            have t4 : (((((⟨#[97, 116, 32]⟩ : ByteArray) ++ decS x.1) ++ ⟨#[32]⟩) ++ x.2.1) ++ ⟨#[32]⟩).size ≤ 30 := by rw [ByteArray.size_append]; exact Nat.add_le_add_right t3 1
            have t5 : (tAt x).size ≤ 42 := by show (_ ++ _ : ByteArray).size ≤ 42; rw [ByteArray.size_append]; exact Nat.add_le_add t4 y2
            have t6 : (ob ++ tAt x).size ≤ 6042 + 100 * z := by rw [ByteArray.size_append]; omega
            have t7 : ((⟨#[32]⟩ : ByteArray) ++ decS x.2.2.2).size ≤ 22 := by rw [ByteArray.size_append]; exact Nat.add_le_add_left u4 1
            have t8 : ((ob ++ tAt x) ++ (⟨#[32]⟩ ++ decS x.2.2.2)).size ≤ 6064 + 100 * z := by rw [ByteArray.size_append]; omega
            have a1 := add_ok (P := Tryd.prog) ⟨#[97, 116, 32]⟩ (decS x.1) (by decide) (by omega)
            have a2 := add_ok (P := Tryd.prog) (⟨#[97, 116, 32]⟩ ++ decS x.1) ⟨#[32]⟩ (by omega) (by decide)
            have a3 := add_ok (P := Tryd.prog) ((⟨#[97, 116, 32]⟩ ++ decS x.1) ++ ⟨#[32]⟩) x.2.1 (by omega) (by omega)
            have a4 := add_ok (P := Tryd.prog) (((⟨#[97, 116, 32]⟩ ++ decS x.1) ++ ⟨#[32]⟩) ++ x.2.1) ⟨#[32]⟩ (by omega) (by decide)
            have a5 : ∀ w, (Op.stringOp .add ((((⟨#[97, 116, 32]⟩ ++ decS x.1) ++ ⟨#[32]⟩) ++ x.2.1) ++ ⟨#[32]⟩) x.2.2.1).run Tryd.prog w = .ok (.string (tAt x)) w := add_ok (P := Tryd.prog) _ x.2.2.1 (by omega) (by omega)
            have a6 := add_ok (P := Tryd.prog) ob (tAt x) (by omega) (by omega)
            have a7 := add_ok (P := Tryd.prog) ⟨#[32]⟩ (decS x.2.2.2) (by decide) (by omega)
            have a8 := add_ok (P := Tryd.prog) (ob ++ tAt x) (⟨#[32]⟩ ++ decS x.2.2.2) (by omega) (by omega)
            have a9 := add_ok (P := Tryd.prog) ((ob ++ tAt x) ++ (⟨#[32]⟩ ++ decS x.2.2.2)) ⟨#[10]⟩ (by omega) (by decide)
            have a10 := add_ok (P := Tryd.prog) (ob ++ tAt x) ⟨#[10]⟩ (by omega) (by decide)
            have HZ1 : Hid (((ob ++ tAt x) ++ ⟨#[10]⟩).size ≤ 6000 + 100 * (z + 1)) := by rw [Hid, ByteArray.size_append]; exact Nat.le_trans (Nat.add_le_add_right t6 1) (by omega)
            have HZ2 : Hid ((((ob ++ tAt x) ++ (⟨#[32]⟩ ++ decS x.2.2.2)) ++ ⟨#[10]⟩).size ≤ 6000 + 100 * (z + 1)) := by rw [Hid, ByteArray.size_append]; exact Nat.le_trans (Nat.add_le_add_right t8 1) (by omega)
            clear t1 t2 t3 t4 t5 t6 t7 t8 u1 u4 y1 y2 hsz
            have hb1 : Below w2.heap.size w2 (wr.alloc (.cells #[.int .i64 x.1, .string x.2.1, .string x.2.2.1, .int .i64 x.2.2.2] 56)) := hb.alloc hb.size _
            have e0 : (wr.alloc (.cells #[.int .i64 x.1, .string x.2.1, .string x.2.2.1, .int .i64 x.2.2.2] 56)).cell? ⟨wr.heap.size, 0, none⟩ = some (.int .i64 x.1) := by simp [go_sem]
            have e1 : (wr.alloc (.cells #[.int .i64 x.1, .string x.2.1, .string x.2.2.1, .int .i64 x.2.2.2] 56)).cell? ⟨wr.heap.size, 1, none⟩ = some (.string x.2.1) := by simp [go_sem]
            have e2 : (wr.alloc (.cells #[.int .i64 x.1, .string x.2.1, .string x.2.2.1, .int .i64 x.2.2.2] 56)).cell? ⟨wr.heap.size, 2, none⟩ = some (.string x.2.2.1) := by simp [go_sem]
            have e3 : (wr.alloc (.cells #[.int .i64 x.1, .string x.2.1, .string x.2.2.1, .int .i64 x.2.2.2] 56)).cell? ⟨wr.heap.size, 3, none⟩ = some (.int .i64 x.2.2.2) := by simp [go_sem]
            cases q2 : (x.2.1.toList == [116, 117, 114, 110])
            · have HF := Lib.hid (outA_else (ss := ss) HX.out q2)
              go_wp2_with fail
              generalize wr.alloc (.cells #[.int .i64 x.1, .string x.2.1, .string x.2.2.1, .int .i64 x.2.2.2] 56) = W1 at hb1 e0 e1 e2 e3 ⊢
              generalize wr.heap.size = g1 at e0 e1 e2 e3 ⊢
              go_region_held3 (fun w' => Below W1.heap.size W1 w' ∧ w'.cell? ⟨g1, 0, none⟩ = some (.int .i64 x.1) ∧ w'.cell? ⟨g1, 1, none⟩ = some (.string x.2.1) ∧ w'.cell? ⟨g1, 2, none⟩ = some (.string x.2.2.1) ∧ w'.cell? ⟨g1, 3, none⟩ = some (.int .i64 x.2.2.2))
                (first
                  | exact ⟨(Below.refl _ _).drew, e0, e1, e2, e3⟩
                  | assumption
                  | (obtain ⟨hq1, p0, p1, p2, p3⟩ := (show Below W1.heap.size W1 _ ∧ World.cell? _ ⟨g1, 0, none⟩ = some (.int .i64 x.1) ∧ World.cell? _ ⟨g1, 1, none⟩ = some (.string x.2.1) ∧ World.cell? _ ⟨g1, 2, none⟩ = some (.string x.2.2.1) ∧ World.cell? _ ⟨g1, 3, none⟩ = some (.int .i64 x.2.2.2) from by assumption)
                     exact ⟨below_mid hq1 hbA hq1.size, (hbA.cell (World.block_lt_of_cell? _ _ p0)).trans p0, (hbA.cell (World.block_lt_of_cell? _ _ p1)).trans p1, (hbA.cell (World.block_lt_of_cell? _ _ p2)).trans p2, (hbA.cell (World.block_lt_of_cell? _ _ p3)).trans p3⟩))
                (first
                  | (go_at_call 26; refine (Decimal_any x.1 _ Y3.out ((hT.below hb1).below (show Below W1.heap.size W1 _ ∧ World.cell? _ ⟨g1, 0, none⟩ = some (.int .i64 x.1) ∧ World.cell? _ ⟨g1, 1, none⟩ = some (.string x.2.1) ∧ World.cell? _ ⟨g1, 2, none⟩ = some (.string x.2.2.1) ∧ World.cell? _ ⟨g1, 3, none⟩ = some (.int .i64 x.2.2.2) from by assumption).1)).mono ?_; rintro e wa ⟨rfl, hbA⟩))
              all_goals (
                obtain ⟨hbR, e0, e1, e2, e3⟩ := (show Below W1.heap.size W1 _ ∧ World.cell? _ ⟨g1, 0, none⟩ = some (.int .i64 x.1) ∧ World.cell? _ ⟨g1, 1, none⟩ = some (.string x.2.1) ∧ World.cell? _ ⟨g1, 2, none⟩ = some (.string x.2.2.1) ∧ World.cell? _ ⟨g1, 3, none⟩ = some (.int .i64 x.2.2.2) from by assumption)
                have hbS := below_mid hb1 hbR hb1.size
                go_wp2_with fail
                go_roundw
                case rel => exact ⟨z + 1, _, by omega, by go_num, rfl, HZ1.out, by rw [Hid, HF.out, ← HO.out], hbS⟩
                case measure => simp [intOf]; omega)
            · have HF := Lib.hid (outA_turn (ss := ss) HX.out q2)
              go_wp2_with fail
              generalize wr.alloc (.cells #[.int .i64 x.1, .string x.2.1, .string x.2.2.1, .int .i64 x.2.2.2] 56) = W1 at hb1 e0 e1 e2 e3 ⊢
              generalize wr.heap.size = g1 at e0 e1 e2 e3 ⊢
              go_region_held3 (fun w' => Below W1.heap.size W1 w' ∧ w'.cell? ⟨g1, 0, none⟩ = some (.int .i64 x.1) ∧ w'.cell? ⟨g1, 1, none⟩ = some (.string x.2.1) ∧ w'.cell? ⟨g1, 2, none⟩ = some (.string x.2.2.1) ∧ w'.cell? ⟨g1, 3, none⟩ = some (.int .i64 x.2.2.2))
                (first
                  | exact ⟨(Below.refl _ _).drew, e0, e1, e2, e3⟩
                  | assumption
                  | (obtain ⟨hq1, p0, p1, p2, p3⟩ := (show Below W1.heap.size W1 _ ∧ World.cell? _ ⟨g1, 0, none⟩ = some (.int .i64 x.1) ∧ World.cell? _ ⟨g1, 1, none⟩ = some (.string x.2.1) ∧ World.cell? _ ⟨g1, 2, none⟩ = some (.string x.2.2.1) ∧ World.cell? _ ⟨g1, 3, none⟩ = some (.int .i64 x.2.2.2) from by assumption)
                     exact ⟨below_mid hq1 hbA hq1.size, (hbA.cell (World.block_lt_of_cell? _ _ p0)).trans p0, (hbA.cell (World.block_lt_of_cell? _ _ p1)).trans p1, (hbA.cell (World.block_lt_of_cell? _ _ p2)).trans p2, (hbA.cell (World.block_lt_of_cell? _ _ p3)).trans p3⟩))
                (first
                  | (go_at_call 26; refine (Decimal_any x.1 _ Y3.out ((hT.below hb1).below (show Below W1.heap.size W1 _ ∧ World.cell? _ ⟨g1, 0, none⟩ = some (.int .i64 x.1) ∧ World.cell? _ ⟨g1, 1, none⟩ = some (.string x.2.1) ∧ World.cell? _ ⟨g1, 2, none⟩ = some (.string x.2.2.1) ∧ World.cell? _ ⟨g1, 3, none⟩ = some (.int .i64 x.2.2.2) from by assumption).1)).mono ?_; rintro e wa ⟨rfl, hbA⟩))
              all_goals (
                obtain ⟨hbR, e0, e1, e2, e3⟩ := (show Below W1.heap.size W1 _ ∧ World.cell? _ ⟨g1, 0, none⟩ = some (.int .i64 x.1) ∧ World.cell? _ ⟨g1, 1, none⟩ = some (.string x.2.1) ∧ World.cell? _ ⟨g1, 2, none⟩ = some (.string x.2.2.1) ∧ World.cell? _ ⟨g1, 3, none⟩ = some (.int .i64 x.2.2.2) from by assumption)
                have hbS := below_mid hb1 hbR hb1.size
                go_wp2_with fail
                refine (Decimal_any x.2.2.2 _ Y4.out (hT.below hbS)).mono ?_
                rintro e wc ⟨rfl, hbC⟩
                go_wp2_with fail
                go_roundw
                case rel => exact ⟨z + 1, _, by omega, by go_num, rfl, HZ2.out, by rw [Hid, HF.out, ← HO.out], below_mid hbS hbC hbS.size⟩
                case measure => simp [intOf]; omega)
          · have : z = m := by omega
            subst this
            have HE : Hid (ob = outA ss xs) := by rw [Hid, HO.out, List.take_of_length_le (by rw [h2.1]; exact Nat.le_refl _)]
            clear hsz
            go_wp2_with fail
            go_ret
            exact ⟨by first | (rw [HS.out, ← HE.out]; done) | (rw [HS.out, ← HE.out]; rfl), hW.trans (hb.mono hW.size)⟩

end Go.Proofs.YthplfodfilefjaaDoor
