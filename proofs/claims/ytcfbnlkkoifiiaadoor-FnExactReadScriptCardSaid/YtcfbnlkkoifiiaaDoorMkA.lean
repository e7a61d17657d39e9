/-
  Marks on rows of strings and on acts: that they are written, that they are held.
-/
import Derived.Test.YtcfbnlkkoifiiaaDoorMk
import Derived.Test.YtcfbnlkkoifiiaaDoorVs
import Derived.Deep.RegionHeld3
namespace Go.Proofs.YtcfbnlkkoifiiaaDoor
set_option maxRecDepth 100000
open Go.RowKit

theorem rowAct_one {ys : List AX} {i j : Nat} {y x : AX} {u : Value} (hy : ys[i]? = some y) (hj : j < 4) (hx : eAct x = (eAct y).set j u) : (ys.flatMap eAct).set (i * 4 + j) u = (ys.set i x).flatMap eAct := by
  induction ys generalizing i with
  | nil => simp at hy
  | cons z ys ih =>
    cases i with
    | zero =>
      simp at hy; subst hy
      rw [List.flatMap_cons, List.set_cons_zero, List.flatMap_cons, hx, Nat.zero_mul, Nat.zero_add, List.set_append_left _ _ (by rw [eAct_len]; exact hj)]
    | succ i =>
      rw [List.flatMap_cons, List.set_cons_succ, List.flatMap_cons, List.set_append_right _ _ (by rw [eAct_len]; omega), eAct_len, ← ih (i := i) (by simpa using hy)]
      congr 2; omega
theorem Own.setAct1 {w : World} {base : Nat} {e : TypeId} {g n cap : Nat} {ys : List AX} (h : Own w base e 4 eAct (.slice (some ⟨g, 0, none⟩) n cap) ys) {i j : Nat} {y x : AX} {u : Value} (hy : ys[i]? = some y) (hj : j < 4) (hx : eAct x = (eAct y).set j u) :
    Own (w.setCell ⟨g, i * 4 + j, none⟩ u) base e 4 eAct (.slice (some ⟨g, 0, none⟩) n cap) (ys.set i x) := by
  obtain ⟨A, c, hv, _⟩ := h.val
  injection hv with _ hn _
  subst hn
  have h1 := (World.ownsRow.stored h (i * 4 + j) u).1
  exact Own.of_row h1 (by simp) (rowAct_one hy hj hx)
theorem grown_below {a b : World} {row : Option Nat} (h : Below a.heap.size a b) : a.grownBy b row := ⟨h.os, h.tape, h.output, h.size, fun i hi _ => h.block i hi⟩
theorem grown_trans {a b c : World} {row : Option Nat} (h : a.grownBy b row) (k : b.grownBy c row) : a.grownBy c row :=
  ⟨k.os.trans h.os, k.tape.trans h.tape, k.output.trans h.output, Nat.le_trans h.size k.size, fun i hi hne => (k.block i (Nat.lt_of_lt_of_le hi h.size) hne).trans (h.block i hi hne)⟩

def marksS (k0 : Int) (n : Nat) : List ByteArray := (List.range n).map fun i : Nat => mkT (k0 + i)
theorem marksS_len (k0 : Int) (n : Nat) : (marksS k0 n).length = n := by simp [marksS]
theorem marksS_get (k0 : Int) {n k : Nat} (h : k < n) : (marksS k0 n)[k]? = some (mkT (k0 + k)) := by simp [marksS, h]
def marksA (k0 : Int) (n : Nat) : List AX := (List.range n).map fun i : Nat => (k0 + i * 4, mkT (k0 + i * 4 + 1), mkT (k0 + i * 4 + 1 + 1), k0 + i * 4 + 1 + 1 + 1)
theorem marksA_len (k0 : Int) (n : Nat) : (marksA k0 n).length = n := by simp [marksA]
theorem marksA_get (k0 : Int) {n k : Nat} (h : k < n) : (marksA k0 n)[k]? = some (k0 + k * 4, mkT (k0 + k * 4 + 1), mkT (k0 + k * 4 + 1 + 1), k0 + k * 4 + 1 + 1 + 1) := by simp [marksA, h]

theorem markStringS_at (g n c : Nat) (base : Nat) (k0 : Int) (xs : List ByteArray) (w : World) (h : Own w base 9 1 eS (.slice (some ⟨g, 0, none⟩) n c) xs) (hn : n ≤ 1048577) (hk0 : 0 ≤ k0) (hk1 : k0 ≤ 16777216) :
    Calls Tryd.prog 20 #[.slice (some ⟨g, 0, none⟩) n c, .int .i64 k0] w fun e w' => e = .returned (.int .i64 (k0 + n)) ∧ Own w' base 9 1 eS (.slice (some ⟨g, 0, none⟩) n c) (marksS k0 n) ∧ w.grownBy w' (some g) := by
  have hl : xs.length = n := (h.sl eS_len).1
  go_enter Tryd.func20, Tryd.ntmps20
  go_wp2
  go_loopw [1, 5] (fun q i wr => ∃ k : Nat, k ≤ n ∧ i = .int .i64 k ∧ q = .int .i64 (k0 + k) ∧ Own wr base 9 1 eS (.slice (some ⟨g, 0, none⟩) n c) (overK (marksS k0 n) xs k) ∧ w.grownBy wr (some g)) (fun _ i _ => n - (intOf i).toNat)
  case atStart => exact ⟨0, by omega, rfl, by simp, by simpa [overK] using h, World.grownBy.refl _ _⟩
  case round =>
    obtain ⟨k, hk, rfl, rfl, ho, hg⟩ := hrel
    by_cases hlt : k < n
    · obtain ⟨y, _, hy⟩ := overK_get (marksS_len k0 n) hl hlt
      go_wp2_with fail
      refine (markText_any _ _ (by omega)).mono ?_
      rintro e w5 ⟨rfl, hb5⟩
      have ho5 := ho.below hb5
      have d0 : w5.cell? ⟨g, k, none⟩ = some (.string y) := by simpa using ho5.cell eS_len hy (j := 0) rfl
      have g0 := ho5.free k
      go_wp2
      go_roundw
      case rel => exact ⟨k + 1, by omega, by go_num, by go_num, by rw [← overK_set (marksS_len k0 n) hl (marksS_get k0 hlt)]; exact ho5.setS k _, only_setCell (grown_trans hg (grown_below hb5)) (.inl rfl) _⟩
      case measure => simp [intOf]; omega
    · go_wp2
      go_ret
      have : k = n := by omega
      subst this
      exact ⟨rfl, by rw [← overK_all (marksS_len k0 k) hl]; exact ho, hg⟩
theorem markStringS_any (A : Option Addr) (n c : Nat) (base : Nat) (k0 : Int) (xs : List ByteArray) (w : World) (h : Own w base 9 1 eS (.slice A n c) xs) (hn : n ≤ 1048577) (hk0 : 0 ≤ k0) (hk1 : k0 ≤ 16777216) :
    Calls Tryd.prog 20 #[.slice A n c, .int .i64 k0] w fun e w' => e = .returned (.int .i64 (k0 + n)) ∧ Own w' base 9 1 eS (.slice A n c) (marksS k0 n) ∧ w.grownBy w' (Value.slice A n c).ownBlock := by
  rcases h.form with ⟨rfl, rfl, rfl, rfl⟩ | ⟨g, rfl⟩
  · go_enter Tryd.func20, Tryd.ntmps20
    go_wp2
    refine wp_loop_rounds 1 ?_
    rw [rounds_succ]
    go_wp2
    go_ret
    exact ⟨by simp, h, World.grownBy.refl _ _⟩
  · exact markStringS_at g n c base k0 xs w h hn hk0 hk1

set_option maxHeartbeats 800000 in
theorem heldStringS_any (A : Option Addr) (n c : Nat) (k0 : Int) (w : World) (h : Sl w 1 eS A n (marksS k0 n)) (hn : n ≤ 1048577) (hk0 : 0 ≤ k0) (hk1 : k0 ≤ 16777216) :
    Calls Tryd.prog 22 #[.slice A n c, .int .i64 k0] w fun e w' => e = .returned (.int .i64 (k0 + n)) ∧ Below w.heap.size w w' := by
  go_enter Tryd.func22, Tryd.ntmps22
  go_wp2
  go_loopw [1, 5] (fun q i wr => ∃ k : Nat, k ≤ n ∧ i = .int .i64 k ∧ q = .int .i64 (k0 + k) ∧ Below w.heap.size w wr) (fun _ i _ => n - (intOf i).toNat)
  case atStart => exact ⟨0, by omega, rfl, by simp, Below.refl _ _⟩
  case round =>
    obtain ⟨k, hk, rfl, rfl, hb⟩ := hrel
    by_cases hlt : k < n
    · obtain ⟨b, off, x, rfl, hx, _, c0⟩ := (h.below hb).atS hlt
      rw [marksS_get k0 hlt] at hx
      cases hx
      have g1 : (0 : Int) ≤ (k : Int) := by omega
      have g2 : (k : Int) < (n : Int) := by omega
      go_wp2_with fail
      go_region_held3 (fun w' => Below wr.heap.size wr w' ∧ w'.cell? ⟨b, off + k, none⟩ = some (.string (mkT (k0 + k))))
        (first
          | exact ⟨(Below.refl _ _).drew, c0⟩
          | assumption
          | (obtain ⟨hq1, p0⟩ := (show Below wr.heap.size wr _ ∧ World.cell? _ ⟨b, off + k, none⟩ = some (.string (mkT (k0 + k))) from by assumption)
             exact ⟨below_mid hq1 hbm hq1.size, (hbm.cell (World.block_lt_of_cell? _ _ p0)).trans p0⟩)
          | trace_state)
        (first
          | (go_at_call 34; refine (markText_any _ _ (by omega)).mono ?_; rintro r wm ⟨rfl, hbm⟩))
      all_goals (
        obtain ⟨hbu, _⟩ := (show Below wr.heap.size wr _ ∧ World.cell? _ ⟨b, off + k, none⟩ = some (.string (mkT (k0 + k))) from by assumption)
        have hb9 := below_mid hb hbu hb.size
        go_wp2_with fail
        go_roundw)
      all_goals first
        | exact ⟨k + 1, by omega, by go_num, by go_num, by assumption⟩
        | (simp [intOf]; omega)
    · go_wp2
      go_ret
      have : k = n := by omega
      subst this
      exact ⟨rfl, hb⟩

end Go.Proofs.YtcfbnlkkoifiiaaDoor
