/-
  The laws' helpers on scripts: sizes, copies, equality.
-/
import Derived.Test.YtcfbnlkkoifiiaaDoorBAct
namespace Go.Proofs.YtcfbnlkkoifiiaaDoor
set_option maxRecDepth 100000
open Go.RowKit

/-- what is left of a bound behind sizes; -1 if it is passed -/
def szGo : List Nat → Int → Int
  | [], l => l
  | a :: us, l => if l - (a : Int) < 0 then -1 else szGo us (l - a)
theorem szGo_le {us : List Nat} {l : Int} (h0 : 0 ≤ l) : szGo us l ≤ l ∧ -1 ≤ szGo us l := by
  induction us generalizing l with
  | nil => exact ⟨Int.le_refl _, by simp only [szGo]; omega⟩
  | cons a us ih =>
    rw [szGo]; split
    · omega
    · have := ih (l := l - a) (by omega); omega
theorem szGo_mem {us : List Nat} {l : Int} (h0 : 0 ≤ l) (h : 0 ≤ szGo us l) : ∀ a ∈ us, (a : Int) ≤ l := by
  induction us generalizing l with
  | nil => simp
  | cons a us ih =>
    rw [szGo] at h
    split at h
    · omega
    · intro b hb
      rcases List.mem_cons.1 hb with rfl | hb
      · omega
      · have := ih (l := l - a) (by omega) h b hb; omega
theorem szGo_app {us vs : List Nat} {l : Int} (h : 0 ≤ szGo us l) : szGo (us ++ vs) l = szGo vs (szGo us l) := by
  induction us generalizing l with
  | nil => rfl
  | cons a us ih =>
    rw [szGo] at h
    rw [List.cons_append, szGo, szGo]
    split at h
    · omega
    · rename_i h1; rw [if_neg h1, if_neg h1, ih h]
theorem szGo_no {us vs : List Nat} {l : Int} (h : szGo us l < 0) (h0 : 0 ≤ l) : szGo (us ++ vs) l = -1 := by
  induction us generalizing l with
  | nil => simp only [szGo] at h; omega
  | cons a us ih =>
    rw [szGo] at h
    rw [List.cons_append, szGo]
    split at h
    · rename_i h1; rw [if_pos h1]
    · rename_i h1; rw [if_neg h1, ih h (by omega)]
def szS (n : Nat) (ss : List ByteArray) : List Nat := n :: ss.map (·.size)
def szA1 (x : Int × ByteArray × ByteArray × Int) : List Nat := [x.2.1.size, x.2.2.1.size]
def szA (n : Nat) (xs : List (Int × ByteArray × ByteArray × Int)) : List Nat := n :: xs.flatMap szA1
theorem infoStr : (Tryd.prog.info? 9).map (fun i => (i.zero, i.size, i.bytes)) = some (some (.string .empty), 1, 16) := by kernel_rfl
theorem rowS_set (ys : List ByteArray) (i : Nat) (x : ByteArray) : (ys.flatMap eS).set i (.string x) = (ys.set i x).flatMap eS := by
  induction ys generalizing i with
  | nil => simp
  | cons y ys ih =>
    cases i with
    | zero => simp [List.flatMap_cons, eS]
    | succ i => simp only [List.flatMap_cons, eS, List.set_cons_succ, List.cons_append, List.nil_append]; rw [ih]
theorem Own.setS {w : World} {base : Nat} {e : TypeId} {g n cap : Nat} {ys : List ByteArray} (h : Own w base e 1 eS (.slice (some ⟨g, 0, none⟩) n cap) ys) (i : Nat) (x : ByteArray) :
    Own (w.setCell ⟨g, i, none⟩ (.string x)) base e 1 eS (.slice (some ⟨g, 0, none⟩) n cap) (ys.set i x) := by
  obtain ⟨A, c, hv, _⟩ := h.val
  injection hv with _ hn _
  subst hn
  have h1 := (World.ownsRow.stored h i (.string x)).1
  exact Own.of_row h1 (by simp) (rowS_set ys i x)

/-- a script's sizes -/
def szC (n m : Nat) (ss : List ByteArray) (xs : List (Int × ByteArray × ByteArray × Int)) : List Nat := szS n ss ++ szA m xs
theorem eqStringS_any (A : Option Addr) (n c : Nat) (xs : List ByteArray) (B : Option Addr) (m d : Nat) (ys : List ByteArray) (w : World) (h : Sl w 1 eS A n xs) (hn : n ≤ 1048577) (h' : Sl w 1 eS B m ys) (hm : m ≤ 1048577) :
    Calls Tryd.prog 17 #[.slice A n c, .slice B m d] w fun e w' => e = .returned (.bool (decide (xs = ys))) ∧ Below w.heap.size w w' := by
  by_cases hnm : n = m
  · subst hnm
    go_enter Tryd.func17, Tryd.ntmps17
    go_wp2
    go_loopw [5] (fun i wr => ∃ k : Nat, k ≤ n ∧ i = .int .i64 k ∧ Hid (xs.take k = ys.take k) ∧ Below w.heap.size w wr) (fun i _ => n - (intOf i).toNat)
    case atStart => exact ⟨0, by omega, rfl, by simp [Hid], Below.refl _ _⟩
    case round =>
      obtain ⟨k, hk, rfl, he, hb⟩ := hrel
      by_cases hlt : k < n
      · obtain ⟨b, off, x, rfl, hx, _, c0⟩ := (h.below hb).atS hlt
        obtain ⟨b', off', y, rfl, hy, _, d0⟩ := (h'.below hb).atS hlt
        cases q1 : (x.toList == y.toList)
        · go_wp2_with fail
          go_quiet (fail)
          go_wp2_with fail
          go_ret
          exact ⟨ret_bool (by have := ne_of_get hx hy (by rw [str_eq] at q1; simpa using q1); simp [this]), below_drewN hb _⟩
        · go_wp2_with fail
          go_quiet (fail)
          go_wp2_with fail
          go_roundw
          case rel => exact ⟨k + 1, by omega, by go_num, take_eq_step he.out hx hy (by rw [str_eq] at q1; simpa using q1), below_drewN hb _⟩
          case measure => simp [intOf]; omega
      · go_wp2
        go_ret
        have : k = n := by omega
        subst this
        exact ⟨ret_bool (by have := eq_of_take he.out h.1 h'.1; simp [this]), hb⟩
  · have hne : xs ≠ ys := fun e => hnm (by rw [← h.1, ← h'.1, e])
    have H := Lib.hid hne; clear hne
    go_enter Tryd.func17, Tryd.ntmps17
    go_wp2
    go_ret
    exact ⟨ret_bool (by simp [H.out]), Below.refl _ _⟩

end Go.Proofs.YtcfbnlkkoifiiaaDoor
