/-
  The program's stable sort of at most 12 slides, on a row of the call's own.
-/
import Derived.Test.YtcfbnlkkoifiiaaAsB
import Derived.Test.YtcfbnlkkoifiiaaKp
namespace Go.Proofs.Ytcfbnlkkoifiiaa
open Go.RowKit

theorem ordL_len {α : Type} (f : α → Int) (l : List α) : (ordL f l).length = l.length := by
  have : ∀ (l m : List α), (l.foldl (insE f) m).length = m.length + l.length := by
    intro l
    induction l with
    | nil => intro m; rfl
    | cons x l ih => intro m; rw [List.foldl_cons, ih, insE_len, List.length_cons]; omega
  rw [ordL, this]; simp
/-- a list of indices as ints -/
def toZ (l : List Nat) : List Int := l.map fun i : Nat => (i : Int)
theorem toZ_len (l : List Nat) : (toZ l).length = l.length := by simp [toZ]
theorem Kp.putRow {α : Type} [Inhabited α] (enc : α → Value) (w : World) (g off q : Nat) (d : Array α) : Kp (fun k => k = g) w ((Sort.putRow enc w g off d).drewN q) :=
  ⟨rfl, rfl, rfl, by show _ ≤ (Sort.putRow enc w g off d).heap.size; simp, fun k _ hs => by
    show (Sort.putRow enc w g off d).heap[k]? = _
    unfold Sort.putRow Sort.mapBlock
    rw [Array.getElem?_modify, if_neg (fun e => hs e.symm)]⟩
theorem ins0_any (A : Option Addr) (cap : Nat) (f : Value) (w : World) :
    Calls Try.prog 41 #[.slice A 0 cap, .int .i64 0, .int .i64 0, f] w fun e w' => e = .returned (.tuple #[]) ∧ w' = w := by
  go_enter Try.func41, Try.ntmps41
  go_wp2_with fail
  go_loopw [8] (fun v wr => v = .int .i64 1 ∧ wr = w) (fun _ _ => 0)
  case atStart => simp
  case round =>
    obtain ⟨rfl, rfl⟩ := hrel
    go_wp2_with fail
    go_end0
    exact ⟨rfl, rfl⟩
theorem stable0_any (A : Option Addr) (cap : Nat) (f : Value) (w : World) :
    Calls Try.prog 35 #[.slice A 0 cap, .int .i64 0, f] w fun e w' => e = .returned (.tuple #[]) ∧ w' = w := by
  go_enter Try.func35, Try.ntmps35
  go_wp2_with fail
  go_loopw [7, 8] (fun v7 v8 wr => v7 = .int .i64 0 ∧ v8 = .int .i64 20 ∧ wr = w) (fun _ _ _ => 0)
  case atStart => simp
  case round =>
    obtain ⟨rfl, rfl, rfl⟩ := hrel
    go_wp2_with fail
    refine (ins0_any A cap f _).mono ?_
    rintro e w2 ⟨rfl, rfl⟩
    go_wp2_with fail
    go_loopw [6] (fun v6 wx => v6 = .int .i64 20 ∧ wx = w2) (fun _ _ => 0)
    case atStart => simp
    case round =>
      obtain ⟨rfl, rfl⟩ := hrel
      go_wp2_with fail
      go_end0
      exact ⟨rfl, rfl⟩
theorem stableN_any (base : Nat) (L : Option Addr) (n c p1 : Nat) (xs : List (Int × Int × Int)) (ok : ShOk xs) (g cap : Nat) (w : World) (hp : p1 ≠ g) (c1 : w.cell? ⟨p1, 0, none⟩ = some (.slice L n c)) (hL : Sl w 3 e3 L n xs) (hLb : 0 < n → ∀ a, L = some a → a.block ≠ g) (ho : Own w base 3 1 e1 (.slice (some ⟨g, 0, none⟩) n cap) (toZ (List.range n))) (hn : n ≤ 12) :
    Calls Try.prog 35 #[.slice (some ⟨g, 0, none⟩) n cap, .int .i64 n, .func (.func 21) #[] #[.pointer (some ⟨p1, 0, none⟩)]] w fun e w' => e = .returned (.tuple #[]) ∧ Sl w' 1 e1 (some ⟨g, 0, none⟩) n (toZ (ordL (onI xs) (List.range n))) ∧ Kp (fun k => k = g) w w' := by
  cases n with
  | zero =>
    refine (stable0_any _ cap _ w).mono ?_
    rintro e w' ⟨rfl, rfl⟩
    exact ⟨rfl, Sl.nil _, Kp.refl _ _⟩
  | succ m =>
    have hdl : (List.finRange (m + 1)).length = m + 1 := by simp
    have hmap : (List.finRange (m + 1)).map (fun i : Fin (m + 1) => i.val) = List.range (m + 1) := List.ext_getElem (by simp) (by simp)
    have hH : Sort.Holds (enF (n := m + 1)) w g 0 (List.finRange (m + 1)).toArray := by
      intro j hj
      have hj' : j < m + 1 := by simpa using hj
      refine ⟨?_, by rw [Nat.zero_add]; exact ho.free j⟩
      have := ho.cell e1_len (i := j) (y := (j : Int)) (j := 0) (u := .int .i64 j) (by simp [toZ, hj']) rfl
      rw [Nat.mul_one, Nat.add_zero] at this
      rw [Nat.zero_add, this]
      simp [enF, hj']
    have hcon := stable_any L m c p1 xs ok g cap (List.finRange (m + 1)) w hp c1 hL (hLb (Nat.succ_pos _)) hH (by rw [hdl]; exact hn)
    rw [hdl] at hcon
    refine hcon.mono ?_
    rintro e w' ⟨rfl, q, rfl⟩
    refine ⟨rfl, ⟨by rw [toZ_len, ordL_len]; simp, fun _ => ⟨g, 0, rfl, by show g < (Sort.putRow _ _ _ _ _).heap.size; simpa using ho.blt.2, ?_⟩⟩, Kp.putRow _ _ _ _ _ _⟩
    intro i x hx j u hu
    have hol : (ordL (fun i : Fin (m + 1) => onI xs i.val) (List.finRange (m + 1))).length = m + 1 := by rw [ordL_len, hdl]
    have he : toZ (ordL (onI xs) (List.range (m + 1))) = (ordL (fun i : Fin (m + 1) => onI xs i.val) (List.finRange (m + 1))).map fun i => ((i.val : Nat) : Int) := by
      rw [← hmap, ← ordL_map (fun i : Fin (m + 1) => i.val) (onI xs)]
      simp [toZ]
    rw [he, List.getElem?_map] at hx
    cases hy : (ordL (fun i : Fin (m + 1) => onI xs i.val) (List.finRange (m + 1)))[i]? with
    | none => rw [hy] at hx; cases hx
    | some y =>
      rw [hy] at hx
      injection hx with hx
      subst hx
      have hi := (List.getElem?_eq_some_iff.1 hy).1
      cases j with
      | succ j => simp [e1] at hu
      | zero =>
        have hu' : u = .int .i64 (y.val : Int) := by simpa [e1] using hu.symm
        have hc := Sort.cell?_putRow (enF (n := m + 1)) w g 0 (List.finRange (m + 1)).toArray (ordL (fun i : Fin (m + 1) => onI xs i.val) (List.finRange (m + 1))).toArray hH (by simp [hol]) i (by simpa using hi)
        rw [hu', show 0 + i * 1 + 0 = 0 + i by omega]
        refine Eq.trans hc ?_
        obtain ⟨h1, h2⟩ := List.getElem?_eq_some_iff.1 hy
        simp [enF, h1, h2]
theorem SortStable_any (base : Nat) (L : Option Addr) (n c p1 : Nat) (xs : List (Int × Int × Int)) (ok : ShOk xs) (g cap : Nat) (w : World) (hp : p1 ≠ g) (c1 : w.cell? ⟨p1, 0, none⟩ = some (.slice L n c)) (hL : Sl w 3 e3 L n xs) (hLb : 0 < n → ∀ a, L = some a → a.block ≠ g) (ho : Own w base 3 1 e1 (.slice (some ⟨g, 0, none⟩) n cap) (toZ (List.range n))) (hn : n ≤ 12) :
    Calls Try.prog 20 #[.slice (some ⟨g, 0, none⟩) n cap, .func (.func 21) #[] #[.pointer (some ⟨p1, 0, none⟩)]] w fun e w' => e = .returned (.tuple #[]) ∧ Sl w' 1 e1 (some ⟨g, 0, none⟩) n (toZ (ordL (onI xs) (List.range n))) ∧ Kp (fun k => k = g) w w' := by
  have HC := Lib.hid (stableN_any base L n c p1 xs ok g cap w hp c1 hL hLb ho hn)
  clear c1 hL ho
  go_enter Try.func20, Try.ntmps20
  go_wp2_with fail
  refine HC.out.mono ?_
  rintro e w2 ⟨rfl, h1, h2⟩
  go_wp2_with fail
  go_end0
  exact ⟨rfl, h1, h2⟩

end Go.Proofs.Ytcfbnlkkoifiiaa
