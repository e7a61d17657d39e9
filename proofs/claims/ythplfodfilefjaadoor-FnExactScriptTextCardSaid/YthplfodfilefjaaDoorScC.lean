/-
  Scripts: equality of two; the functions that compare them.
-/
import Derived.Test.YthplfodfilefjaaDoorScB
import Derived.Laws.StructEq
namespace Go.Proofs.YthplfodfilefjaaDoor
set_option maxRecDepth 100000
open Go.RowKit

theorem eqScript_any (A : Option Addr) (n c : Nat) (ss : List ByteArray) (B : Option Addr) (m d : Nat) (xs : List (Int × ByteArray × ByteArray × Int)) (A' : Option Addr) (n' c' : Nat) (ts : List ByteArray) (B' : Option Addr) (m' d' : Nat) (ys : List (Int × ByteArray × ByteArray × Int)) (w : World) (h : Sl w 1 eS A n ss) (h2 : Sl w 4 eAct B m xs) (k : Sl w 1 eS A' n' ts) (k2 : Sl w 4 eAct B' m' ys) (hn : n ≤ 1048577) (hm : m ≤ 1048577) (hn' : n' ≤ 1048577) (hm' : m' ≤ 1048577) :
    Calls Tryd.prog 10 #[.agg #[.slice A n c, .slice B m d], .agg #[.slice A' n' c', .slice B' m' d']] w fun e w' => e = .returned (.bool (decide (ss = ts ∧ xs = ys))) ∧ Below w.heap.size w w' := by
  go_enter Tryd.func10, Tryd.ntmps10
  go_wp2_with fail
  have hW : Below w.heap.size w ((w.alloc (.cells #[.slice A n c, .slice B m d] 30)).alloc (.cells #[.slice A' n' c', .slice B' m' d'] 30)) := (below_alloc w _).alloc (by simp) _
  have a0 : ((w.alloc (.cells #[.slice A n c, .slice B m d] 30)).alloc (.cells #[.slice A' n' c', .slice B' m' d'] 30)).cell? ⟨w.heap.size, 0, none⟩ = some (.slice A n c) := by simp [go_sem]
  have a1 : ((w.alloc (.cells #[.slice A n c, .slice B m d] 30)).alloc (.cells #[.slice A' n' c', .slice B' m' d'] 30)).cell? ⟨w.heap.size, 1, none⟩ = some (.slice B m d) := by simp [go_sem]
  have b0 : ((w.alloc (.cells #[.slice A n c, .slice B m d] 30)).alloc (.cells #[.slice A' n' c', .slice B' m' d'] 30)).cell? ⟨w.heap.size + 1, 0, none⟩ = some (.slice A' n' c') := by simp [go_sem]
  have b1 : ((w.alloc (.cells #[.slice A n c, .slice B m d] 30)).alloc (.cells #[.slice A' n' c', .slice B' m' d'] 30)).cell? ⟨w.heap.size + 1, 1, none⟩ = some (.slice B' m' d') := by simp [go_sem]
  generalize ((w.alloc (.cells #[.slice A n c, .slice B m d] 30)).alloc (.cells #[.slice A' n' c', .slice B' m' d'] 30)) = W2 at hW a0 a1 b0 b1 ⊢
  refine (eqStringS_any A n c ss A' n' c' ts _ (h.below hW) hn (k.below hW) hn').mono ?_
  rintro e w4 ⟨rfl, hb4⟩
  have hW4 := below_step hW hb4
  have a10 := (hb4.cell (World.block_lt_of_cell? _ _ a1)).trans a1
  have b10 := (hb4.cell (World.block_lt_of_cell? _ _ b1)).trans b1
  clear a0 b0 a1 b1
  by_cases q1 : ss = ts
  · have HD : Hid (decide (ss = ts) = true) := by rw [Hid]; exact decide_eq_true q1
    have HE : Hid (decide (ss = ts ∧ xs = ys) = decide (xs = ys)) := by rw [Hid]; simp [q1]
    rw [HD.out]
    clear q1
    go_wp2_with fail
    refine (eqActS_any B m d xs B' m' d' ys _ (h2.below hW4) hm (k2.below hW4) hm').mono ?_
    rintro e w5 ⟨rfl, hb5⟩
    have hW5 := below_step hW4 hb5
    rw [Hid] at HE
    generalize decide (xs = ys) = q at HE ⊢
    have HE := Lib.hid HE
    cases q
    all_goals go_wp2_with fail
    all_goals go_ret
    all_goals exact ⟨ret_bool HE.out.symm, hW5⟩
  · have HD : Hid (decide (ss = ts) = false) := by rw [Hid]; exact decide_eq_false q1
    have HE : Hid (decide (ss = ts ∧ xs = ys) = false) := by rw [Hid]; simp [q1]
    rw [HD.out]
    clear q1
    go_wp2_with fail
    go_ret
    exact ⟨ret_bool HE.out.symm, hW4⟩

theorem str_inj (x y : ByteArray) : x.toList = y.toList ↔ x = y := by
  have := str_eq x y
  rw [Bool.eq_iff_iff, beq_iff_eq, decide_eq_true_iff] at this
  exact this
theorem neqAct (x y : (Int × ByteArray × ByteArray × Int)) (w : World) : (binOp .neq 56 (.agg #[.int .i64 x.1, .string x.2.1, .string x.2.2.1, .int .i64 x.2.2.2]) (.agg #[.int .i64 y.1, .string y.2.1, .string y.2.2.1, .int .i64 y.2.2.2])).run Tryd.prog w = .ok (.bool (!decide (x = y))) w := by
  have hS : Tryd.prog.underlying 56 = some (.struct (Tryd.prog.fieldsOf 56)) := by kernel_rfl
  have hp : Tryd.prog.stoodInHeld 56 = false := by kernel_rfl
  have u3 := Tryd.underlying2
  have u9 := Tryd.underlying9
  rw [run_neq_struct, show (10000 : Nat) = 9999 + 1 from rfl, run_equalIn_agg w 9999 56 _ _ hS hp]
  simp only [Program.fieldsOf, Tryd.underlying56]
  go_simp
  by_cases h0 : x.1 = y.1 <;> by_cases h1 : x.2.1 = y.2.1 <;> by_cases h2 : x.2.2.1 = y.2.2.1 <;> by_cases h3 : x.2.2.2 = y.2.2.2 <;> simp [h0, h1, h2, h3, str_inj, Prod.ext_iff]

end Go.Proofs.YthplfodfilefjaaDoor
