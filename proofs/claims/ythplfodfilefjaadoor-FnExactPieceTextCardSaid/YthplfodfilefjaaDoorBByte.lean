/-
  Slices of bytes.
-/
import Derived.Test.YthplfodfilefjaaDoorBInt
namespace Go.Proofs.YthplfodfilefjaaDoor
set_option maxRecDepth 100000
open Go.RowKit

def eB (c : UInt8) : List Value := [.int .u8 (c.toNat : Int)]
theorem eB_len (c : UInt8) : (eB c).length = 1 := rfl
theorem eB_one : ∀ x, ∀ u ∈ eB x, u.oneCell' = true := by intro x u hu; simp [eB] at hu; subst hu; rfl
theorem infoU8 : (Tryd.prog.info? 5).map (fun i => (i.zero, i.size, i.bytes)) = some (some (.int .u8 0), 1, 1) := by kernel_rfl
theorem setB (ys : List UInt8) (i : Nat) (a : UInt8) : (ys.flatMap eB).set i (.int .u8 (a.toNat : Int)) = (ys.set i a).flatMap eB := by
  induction ys generalizing i with
  | nil => simp
  | cons y ys ih =>
    cases i with
    | zero => simp [List.flatMap_cons, eB]
    | succ i => simp only [List.flatMap_cons, eB, List.set_cons_succ, List.cons_append, List.nil_append]; rw [ih]
theorem Own.setB {w : World} {base : Nat} {e : TypeId} {g n cap : Nat} {ys : List UInt8} (h : Own w base e 1 eB (.slice (some ⟨g, 0, none⟩) n cap) ys) (i : Nat) (x : UInt8) :
    Own (w.setCell ⟨g, i, none⟩ (.int .u8 (x.toNat : Int))) base e 1 eB (.slice (some ⟨g, 0, none⟩) n cap) (ys.set i x) := by
  obtain ⟨A, c, hv, _⟩ := h.val
  injection hv with _ hn _
  subst hn
  have h1 := (World.ownsRow.stored h i (.int .u8 (x.toNat : Int))).1
  exact Own.of_row h1 (by simp) (Proofs.YthplfodfilefjaaDoor.setB ys i x)
theorem Own.cellB {w : World} {base : Nat} {e : TypeId} {g n cap : Nat} {ys : List UInt8} (h : Own w base e 1 eB (.slice (some ⟨g, 0, none⟩) n cap) ys) {i : Nat} {y : UInt8} (hy : ys[i]? = some y) : w.cell? ⟨g, i, none⟩ = some (.int .u8 (y.toNat : Int)) := by
  simpa using h.cell eB_len hy (j := 0) rfl
theorem Sl.atB {w : World} {A : Option Addr} {n i : Nat} {xs : List UInt8} (h : Sl w 1 eB A n xs) (hi : i < n) : ∃ b off x, A = some ⟨b, off, none⟩ ∧ xs[i]? = some x ∧ x ∈ xs ∧ w.cell? ⟨b, off + i, none⟩ = some (.int .u8 (x.toNat : Int)) := by
  obtain ⟨b, off, x, hA, hx, hm, hc⟩ := h.at_ hi
  exact ⟨b, off, x, hA, hx, hm, by simpa using hc 0 _ rfl⟩
end Go.Proofs.YthplfodfilefjaaDoor
