/-
  The order of slides, as the program sorts it.
-/
import Derived.Test.YtcfbnlkkoifiiaaAs
import Derived.Test.YtcfbnlkkoifiiaaShA
import Derived.Test.YtcfbnlkkoifiiaaBInt
import Derived.Shelf.SlSortCmp.Insertion
import Derived.Ground.SlsfProg
import Derived.Test.YtcfbnlkkoifiiaaLaIns
namespace Go.Proofs.Ytcfbnlkkoifiiaa
open Go.RowKit

/-- when a slide goes on -/
def onI (xs : List (Int × Int × Int)) (i : Nat) : Int := (xs.getD i (0, 0, 0)).1
theorem onI_get {xs : List (Int × Int × Int)} {i : Nat} {x : Int × Int × Int} (h : xs[i]? = some x) : onI xs i = x.1 := by simp [onI, List.getD, h]
theorem AssignLanterns1_any (L : Option Addr) (n c p1 : Nat) (xs : List (Int × Int × Int)) (ok : ShOk xs) (a b : Nat) (ha : a < n) (hb : b < n) (w : World) (c1 : w.cell? ⟨p1, 0, none⟩ = some (.slice L n c)) (hL : Sl w 3 e3 L n xs) :
    Calls Try.prog 21 #[.int .i64 a, .int .i64 b, .pointer (some ⟨p1, 0, none⟩)] w fun e w' => e = .returned (.int .i64 (onI xs a - onI xs b)) ∧ ∃ q, w' = w.drewN q := by
  obtain ⟨bl, off, x, rfl, hx, hmx, d0, _, _⟩ := hL.at3 ha
  obtain ⟨bl', off', y, hbl, hy, hmy, e0, _, _⟩ := hL.at3 hb
  injection hbl with hbl
  injection hbl with h1 h2
  subst h1 h2
  have hx1 := ok.one x hmx
  have hy1 := ok.one y hmy
  have HX : Hid (onI xs a = x.1) := onI_get hx
  have HY : Hid (onI xs b = y.1) := onI_get hy
  have r1 : IntKind.i64.wrap (x.1 - y.1) = x.1 - y.1 := wr64 (by omega)
  have g1 : (0 : Int) ≤ (a : Int) := by omega
  have g2 : (a : Int) < (n : Int) := by omega
  have g3 : (0 : Int) ≤ (b : Int) := by omega
  have g4 : (b : Int) < (n : Int) := by omega
  clear hx hy
  go_enter Try.func21, Try.ntmps21
  go_wp2_with fail
  go_quiet (fail)
  go_wp2_with fail
  go_ret
  exact ⟨ret_int (by rw [HX.out, HY.out]), nq, rfl⟩

end Go.Proofs.Ytcfbnlkkoifiiaa
