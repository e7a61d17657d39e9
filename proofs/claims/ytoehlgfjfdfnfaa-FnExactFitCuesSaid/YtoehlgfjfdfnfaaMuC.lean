/-
  Contracts of the functions on pieces: the place of a beat.
-/
import Derived.Test.YtoehlgfjfdfnfaaMuB
import Derived.Deep.QuietTactic
import Derived.BigQuiet
namespace Go.Proofs.Ytoehlgfjfdfnfaa
open Go.RowKit

def poCode (xs : List (Int × Int × Int)) (b : Int) : Int := bcCode xs b
def poVal (xs : List (Int × Int × Int)) (b : Int) : Int × Int × Int := if bcCode xs b = 0 then plF xs b else (0, 0, 0)
theorem bcCode_zero {xs : List (Int × Int × Int)} {b : Int} (h : bcCode xs b = 0) : ptOk xs = true ∧ inB b 0 (btI xs - 1) = true := by
  unfold bcCode at h
  cases h1 : ptOk xs <;> cases h2 : inB b 0 (btI xs - 1) <;> simp_all
theorem ret4 {k l m o : IntKind} {a b c d u v x y : Int} (h : a = b) (h' : c = d) (h'' : u = v) (h3 : x = y) : Ending.returned (.tuple #[.int k a, .int l c, .int m u, .int o x]) = .returned (.tuple #[.int k b, .int l d, .int m v, .int o y]) := by rw [h, h', h'', h3]
theorem results_tmp4 {fn : Func} {t u v x : Tmp} (h : fn.results = #[.tmp t, .tmp u, .tmp v, .tmp x]) (tmps : Array Value) (P : Program) (w : World) :
    (results fn tmps).run P w = .ok (.tuple #[tmps.getD t undef, tmps.getD u undef, tmps.getD v undef, tmps.getD x undef]) w := by
  simp [results, h]
theorem tdivM {a b : Int} (ha : 0 ≤ a) (_hb : 0 < b) : Int.tmod a b = a % b := Int.tmod_eq_emod_of_nonneg ha
theorem tdiv64' {a b : Int} (ha : 0 ≤ a) (hb : 0 < b) (h : a ≤ 9223372036854775807) : IntKind.i64.wrap (Int.tdiv a b) = a / b := by
  rw [Int.tdiv_eq_ediv_of_nonneg ha]
  have h0 : 0 ≤ a / b := Int.ediv_nonneg ha (by omega)
  have h1 : a / b ≤ a := Int.ediv_le_self _ ha
  exact wr64 (by omega)

theorem l19Code_any (A : Option Addr) (n c : Nat) (xs : List (Int × Int × Int)) (b : Int) (w : World) (h : Sl w 3 e3 A n xs) (hn : n ≤ 1048577) :
    Calls Try.prog 37 #[.slice A n c, .int .i64 b] w fun e w' => e = .returned (.int .i64 (bcCode xs b)) ∧ Below w.heap.size w w' := by
  cases hok : ptOk xs
  · go_enter Try.func37, Try.ntmps37
    go_wp2_with fail
    refine (l19Ok_any A n c xs _ h hn).mono ?_
    rintro e w2 ⟨rfl, rfl⟩
    go_wp2_with fail
    go_ret
    exact ⟨ret_int (by simp [bcCode, hok]), Below.refl _ _⟩
  · have ok := ptOk_iff.1 hok
    have hbt := ok.b.bt_bd
    cases hin : inB b 0 (btI xs - 1)
    all_goals
      go_enter Try.func37, Try.ntmps37
      go_wp2_with fail
      refine (l19Ok_any A n c xs _ h hn).mono ?_
      rintro e w2 ⟨rfl, rfl⟩
      go_wp2_with fail
      refine (l19Beats_any A n c xs _ h ok.b).mono ?_
      rintro e w3 ⟨rfl, hb3⟩
      go_wp2_with fail
      refine (l00In_any _ _ _ _).mono ?_
      rintro e w4 ⟨rfl, rfl⟩
      go_wp2_with fail
      go_ret
      exact ⟨ret_int (by simp [bcCode, hok, hin]), hb3⟩

end Go.Proofs.Ytoehlgfjfdfnfaa
