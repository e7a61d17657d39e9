/-
  Contracts of the exported functions on cues.
-/
import Derived.Test.YtnikpadclmjglaaCuB
namespace Go.Proofs.Ytnikpadclmjglaa
set_option maxRecDepth 100000
open Go.RowKit

def cueCode (xs : List (Int × Int × Int × Int)) : Int := if cueOk xs then 0 else 1
def endVal (xs : List (Int × Int × Int × Int)) : Int := if cueOk xs then cend xs else 0
def mostVal (xs : List (Int × Int × Int × Int)) : Int := if cueOk xs then most xs else 0
def idleVal (xs : List (Int × Int × Int × Int)) : Int := if cueOk xs then idleK xs (cend xs).toNat else 0
def handsAtCode (xs : List (Int × Int × Int × Int)) (t : Int) : Int := if cueOk xs then (if inB t 0 20000 then 0 else 2) else 1
def handsAtVal (xs : List (Int × Int × Int × Int)) (t : Int) : Int := if handsAtCode xs t = 0 then hands xs t else 0
def hCode (xs : List (Int × Int × Int × Int)) (m : Int) : Int := if cueOk xs then (if inB m 0 24 then 0 else 2) else 1
def overCode (xs : List (Int × Int × Int × Int)) (m : Int) : Int := if hCode xs m = 0 then (if ovK xs m xs.length < 0 then 3 else 0) else hCode xs m
def overVal (xs : List (Int × Int × Int × Int)) (m : Int) : Int := if overCode xs m = 0 then ovK xs m xs.length else 0
theorem hCode_cases (xs : List (Int × Int × Int × Int)) (m : Int) : (hCode xs m = 1 ∧ cueOk xs = false) ∨ (hCode xs m = 2 ∧ cueOk xs = true ∧ inB m 0 24 = false) ∨ (hCode xs m = 0 ∧ cueOk xs = true ∧ inB m 0 24 = true) := by
  unfold hCode
  cases cueOk xs <;> cases inB m 0 24 <;> simp
theorem ovK_step {xs : List (Int × Int × Int × Int)} (m : Int) {k : Nat} {x : Int × Int × Int × Int} (h : xs[k]? = some x) : ovK xs m (k + 1) = overF xs m (ovK xs m k) x := foldl_step _ _ h

theorem l17Code_any (A : Option Addr) (n c : Nat) (xs : List (Int × Int × Int × Int)) (m : Int) (w : World) (h : Sl w 4 e4 A n xs) (hn : n ≤ 1048577) :
    Calls Try.prog 35 #[.slice A n c, .int .i64 m] w fun e w' => e = .returned (.int .i64 (hCode xs m)) ∧ Below w.heap.size w w' := by
  cases hok : cueOk xs <;> cases hin : inB m 0 24
  all_goals
    go_enter Try.func35, Try.ntmps35
    go_wp2_with fail
    refine (l17Ok_any A n c xs _ h hn).mono ?_
    rintro e w2 ⟨rfl, hb⟩
    go_wp2_with (go_at_call 54; refine (l00In_any _ _ _ _).mono ?_; rintro e w' ⟨rfl, rfl⟩)
    go_ret
    exact ⟨ret_int (by simp [hCode, hok, hin]), hb⟩

theorem cuesCode_any (A : Option Addr) (n c : Nat) (xs : List (Int × Int × Int × Int)) (m : Int) (w : World) (h : Sl w 4 e4 A n xs) (hn : n ≤ 1048577) :
    Calls Try.prog 36 #[.slice A n c, .int .i64 m] w fun e w' => e = .returned (.int .i64 (hCode xs m)) ∧ Below w.heap.size w w' := by
  cases hok : cueOk xs <;> cases hin : inB m 0 24
  all_goals
    go_enter Try.func36, Try.ntmps36
    go_wp2_with fail
    refine (implValidCues_any A n c xs _ h hn).mono ?_
    rintro e w2 ⟨rfl, hb⟩
    go_wp2_with (go_at_call 58; refine (within_any _ _ _ _).mono ?_; rintro e w' ⟨rfl, rfl⟩)
    go_ret
    exact ⟨ret_int (by simp [hCode, hok, hin]), hb⟩

end Go.Proofs.Ytnikpadclmjglaa
