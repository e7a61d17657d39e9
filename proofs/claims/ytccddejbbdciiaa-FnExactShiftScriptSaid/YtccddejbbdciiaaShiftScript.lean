/-
  The law FnExactShiftScript returns true for every input, and every argument reads afterwards as it read before. No condition.
-/
import Derived.Test.YtccddejbbdciiaaRows
import Derived.Test.YtccddejbbdciiaaWords
import Derived.Test.YtccddejbbdciiaaLawF
import Derived.Test.YtccddejbbdciiaaOpen
import Derived.OpenShut
import Derived.Lib.SmallJoins
namespace Go.Proofs.Ytccddejbbdciiaa.shiftScriptLaw
open Go.ChangeShapes Go.WideShapes Go.ChangeAt Go.RowKit Go.Joins
open Go.ChangeMaps (open_string)
set_option linter.unusedVariables false

theorem own : ownKnob Try.prog.godebug = none := by kernel_rfl
theorem laidOut : laidOutB Try.prog = true := by kernel_rfl
theorem readable25 : Try.prog.readableRec 25 = true ∧ 25 < Try.prog.types.size := ⟨by kernel_rfl, of_decide_eq_true (by kernel_rfl)⟩
theorem readable2 : Try.prog.readableRec 2 = true ∧ 2 < Try.prog.types.size := ⟨by kernel_rfl, of_decide_eq_true (by kernel_rfl)⟩

set_option maxRecDepth 100000 in
theorem lifted (os : Os) (started : os.Started) (H : Type) (enc : TypeId × Value → H) :
    ReturnsInHanded {} Try.checked os 5 .any (Rows.fnExactShiftScriptSpec.pre6 enc Try.prog Try.f5 Rows.fnExactShiftScriptRow.domain false) (Rows.fnExactShiftScriptSpec.post enc Try.prog Try.f5 false true false false) := by
  refine returnsInHanded_of_change (C := Try.checked) own started (by kernel_rfl) Try.func5
    (ChangeSpec.witness6 (enc := enc) (C := Try.checked) false ⟨#[], #[.agg #[.slice none 0 0, .slice none 0 0], .int .i64 0], []⟩ 8 (by kernel_rfl) (by kernel_rfl) (by kernel_rfl) (by kernel_rfl)) ?_
  intro W base args ds gs before hval0 hW hcnd _
  have hval : ∀ (j : Nat) t v, Try.f5.params[j]? = some t → args[j]? = some v → Value.okWide Try.prog W .any base t v := hval0
  have hW' := hW
  obtain ⟨p, q, hA0, hV, rfl, hfz, hnd⟩ := hW
  have hA : DataW.TrodAll enc Try.prog W 0 (fun _ => true) true Try.f5.params.toList args.toList ds p := hA0
  rw [Try.params5] at hA hval
  obtain ⟨v0, vs0, d0, ds0, p0, q0, hargs, rfl, rfl, h0, r0⟩ := trodAll_cons hA
  obtain ⟨v1, vs1, d1, ds1, p1, q1, rfl, rfl, rfl, h1, r1⟩ := trodAll_cons r0
  obtain ⟨rfl, rfl, rfl⟩ := trodAll_nil r1
  obtain rfl : args = #[v0, v1] := by cases args; simp_all
  obtain ⟨rfl, rfl⟩ := trodVars_none hV
  obtain ⟨q0_0, q1_0, y0_0, y1_0, f_0, rfl, _, _, t0_0, t1_0⟩ := open_agg2 Try.underlying25 (by kernel_rfl) (by kernel_rfl) (hval 0 25 v0 rfl rfl) h0
  obtain ⟨A0, n0, c0, s0, rfl, N0, _, S0, Z0⟩ := open_strsT Try.underlying22 Try.underlying9 (by kernel_rfl) t0_0
  obtain ⟨B0, m0, d0, x0, rfl, M0, _, T0, X0⟩ := open_actsT Try.underlying23 Try.underlying59 (by kernel_rfl) (by kernel_rfl) Try.underlying2 Try.underlying9 Try.underlying9 Try.underlying2 t1_0
  obtain ⟨a1, rfl, rfl, rfl, w1⟩ := open_int Try.underlying2 (hval 1 2 v1 rfl rfl) h1
  have b1 := i64_of w1
  refine (shiftScript_walk A0 n0 c0 s0 B0 m0 d0 x0 a1 W N0 M0 S0 T0 Z0 X0 b1).mono fun e W' ⟨he, hb⟩ => ?_
  subst he
  exact ⟨_, rfl, law_post laidOut (by intro t ht; rw [Try.params5] at ht; simp at ht; rcases ht with rfl | rfl <;> first | exact readable2 | exact readable25) (by kernel_rfl) Try.underlying4 rfl rfl hW' hb⟩

theorem proved : Rows.FnExactShiftScriptSaid :=
  OpenClaim.holds_of_wide 5 Try.f5 rfl rfl rfl rfl rfl rfl rfl ⟨rfl, rfl, rfl, rfl, rfl⟩ rfl rfl rfl rfl rfl (by kernel_rfl) Try.func5 (by kernel_rfl)
    (of_decide_eq_true (by kernel_rfl)) (by unfold Func.isWrapper; first | (rw [if_pos (by decide +kernel)]; kernel_rfl) | (rw [if_neg (by decide +kernel)]; exact ⟨rfl, rfl⟩))
    (fun os started H enc _ => lifted os started H enc)
end Go.Proofs.Ytccddejbbdciiaa.shiftScriptLaw
