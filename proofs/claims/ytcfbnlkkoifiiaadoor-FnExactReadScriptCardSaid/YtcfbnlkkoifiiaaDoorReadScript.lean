/-
  The law FnExactReadScript returns true for every input, and every argument reads afterwards as it read before. No condition.
-/
import Derived.Test.YtcfbnlkkoifiiaaDoorRows
import Derived.Test.YtcfbnlkkoifiiaaDoorWords
import Derived.Test.YtcfbnlkkoifiiaaDoorDoor
import Derived.Test.YtcfbnlkkoifiiaaDoorTie
import Derived.Test.YtcfbnlkkoifiiaaDoorCards
import Derived.SevenTiedAt
import Derived.Deep.DeepHandedRow
import Derived.Lay
import Derived.Stop.LaidErr
import Derived.Test.YtcfbnlkkoifiiaaDoorLawRd
import Derived.OpenShut
import Derived.Lib.SmallJoins
namespace Go.Proofs.YtcfbnlkkoifiiaaDoor.readScriptLaw
open Go.ChangeShapes Go.WideShapes Go.ChangeAt Go.RowKit Go.Joins
open Go.ChangeMaps (open_string)
set_option linter.unusedVariables false

theorem own : ownKnob Tryd.prog.godebug = none := by kernel_rfl
theorem laidOut : laidOutB Tryd.prog = true := by kernel_rfl
theorem readable9 : Tryd.prog.readableRec 9 = true ∧ 9 < Tryd.prog.types.size := ⟨by kernel_rfl, of_decide_eq_true (by kernel_rfl)⟩

theorem star : "*" ++ "errors.errorString" = "*errors.errorString" := by decide
theorem rowE (u : TypeId) (h : Tryd.prog.typeName? 3 u = some "*errors.errorString") : u = 107 :=
  typeName_ptr_named (nm := "errors.errorString") (by rw [star]; kernel_rfl) (by kernel_rfl) (by decide) u (by rw [star]; exact h)
theorem door_met (os : Os) (args : Array Value) : laidMetH Tryd.prog Rows.fnExactReadScriptRow.laid ((World.laidAll Tryd.prog os Rows.fnExactReadScriptRow.laid).forCall (fun _ _ => 0) ⟨#[], args, []⟩).memory := by
  rw [MakeChecks.laidMetH_plain _ _ _ (by kernel_rfl)]
  exact laidMet_laidAll _ (by kernel_rfl) (by kernel_rfl)
set_option maxRecDepth 100000 in
theorem lifted (os : Os) (started : os.Started) (H : Type) (enc : TypeId × Value → H) :
    ReturnsInHanded {} Tryd.checked os 3 .any (fun w args => (Rows.fnExactReadScriptSpec.pre enc Tryd.prog Tryd.f3 Rows.fnExactReadScriptRow.domain false w args ∧ laidMetH Tryd.prog Rows.fnExactReadScriptRow.laid w) ∧ sizedMet enc Tryd.prog Tryd.f3 (OpenSpec.ofChange Rows.fnExactReadScriptSpec) false w args) (Rows.fnExactReadScriptSpec.post enc Tryd.prog Tryd.f3 false true false false) := by
  refine returnsInHanded_of_row (C := Tryd.checked) (s := OpenSpec.ofChange Rows.fnExactReadScriptSpec) (F := fun _ _ _ => 0) (laid := Rows.fnExactReadScriptRow.laid) own started (by kernel_rfl) Tryd.func3
    (ChangeSpec.witness_shaped (enc := enc) (C := Tryd.checked) (os := os) (s := Rows.fnExactReadScriptSpec) (X := fun w _ => laidMetH Tryd.prog Rows.fnExactReadScriptRow.laid w) false (World.laidAll Tryd.prog os Rows.fnExactReadScriptRow.laid) #[.string .empty] 8 (World.laidAll_os _ _ _) (World.shaped_of_ZipB (by kernel_rfl) (by kernel_rfl)) (by kernel_rfl) (by kernel_rfl) (by kernel_rfl) (door_met os _)) ?_
  intro W base args ds gs before hval0 hW hcnd _ _ hL0 hsh _
  have hL : laidMet Tryd.prog Rows.fnExactReadScriptRow.laid W := by rw [MakeChecks.laidMetH_plain _ _ _ (by kernel_rfl)] at hL0; exact hL0
  have hT : Tab W := tab_of (T := 111) (E := 83) (by kernel_rfl) (by kernel_rfl) Tryd.underlying111 Tryd.underlying83 (by kernel_rfl) (by kernel_rfl) hL.tail.tail
  obtain ⟨eS, _, hvS, _⟩ := laid_sentinel hL.tail.tail.tail.tail.tail (by kernel_rfl) (show (Tryd.prog.globals[3]?).map (·.type) = some 67 by kernel_rfl) Tryd.underlying67 rowE Tryd.underlying107 Tryd.underlying109 rfl rfl Tryd.underlying9 (by kernel_rfl) (by kernel_rfl)
  have hcS : W.cell? ⟨3, 0, none⟩ = some (.iface 107 (.pointer (some eS))) := by simpa using World.var?_cell (show Tryd.prog.globalNamed "strconv.ErrSyntax" = some 3 by kernel_rfl) hvS 0
  obtain ⟨eR, _, hvR, _⟩ := laid_sentinel hL.tail.tail.tail.tail (by kernel_rfl) (show (Tryd.prog.globals[4]?).map (·.type) = some 67 by kernel_rfl) Tryd.underlying67 rowE Tryd.underlying107 Tryd.underlying109 rfl rfl Tryd.underlying9 (by kernel_rfl) (by kernel_rfl)
  have hcR : W.cell? ⟨4, 0, none⟩ = some (.iface 107 (.pointer (some eR))) := by simpa using World.var?_cell (show Tryd.prog.globalNamed "strconv.ErrRange" = some 4 by kernel_rfl) hvR 0
  have hM : Mx W := Tryd.laysM146.s1_3 W hsh
  have hS : Sent W := ⟨⟨_, hcS, .inr ⟨_, _, rfl⟩⟩, ⟨_, hcR, .inr ⟨_, _, rfl⟩⟩⟩
  clear hvS hvR hcS hcR
  clear hL0 hL hsh
  have hval : ∀ (j : Nat) t v, Tryd.f3.params[j]? = some t → args[j]? = some v → Value.okWide Tryd.prog W .any base t v := hval0
  have hW' := hW
  obtain ⟨p, q, hA0, hV, rfl, hfz, hnd⟩ := hW
  have hA : DataW.TrodAll enc Tryd.prog W 0 (fun _ => true) true Tryd.f3.params.toList args.toList ds p := hA0
  rw [Tryd.params3] at hA hval
  obtain ⟨v0, vs0, d0, ds0, p0, q0, hargs, rfl, rfl, h0, r0⟩ := trodAll_cons hA
  obtain ⟨rfl, rfl, rfl⟩ := trodAll_nil r0
  obtain rfl : args = #[v0] := by cases args; simp_all
  obtain ⟨rfl, rfl⟩ := trodVars_none hV
  obtain ⟨s0, rfl, rfl, rfl, w0⟩ := open_string Tryd.underlying9 (hval 0 9 v0 rfl rfl) h0
  refine (readScript_walk s0 W w0 hT hM hS).mono fun e W' ⟨he, hb⟩ => ?_
  subst he
  exact ⟨_, rfl, law_postV laidOut (by intro t ht; rw [Tryd.params3] at ht; simp at ht; subst ht; first | exact readable9) (by kernel_rfl) Tryd.underlying4 (by kernel_rfl) rfl hW' hb⟩

theorem said : Rows.FnExactReadScriptSaid :=
  OpenClaim.holds_of_wide 3 Tryd.f3 rfl rfl rfl rfl rfl rfl rfl ⟨rfl, rfl, rfl, rfl, rfl⟩ rfl rfl rfl rfl rfl (by kernel_rfl) Tryd.func3 (by kernel_rfl)
    (of_decide_eq_true (by kernel_rfl)) (by unfold Func.isWrapper; first | (rw [if_pos (by decide +kernel)]; kernel_rfl) | (rw [if_neg (by decide +kernel)]; exact ⟨rfl, rfl⟩))
    (fun os started H enc _ => lifted os started H enc)

theorem proved : Rows.FnExactReadScriptCardSaid :=
  Claim7.holds_tied_plain_at .later [] [.data, .data, .data, .data, .sentinel, .sentinel, .pinned] true (true, "9d824bf74fc39ae3cc63077c07cf3e461475551d1f0680fe42f353d68a69b4e1") true
    said (fun _ h => by cases h) (by kernel_rfl) (fun _ h => by cases h) fnExactReadScript_row_tie rfl ⟨rfl, rfl⟩ (by kernel_rfl) rfl
    (fun f fn hf hfn => by
      obtain rfl : f = 3 := Option.some.inj ((show Tryd.prog.funcNamed "loop.example/g01063/laws.FnExactReadScript" = some 3 by kernel_rfl).symm.trans hf) |>.symm
      obtain rfl : fn = Tryd.f3 := (Option.some.inj (Tryd.func3.symm.trans hfn)).symm
      exact ⟨by kernel_rfl, fun j t ht => by
        rw [Tryd.params3] at ht
        have hm : t ∈ [9] := by simpa using Array.mem_of_getElem? ht
        have hall : ([9].all fun u => !Tryd.prog.wantsStandIn u) = true := by kernel_rfl
        exact (show Tryd.prog.wantsStandIn t = false by simpa using List.all_eq_true.1 hall t hm)⟩)
    (by kernel_rfl)
end Go.Proofs.YtcfbnlkkoifiiaaDoor.readScriptLaw

