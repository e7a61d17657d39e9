/-
  Scripts: an act that is added: both sides, any word.
-/
import Derived.Test.YthplfodfilefjaaDoorAdB
import Derived.Test.YthplfodfilefjaaDoorAdC
import Derived.Test.YthplfodfilefjaaDoorAdD
import Derived.Test.YthplfodfilefjaaDoorAdE
import Derived.Test.YthplfodfilefjaaDoorAdF
import Derived.Test.YthplfodfilefjaaDoorAdG
import Derived.Test.YthplfodfilefjaaDoorBInt
import Derived.Deep.RegionLaw
namespace Go.Proofs.YthplfodfilefjaaDoor
set_option maxRecDepth 100000
open Go.RowKit Go.Deep Go.Joins


set_option maxRecDepth 100000 in
theorem addAct_any (base sb : Nat) (ss : List ByteArray) (xs : List AX) (a : AX) (w : World) (H : BX w base sb ss xs) (hl : ss.length ≤ 60) (hl2 : xs.length ≤ 60) :
    Calls Tryd.prog 43 #[.pointer (some ⟨sb, 0, none⟩), .agg #[.int .i64 a.1, .string a.2.1, .string a.2.2.1, .int .i64 a.2.2.2]] w fun e w' => e = .returned (.int .i64 (acCode ss xs a)) ∧ BX w' base sb ss (acNext ss xs a) ∧ Below base w w' := by
  cases qw : wdB a
  · have HC : Hid (acCode ss xs a = 1) := by rw [Hid, acCode, if_pos qw]
    have HN : Hid (acNext ss xs a = xs) := by rw [Hid, acNext, if_neg (by rw [HC.out]; decide)]
    obtain ⟨w1, w2, w3⟩ := wd_no qw
    have HX := H
    obtain ⟨A, c, B, d, H⟩ := H
    have HB := H.below (below_alloc w (.cells #[.int .i64 a.1, .string a.2.1, .string a.2.2.1, .int .i64 a.2.2.2] 56))
    have e1 : (w.alloc (.cells #[.int .i64 a.1, .string a.2.1, .string a.2.2.1, .int .i64 a.2.2.2] 56)).cell? ⟨w.heap.size, 1, none⟩ = some (.string a.2.1) := by simp [go_sem]
    have c1a := HB.c1
    have hbl := H.base_le
    rw [HN.out]
    go_enter Tryd.func43, Tryd.ntmps43
    go_wp2_with fail
    go_ret
    exact ⟨ret_int HC.out.symm, HX.below (below_alloc _ _), below_al hbl _⟩
  · rcases wd_cases qw with ⟨w1, w2, w3⟩ | ⟨w1, w2, w3⟩ | ⟨w1, w2, w3⟩
    · exact addAct_show base sb ss xs a w H hl hl2 qw w1 w2 w3
    · exact addAct_hide base sb ss xs a w H hl hl2 qw w1 w2 w3
    · exact addAct_turn base sb ss xs a w H hl hl2 qw w1 w2 w3

set_option maxRecDepth 100000 in
theorem l18Act_any (base sb : Nat) (ss : List ByteArray) (xs : List AX) (a : AX) (w : World) (H : BX w base sb ss xs) (hl : ss.length ≤ 60) (hl2 : xs.length ≤ 60) :
    Calls Tryd.prog 40 #[.pointer (some ⟨sb, 0, none⟩), .agg #[.int .i64 a.1, .string a.2.1, .string a.2.2.1, .int .i64 a.2.2.2]] w fun e w' => e = .returned (.int .i64 (acCode ss xs a)) ∧ BX w' base sb ss (acNext ss xs a) ∧ Below base w w' := by
  cases qw : wdB a
  · have HC : Hid (acCode ss xs a = 1) := by rw [Hid, acCode, if_pos qw]
    have HN : Hid (acNext ss xs a = xs) := by rw [Hid, acNext, if_neg (by rw [HC.out]; decide)]
    obtain ⟨w1, w2, w3⟩ := wd_no qw
    have HX := H
    obtain ⟨A, c, B, d, H⟩ := H
    have HB := H.below (below_alloc w (.cells #[.int .i64 a.1, .string a.2.1, .string a.2.2.1, .int .i64 a.2.2.2] 56))
    have e1 : (w.alloc (.cells #[.int .i64 a.1, .string a.2.1, .string a.2.2.1, .int .i64 a.2.2.2] 56)).cell? ⟨w.heap.size, 1, none⟩ = some (.string a.2.1) := by simp [go_sem]
    have c1a := HB.c1
    have hbl := H.base_le
    rw [HN.out]
    go_enter Tryd.func40, Tryd.ntmps40
    go_wp2_with fail
    go_ret
    exact ⟨ret_int HC.out.symm, HX.below (below_alloc _ _), below_al hbl _⟩
  · rcases wd_cases qw with ⟨w1, w2, w3⟩ | ⟨w1, w2, w3⟩ | ⟨w1, w2, w3⟩
    · exact l18Act_show base sb ss xs a w H hl hl2 qw w1 w2 w3
    · exact l18Act_hide base sb ss xs a w H hl hl2 qw w1 w2 w3
    · exact l18Act_turn base sb ss xs a w H hl hl2 qw w1 w2 w3

end Go.Proofs.YthplfodfilefjaaDoor
