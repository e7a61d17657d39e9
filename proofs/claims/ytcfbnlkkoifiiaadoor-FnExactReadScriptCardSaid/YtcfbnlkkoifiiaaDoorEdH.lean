/-
  Scripts: an act that is added: both sides, any word.
-/
import Derived.Test.YtcfbnlkkoifiiaaDoorEdB
import Derived.Test.YtcfbnlkkoifiiaaDoorEdC
import Derived.Test.YtcfbnlkkoifiiaaDoorEdD
import Derived.Test.YtcfbnlkkoifiiaaDoorEdE
import Derived.Test.YtcfbnlkkoifiiaaDoorEdF
import Derived.Test.YtcfbnlkkoifiiaaDoorEdG
import Derived.Test.YtcfbnlkkoifiiaaDoorBInt
import Derived.Deep.RegionLaw
namespace Go.Proofs.YtcfbnlkkoifiiaaDoor
set_option maxRecDepth 100000
open Go.RowKit Go.Deep Go.Joins


set_option maxRecDepth 100000 in
theorem addAct_any (q : Pas) (base sb : Nat) (ss : List ByteArray) (xs : List AX) (a : AX) (w : World) (H : BX q w base sb ss xs) (hl : ss.length ≤ 60) (hl2 : xs.length ≤ 60) :
    Calls Tryd.prog 32 #[.pointer (some ⟨sb, 0, none⟩), .agg #[.int .i64 a.1, .string a.2.1, .string a.2.2.1, .int .i64 a.2.2.2]] w fun e w' => e = .returned (.int .i64 (acCode ss xs a)) ∧ BX q w' base sb ss (acNext ss xs a) ∧ Below base w w' := by
  cases qw : wdB a
  · have HC : Hid (acCode ss xs a = 1) := by rw [Hid, acCode, if_pos qw]
    have HN : Hid (acNext ss xs a = xs) := by rw [Hid, acNext, if_neg (by rw [HC.out]; decide)]
    obtain ⟨w1, w2, w3⟩ := wd_no qw
    have HX := H
    obtain ⟨A, c, B, d, H⟩ := H
    have HB := H.below (below_alloc w (.cells #[.int .i64 a.1, .string a.2.1, .string a.2.2.1, .int .i64 a.2.2.2] 49))
    have e1 : (w.alloc (.cells #[.int .i64 a.1, .string a.2.1, .string a.2.2.1, .int .i64 a.2.2.2] 49)).cell? ⟨w.heap.size, 1, none⟩ = some (.string a.2.1) := by simp [go_sem]
    have c1a := HB.c1
    have hbl := H.base_le
    rw [HN.out]
    go_enter Tryd.func32, Tryd.ntmps32
    go_wp2_with fail
    go_ret
    exact ⟨ret_int HC.out.symm, HX.below (below_alloc _ _), below_al hbl _⟩
  · rcases wd_cases qw with ⟨w1, w2, w3⟩ | ⟨w1, w2, w3⟩ | ⟨w1, w2, w3⟩
    · exact addAct_show q base sb ss xs a w H hl hl2 qw w1 w2 w3
    · exact addAct_hide q base sb ss xs a w H hl hl2 qw w1 w2 w3
    · exact addAct_turn q base sb ss xs a w H hl hl2 qw w1 w2 w3

set_option maxRecDepth 100000 in
theorem l18Act_any (q : Pas) (base sb : Nat) (ss : List ByteArray) (xs : List AX) (a : AX) (w : World) (H : BX q w base sb ss xs) (hl : ss.length ≤ 60) (hl2 : xs.length ≤ 60) :
    Calls Tryd.prog 27 #[.pointer (some ⟨sb, 0, none⟩), .agg #[.int .i64 a.1, .string a.2.1, .string a.2.2.1, .int .i64 a.2.2.2]] w fun e w' => e = .returned (.int .i64 (acCode ss xs a)) ∧ BX q w' base sb ss (acNext ss xs a) ∧ Below base w w' := by
  cases qw : wdB a
  · have HC : Hid (acCode ss xs a = 1) := by rw [Hid, acCode, if_pos qw]
    have HN : Hid (acNext ss xs a = xs) := by rw [Hid, acNext, if_neg (by rw [HC.out]; decide)]
    obtain ⟨w1, w2, w3⟩ := wd_no qw
    have HX := H
    obtain ⟨A, c, B, d, H⟩ := H
    have HB := H.below (below_alloc w (.cells #[.int .i64 a.1, .string a.2.1, .string a.2.2.1, .int .i64 a.2.2.2] 49))
    have e1 : (w.alloc (.cells #[.int .i64 a.1, .string a.2.1, .string a.2.2.1, .int .i64 a.2.2.2] 49)).cell? ⟨w.heap.size, 1, none⟩ = some (.string a.2.1) := by simp [go_sem]
    have c1a := HB.c1
    have hbl := H.base_le
    rw [HN.out]
    go_enter Tryd.func27, Tryd.ntmps27
    go_wp2_with fail
    go_ret
    exact ⟨ret_int HC.out.symm, HX.below (below_alloc _ _), below_al hbl _⟩
  · rcases wd_cases qw with ⟨w1, w2, w3⟩ | ⟨w1, w2, w3⟩ | ⟨w1, w2, w3⟩
    · exact l18Act_show q base sb ss xs a w H hl hl2 qw w1 w2 w3
    · exact l18Act_hide q base sb ss xs a w H hl hl2 qw w1 w2 w3
    · exact l18Act_turn q base sb ss xs a w H hl hl2 qw w1 w2 w3

end Go.Proofs.YtcfbnlkkoifiiaaDoor
