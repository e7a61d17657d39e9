/-
  Numbers read: the program.
-/
import Derived.Test.YtcfbnlkkoifiiaaDoorRnA
namespace Go.Proofs.YtcfbnlkkoifiiaaDoor
set_option maxRecDepth 100000
open Go.RowKit

theorem parse_in {l : List UInt8} {v : Int} (h : Lib.parseIntB 64 l = .ok v) : In64 v := by
  have e : (2 : Nat) ^ 63 = 9223372036854775808 := by decide
  cases l with
  | nil => cases h
  | cons c r =>
    rw [Lib.parseIntB] at h
    simp only [show 64 - 1 = 63 from rfl, e] at h
    split at h
    · cases h
    · cases h
    · split at h
      · cases h
      · split at h
        · cases h
        · injection h with h
          rw [← h]
          split <;> (constructor <;> omega)
theorem ReadDecimal_any (s : ByteArray) (w : World) (hs : s.size ≤ 4294967280) (hT : Tab w) (hS : Sent w) :
    Calls Tryd.prog 31 #[.string s] w fun e w' => e = .returned (.tuple #[.int .i64 (numF s).1, .bool (numF s).2]) ∧ Below w.heap.size w w' := by
  obtain ⟨t1, t2⟩ := tailB_size s
  go_enter Tryd.func31, Tryd.ntmps31
  by_cases h19 : 19 < s.size
  · have HN : Hid (numF s = (0, false)) := numF_long (by omega)
    go_wp2_with fail
    go_ret2
    exact ⟨by rw [HN.out]; rfl, Below.refl _ _⟩
  · have hz := Lib.hid (cutB_size s)
    go_wp2_with fail
    refine (trim_any s _).mono ?_
    rintro e w2 ⟨rfl, rfl⟩
    by_cases h18 : 18 < (tailB s).length
    · have HN : Hid (numF s = (0, false)) := numF_long h18
      have h18c : 18 < (cutB s).size := by rw [hz.out]; exact h18
      go_wp2_with fail
      go_ret2
      exact ⟨by rw [HN.out]; rfl, Below.refl _ _⟩
    · have h18c : ¬ 18 < (cutB s).size := by rw [hz.out]; exact h18
      go_wp2_with fail
      refine (parse_any s _ hs hS).mono ?_
      rintro e w3 ⟨hb, ⟨v, hp, rfl⟩ | ⟨hp, x, T, p, rfl⟩⟩
      · have HN := Lib.hid (numF_ok hp (by omega))
        have hv := parse_in hp
        clear hp
        go_wp2_with fail
        refine (Decimal_any v _ hv (hT.below hb)).mono ?_
        rintro e w4 ⟨rfl, hb4⟩
        by_cases hd : decS v = s
        · have HN2 : Hid (numF s = (v, true)) := by rw [Hid, HN.out, if_pos hd]
          have hq : ((decS v).toList == s.toList) = true := by rw [hd]; simp
          have hq2 : ((decS v).toList != s.toList) = false := by rw [hd]; simp
          have HD := Lib.hid hd
          clear hd
          go_wp2_with fail
          go_ret2
          exact ⟨by rw [HN2.out]; rfl, below_step hb hb4⟩
        · have HN2 : Hid (numF s = (0, false)) := by rw [Hid, HN.out, if_neg hd]
          have hne : (decS v).toList ≠ s.toList := fun e => hd (by rw [Lib.toList_data, Lib.toList_data] at e; exact WideShapes.bytes_inj e)
          have hq : ((decS v).toList == s.toList) = false := by simpa using hne
          have hq2 : ((decS v).toList != s.toList) = true := by simpa using hne
          clear hd hne
          go_wp2_with fail
          go_ret2
          exact ⟨by rw [HN2.out]; rfl, below_step hb hb4⟩
      · have HN := Lib.hid (numF_bad hp)
        clear hp
        go_wp2_with fail
        go_ret2
        exact ⟨by rw [HN.out]; rfl, hb⟩
end Go.Proofs.YtcfbnlkkoifiiaaDoor
