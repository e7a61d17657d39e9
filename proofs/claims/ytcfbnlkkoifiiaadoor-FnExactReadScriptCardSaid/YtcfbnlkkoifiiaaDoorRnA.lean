/-
  Numbers read, both sides.
-/
import Derived.Test.YtcfbnlkkoifiiaaDoorRn
import Derived.Shelf.LaysC
import Derived.Lib.Split
import Derived.Shelf.Strconv.ParseIntPublic10
import Derived.Test.YtcfbnlkkoifiiaaDoorLaC174
namespace Go.Proofs.YtcfbnlkkoifiiaaDoor
set_option maxRecDepth 100000
open Go.RowKit

theorem pre_eq (s : ByteArray) : ((s.extract 0 1).toList == [45]) = negB s := by
  rw [Lib.toList_data, Lib.extract_from_zero, negB]
  cases s.data.toList with
  | nil => rfl
  | cons c r =>
    by_cases h : c = 45
    · subst h; rfl
    · have h2 : (c == 45) = false := by simpa using h
      simp [h]
theorem hasPre_any (s : ByteArray) (w : World) : Calls Tryd.prog 70 #[.string s, .string ⟨#[45]⟩] w fun e w' => e = .returned (.bool (negB s)) ∧ w' = w := by
  go_enter Tryd.func70, Tryd.ntmps70
  by_cases h : 1 ≤ s.size
  · go_wp2_with fail
    go_ret
    exact ⟨ret_bool (pre_eq s), rfl⟩
  · have hn : negB s = false := by
      have h0 : s.data.toList = [] := List.eq_nil_of_length_eq_zero (by rw [Array.length_toList]; have : s.size = s.data.size := rfl; omega)
      rw [negB, h0]; rfl
    go_wp2_with fail
    go_ret
    exact ⟨ret_bool (by first | rfl | exact hn.symm), rfl⟩
/-- a text without its minus -/
def cutB (s : ByteArray) : ByteArray := if negB s then s.extract 1 s.size else s
theorem cutB_list (s : ByteArray) : (cutB s).data.toList = tailB s := by
  rw [cutB, negB, tailB]
  by_cases h : s.data.toList.head? = some 45
  · rw [if_pos (by simpa using h), Lib.extract_data]
    cases hs : s.data.toList with
    | nil => rw [hs] at h; cases h
    | cons c r =>
      have hc : c = 45 := by rw [hs] at h; simpa using h
      have hz : s.size = r.length + 1 := by
        have : s.size = s.data.toList.length := by simp
        rw [this, hs]; rfl
      simp [hc, hz]
  · rw [if_neg (by simpa using h)]
    cases hs : s.data.toList with
    | nil => rfl
    | cons c r =>
      have hc : c ≠ 45 := by rw [hs] at h; simpa using h
      simp [hc]
theorem cutB_size (s : ByteArray) : (cutB s).size = (tailB s).length := by
  rw [← cutB_list]; simp
theorem trimL_any (s : ByteArray) (w : World) : Calls Tryd.prog 60 #[.string s, .string ⟨#[45]⟩] w fun e w' => e = .returned (.string (cutB s)) ∧ w' = w := by
  go_enter Tryd.func60, Tryd.ntmps60
  cases hn : negB s
  · have HC : Hid (cutB s = s) := by rw [Hid, cutB, hn]; rfl
    go_wp2_with fail
    refine (hasPre_any s _).mono ?_
    rintro e w2 ⟨rfl, rfl⟩
    rw [hn]
    go_wp2_with fail
    go_ret
    exact ⟨by rw [HC.out]; rfl, rfl⟩
  · have HC : Hid (cutB s = s.extract 1 s.size) := by rw [Hid, cutB, hn]; rfl
    have hz : 1 ≤ s.size := by
      rcases Nat.eq_zero_or_pos s.size with h | h
      · have h0 : s.data.toList = [] := List.eq_nil_of_length_eq_zero (by simpa using h)
        rw [negB, h0] at hn; cases hn
      · exact h
    go_wp2_with fail
    refine (hasPre_any s _).mono ?_
    rintro e w2 ⟨rfl, rfl⟩
    rw [hn]
    go_wp2_with fail
    go_ret
    exact ⟨by rw [HC.out]; rfl, rfl⟩
theorem trim_any (s : ByteArray) (w : World) : Calls Tryd.prog 48 #[.string s, .string ⟨#[45]⟩] w fun e w' => e = .returned (.string (cutB s)) ∧ w' = w := by
  go_enter Tryd.func48, Tryd.ntmps48
  go_wp2_with fail
  refine (trimL_any s _).mono ?_
  rintro e w2 ⟨rfl, rfl⟩
  go_wp2_with fail
  go_ret
  exact ⟨rfl, rfl⟩
/-- the sentinels of strconv lie in the world -/
def Sent (w : World) : Prop := (∃ ev, w.cell? ⟨3, 0, none⟩ = some ev ∧ (ev = .nilIface ∨ ∃ te pe, ev = .iface te pe)) ∧ (∃ ev, w.cell? ⟨4, 0, none⟩ = some ev ∧ (ev = .nilIface ∨ ∃ te pe, ev = .iface te pe))
theorem Sent.below {w w' : World} (h : Sent w) (hb : Below w.heap.size w w') : Sent w' := by
  obtain ⟨⟨e1, c1, h1⟩, ⟨e2, c2, h2⟩⟩ := h
  exact ⟨⟨e1, (hb.cell (World.block_lt_of_cell? _ _ c1)).trans c1, h1⟩, ⟨e2, (hb.cell (World.block_lt_of_cell? _ _ c2)).trans c2, h2⟩⟩
theorem parse_any (s : ByteArray) (w : World) (hs : s.size ≤ 4294967280) (hS : Sent w) :
    Calls Tryd.prog 49 #[.string s, .int .i64 10, .int .i64 64] w fun e w' => Below w.heap.size w w' ∧ ((∃ v, Lib.parseIntB 64 s.data.toList = .ok v ∧ e = .returned (.tuple #[.int .i64 v, .nilIface])) ∨ ((∀ v, Lib.parseIntB 64 s.data.toList ≠ .ok v) ∧ ∃ x T p, e = .returned (.tuple #[.int .i64 x, .iface T (.pointer p)]))) := by
  obtain ⟨⟨e1, c1, h1⟩, ⟨e2, c2, h2⟩⟩ := hS
  rcases hp : Lib.parseIntB 64 s.data.toList with v | _ | _
  · have hcon := Any.strconv_ParseInt_10_at64_ok Tryd.laysC174 s (by omega) v hp w
    refine Calls.mono hcon ?_
    rintro e w' ⟨rfl, hw⟩
    refine ⟨?_, .inl ⟨v, rfl, rfl⟩⟩
    rcases hw with rfl | ⟨t, rfl⟩
    · exact Below.refl _ _
    · exact Lib.bytesWorld_below _ _ _
  · have hcon := Any.strconv_ParseInt_10_at64_syntax Tryd.laysC174 s (by omega) hp e1 w c1 h1
    refine Calls.mono hcon ?_
    rintro e w' ⟨N, rfl, _, _, hb⟩
    exact ⟨hb, .inr ⟨(fun v h => by cases h), _, _, _, rfl⟩⟩
  · have hcon := Any.strconv_ParseInt_10_at64_range Tryd.laysC174 s (by omega) hp e2 w c2 h2
    refine Calls.mono hcon ?_
    rintro e w' ⟨N, rfl, _, _, hb⟩
    exact ⟨hb, .inr ⟨(fun v h => by cases h), _, _, _, rfl⟩⟩
end Go.Proofs.YtcfbnlkkoifiiaaDoor
