/-
  Texts split: the reference.
-/
import Derived.Test.YtcfbnlkkoifiiaaDoorRs
import Derived.Test.YtcfbnlkkoifiiaaDoorSc
namespace Go.Proofs.YtcfbnlkkoifiiaaDoor
set_option maxRecDepth 100000
open Go.RowKit

theorem ext_list (s : ByteArray) (a b : Nat) : s.extract a b = mkB ((s.data.toList.take b).drop a) := by
  refine WideShapes.bytes_inj ?_
  rw [Lib.extract_data]
  simp [mkB, List.drop_take]
theorem split_hitAt {c : UInt8} {l : List UInt8} {a i : Nat} (hi : l[i]? = some c) (ha : a ≤ i) (h : ∀ x ∈ (l.take i).drop a, x ≠ c) : splitL c (l.drop a) = (l.take i).drop a :: splitL c (l.drop (i + 1)) := by
  have e : l.drop a = (l.take i).drop a ++ c :: l.drop (i + 1) := by
    have h1 : l = l.take i ++ c :: l.drop (i + 1) := by
      obtain ⟨hlt, he⟩ := List.getElem?_eq_some_iff.1 hi
      rw [← he, List.getElem_cons_drop, List.take_append_drop]
    have h2 : (l.take i).length = i := by
      obtain ⟨hlt, _⟩ := List.getElem?_eq_some_iff.1 hi
      simp; omega
    conv => lhs; rw [h1]
    rw [List.drop_append_of_le_length (by omega)]
  rw [e, splitL_hit _ _ _ h]
theorem split_endAt {c : UInt8} {l : List UInt8} {a : Nat} (h : ∀ x ∈ (l.take l.length).drop a, x ≠ c) : splitL c (l.drop a) = [l.drop a] := by
  rw [List.take_length] at h
  exact splitL_end _ _ h
theorem l01Split_any (c : UInt8) (s : ByteArray) (w : World) (hs : s.size ≤ 1048577) :
    Calls Tryd.prog 13 #[.string s, .int .u8 (c.toNat : Int)] w (RetOwn 9 1 eS (splitS c s) w) := by
  obtain ⟨i0, hi0, hz0, hz1, hz2⟩ := info_parts infoStr
  have hst : Hid (Own (w.alloc (.cells #[] 9)) w.heap.size 9 1 eS (.slice (some ⟨w.heap.size, 0, none⟩) 0 0) ([] : List ByteArray)) := Own.lit w _ _ [] 0 (Nat.le_refl _) rfl (by simp [maxLen]) eS_len rfl
  have hL : Hid (s.data.toList.length = s.size) := by rw [Hid, Array.length_toList]; rfl
  go_enter Tryd.func13, Tryd.ntmps13
  go_wp2
  go_loopw [5, 6, 7] (fun v5 v6 v7 wr => ∃ (a i : Nat) (done : List ByteArray), a ≤ i ∧ i ≤ s.size ∧ v6 = .int .i64 a ∧ v7 = .int .i64 i ∧ Own wr w.heap.size 9 1 eS v5 done ∧ Below w.heap.size w wr ∧ done.length ≤ i ∧ Hid (splitS c s = done ++ (splitL c (s.data.toList.drop a)).map mkB) ∧ Hid (∀ x ∈ (s.data.toList.take i).drop a, x ≠ c)) (fun _ _ v _ => s.size - (intOf v).toNat)
  case atStart => exact ⟨0, 0, [], by omega, by omega, rfl, rfl, hst.out, below_alloc _ _, Nat.le_refl _, by rw [Hid]; rfl, fun x hx => by simp at hx⟩
  case round =>
    obtain ⟨a, i, done, hai, his, rfl, rfl, ho, hb, hdl, HS, HX⟩ := hrel
    by_cases hlt : i < s.size
    · have hx : s.data.toList[i]? = some s[i] := by simp [hlt]; rfl
      cases hq : (s[i] == c)
      · have hne : s[i] ≠ c := by simpa using hq
        have q2 : (((s[i].toNat : Nat) : Int) == ((c.toNat : Nat) : Int)) = false := by
          rw [beq_eq_false_iff_ne]
          exact fun e => hne (UInt8.toNat_inj.1 (by omega))
        have HX2 : Hid (∀ x ∈ (s.data.toList.take (i + 1)).drop a, x ≠ c) := fun x hxx => by
          rw [List.take_add_one, hx, Option.toList_some, List.drop_append_of_le_length (by rw [List.length_take, hL.out]; omega)] at hxx
          rcases List.mem_append.1 hxx with h | h
          · exact HX.out x h
          · rw [List.mem_singleton.1 h]; exact hne
        clear hx hq hne
        go_wp2_with fail
        go_roundw
        case rel => exact ⟨a, i + 1, done, by omega, by omega, rfl, by go_num, ho, hb, by omega, HS, HX2⟩
        case measure => simp [intOf]; omega
      · have he : s[i] = c := by simpa using hq
        have q2 : (((s[i].toNat : Nat) : Int) == ((c.toNat : Nat) : Int)) = true := by rw [he]; simp
        have HS2 : Hid (splitS c s = (done ++ [s.extract a i]) ++ (splitL c (s.data.toList.drop (i + 1))).map mkB) := by
          rw [Hid, HS.out, split_hitAt (by rw [hx, he]) hai HX.out, List.map_cons, ext_list, List.append_assoc]
          rfl
        have HX2 : Hid (∀ x ∈ (s.data.toList.take (i + 1)).drop (i + 1), x ≠ c) := fun x hxx => by
          rw [List.drop_eq_nil_of_le (by rw [List.length_take]; omega)] at hxx
          cases hxx
        obtain ⟨A, cp, rfl, _, _, _⟩ := ho.val
        have HDL := Lib.hid hdl
        clear hx hq he
        go_wp2_with (at_builtin; refine wpList_app1x rfl (.tmp 20) (.tmp 25) 22 9 rfl w.heap.size i0 _ 1 16 Tryd.underlying22 hi0 hz0 hz1 hz2 rfl (by decide) eS eS_len eS_one _ done rfl (ho.alloc _) (s.extract a i) _ _ rfl (newcell _ _ _ _ rfl) (by omega) (by unfold maxLen; omega) (Nat.le_trans hb.size (below_alloc _ _).size) ?_; intro v9 w9 ho9 hb9 _ _)
        go_roundw
        case rel => exact ⟨i + 1, i + 1, done ++ [s.extract a i], by omega, by omega, by go_num, by go_num, ho9, (hb.alloc hb.size _).trans hb9, by rw [List.length_append, List.length_singleton]; omega, HS2, HX2⟩
        case measure => simp [intOf]; omega
    · obtain rfl : i = s.size := by omega
      have HS2 : Hid (splitS c s = done ++ [s.extract a s.size]) := by
        rw [Hid, HS.out, split_endAt (by rw [hL.out]; exact HX.out), ext_list]
        rw [List.map_cons, List.map_nil, List.take_of_length_le (by rw [hL.out]; exact Nat.le_refl _)]
      obtain ⟨A, cp, rfl, _, _, _⟩ := ho.val
      go_wp2_with (at_builtin; refine wpList_app1x rfl (.tmp 29) (.tmp 33) 22 9 rfl w.heap.size i0 _ 1 16 Tryd.underlying22 hi0 hz0 hz1 hz2 rfl (by decide) eS eS_len eS_one _ done rfl (ho.alloc _) (s.extract a s.size) _ _ rfl (newcell _ _ _ _ rfl) (by omega) (by unfold maxLen; omega) (Nat.le_trans hb.size (below_alloc _ _).size) ?_; intro v9 w9 ho9 hb9 _ _)
      go_ret
      rw [HS2.out]
      exact RetOwn.mk ho9 ((hb.alloc hb.size _).trans hb9)
end Go.Proofs.YtcfbnlkkoifiiaaDoor
