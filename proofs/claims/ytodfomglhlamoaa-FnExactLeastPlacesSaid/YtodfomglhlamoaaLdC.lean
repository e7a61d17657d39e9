/-
  Contracts of the functions on showings: the loads of a plan.
-/
import Derived.Test.YtodfomglhlamoaaLdB
import Derived.Test.YtodfomglhlamoaaBByte
import Derived.Test.YtodfomglhlamoaaBToI
import Derived.Deep.QuietTactic
import Derived.BigQuiet
namespace Go.Proofs.Ytodfomglhlamoaa
open Go.RowKit


set_option maxHeartbeats 400000 in
theorem l20Of_any (s : ByteArray) (P : Nat) (A : Option Addr) (n cp : Nat) (xs : List Int) (w : World) (hs : s.size ≤ 1048576) (hP1 : 1 ≤ P) (hP : P ≤ 6) (h : Sl w 1 e1 A n xs) (hn : n = s.size) (hv : ∀ v ∈ xs, 0 ≤ v ∧ v ≤ (P : Int) - 1) :
    Calls Try.prog 41 #[.string s, .int .i64 P, .slice A n cp] w fun e w' => e = .returned (.int .i64 (lsVal s.data.toList xs P)) ∧ Below w.heap.size w w' := by
  obtain ⟨i0, hi0, hz0, hz1, hz2⟩ := info_parts infoU8
  have HN := Lib.hid hn
  have HV : Hid (lsVal s.data.toList xs P = (lsK s.data.toList xs P s.size).2) := by rw [Hid, lsVal, lenB, Int.toNat_natCast]
  go_enter Try.func41, Try.ntmps41
  go_wp2_with (with_reducible refine wpList_make_full _ rfl (.tmp 10) (.tmp 10) 45 rfl w.heap.size 5 i0 _ 1 Try.underlying45 hi0 hz0 hz1 .i64 .i64 P P P rfl rfl rfl rfl (by rw [hz2]; omega) (by unfold maxLen; omega) (Nat.le_refl _) ?_; intro w1 hown1 hg1)
  have ho1 : Own w1 w.heap.size 5 1 eB (.slice (some ⟨w.heap.size, 0, none⟩) P P) (lsK s.data.toList xs P 0).1 :=
    Own.of_row hown1 (by simp [lsK]) (madeK eB_len (by omega) (0 : UInt8) P)
  have hb1 : Below w.heap.size w w1 := (Below.refl _ _).grown hg1 (Nat.le_refl _) (by simp)
  go_loopw [8, 9] (fun q i wr => ∃ k : Nat, k ≤ s.size ∧ i = .int .i64 k ∧ q = .int .i64 (lsK s.data.toList xs P k).2 ∧ Own wr w.heap.size 5 1 eB (.slice (some ⟨w.heap.size, 0, none⟩) P P) (lsK s.data.toList xs P k).1 ∧ Below w.heap.size w wr) (fun _ i _ => s.size - (intOf i).toNat)
  case atStart => exact ⟨0, by omega, rfl, rfl, ho1, hb1⟩
  case round =>
    obtain ⟨k, hk, rfl, rfl, ho, hb⟩ := hrel
    have q0 := lsK_bd s.data.toList xs P k
    by_cases hlt : k < s.size
    · obtain ⟨b, off, v, rfl, hx, hm, c0⟩ := (h.below hb).at1 (i := k) (by have := HN.out; omega)
      have hvb := hv v hm
      obtain ⟨vn, rfl⟩ := Int.eq_ofNat_of_zero_le hvb.1
      have hvn : vn < P := by omega
      obtain ⟨d, hd⟩ : ∃ d, (lsK s.data.toList xs P k).1[vn]? = some d := ⟨_, List.getElem?_eq_getElem (by rw [lsK_len]; exact hvn)⟩
      have hc := snocB s k hlt
      have d0 := ho.cellB hd
      have g1 : (0 : Int) ≤ (k : Int) := by omega
      have g2 : (k : Int) < (s.size : Int) := by omega
      have g3 : (vn : Int) < (P : Int) := by omega
      have g4 : k < n := by have := HN.out; omega
      have g5 : (k : Int) < (n : Int) := by omega
      cases q : (d == s[k])
      · have HS := Lib.hid (lsK_no hc hx hd q)
        have q2 : (((d.toNat : Nat) : Int) != ((s[k].toNat : Nat) : Int)) = true := by rw [byte_ne, q]; rfl
        clear hd hc hx
        go_wp2_with fail
        go_quiet (fail)
        generalize hW : wr.drewN nq = w5
        have hb5 : Below w.heap.size w w5 := by rw [← hW]; exact below_drewN hb _
        have ho5 : Own w5 w.heap.size 5 1 eB (.slice (some ⟨w.heap.size, 0, none⟩) P P) (lsK s.data.toList xs P k).1 := by rw [← hW]; exact ho.drewN _
        have c5 : w5.cell? ⟨b, off + k, none⟩ = some (.int .i64 (vn : Int)) := by rw [← hW]; exact c0
        have d5 : w5.cell? ⟨w.heap.size, vn, none⟩ = some (.int .u8 (d.toNat : Int)) := by rw [← hW]; exact d0
        have f5 := ho5.free vn
        clear hW c0 d0 ho hb
        have hb6 := hb5.drew
        have ho6 := ho5.drew
        go_wp2_with fail
        go_still_tail 9, (by kernel_rfl)
        change wpList _ _ _ _ _ w5.drew
        generalize hW : w5.drew = w6 at hb6 ho6 ⊢
        have d6 : w6.cell? ⟨w.heap.size, vn, none⟩ = some (.int .u8 (d.toNat : Int)) := by rw [← hW]; exact d5
        have f6 := ho6.free vn
        clear hW
        go_wp2_with fail
        go_roundw
        case rel => exact ⟨k + 1, by omega, by go_num, by rw [HS.out], by rw [HS.out]; exact ho6.setB vn s[k], hb6.setCell (by simp) _⟩
        case measure => simp [intOf]; omega
      · have HS := Lib.hid (lsK_yes hc hx hd q)
        have q2 : (((d.toNat : Nat) : Int) != ((s[k].toNat : Nat) : Int)) = false := by rw [byte_ne, q]; rfl
        clear hd hc hx
        go_wp2_with fail
        go_quiet (fail)
        generalize hW : wr.drewN nq = w5
        have hb5 : Below w.heap.size w w5 := by rw [← hW]; exact below_drewN hb _
        have ho5 : Own w5 w.heap.size 5 1 eB (.slice (some ⟨w.heap.size, 0, none⟩) P P) (lsK s.data.toList xs P k).1 := by rw [← hW]; exact ho.drewN _
        have c5 : w5.cell? ⟨b, off + k, none⟩ = some (.int .i64 (vn : Int)) := by rw [← hW]; exact c0
        have d5 : w5.cell? ⟨w.heap.size, vn, none⟩ = some (.int .u8 (d.toNat : Int)) := by rw [← hW]; exact d0
        have f5 := ho5.free vn
        clear hW c0 d0 ho hb
        have hb6 := hb5.drew
        have ho6 := ho5.drew
        go_wp2_with fail
        go_still_tail 9, (by kernel_rfl)
        change wpList _ _ _ _ _ w5.drew
        generalize hW : w5.drew = w6 at hb6 ho6 ⊢
        have d6 : w6.cell? ⟨w.heap.size, vn, none⟩ = some (.int .u8 (d.toNat : Int)) := by rw [← hW]; exact d5
        have f6 := ho6.free vn
        clear hW
        go_wp2_with fail
        go_roundw
        case rel => exact ⟨k + 1, by omega, by go_num, by rw [HS.out], by rw [HS.out]; exact ho6.setB vn s[k], hb6.setCell (by simp) _⟩
        case measure => simp [intOf]; omega
    · have : k = s.size := by omega
      subst this
      go_wp2_with fail
      go_ret
      exact ⟨ret_int HV.out.symm, hb⟩

set_option maxHeartbeats 400000 in
theorem loadsOf_any (s : ByteArray) (P : Nat) (A : Option Addr) (n cp : Nat) (xs : List Int) (w : World) (hs : s.size ≤ 1048576) (hP1 : 1 ≤ P) (hP : P ≤ 6) (h : Sl w 1 e1 A n xs) (hn : n = s.size) (hv : ∀ v ∈ xs, 0 ≤ v ∧ v ≤ (P : Int) - 1) :
    Calls Try.prog 45 #[.string s, .int .i64 P, .slice A n cp] w fun e w' => e = .returned (.int .i64 (lsVal s.data.toList xs P)) ∧ Below w.heap.size w w' := by
  obtain ⟨i0, hi0, hz0, hz1, hz2⟩ := info_parts infoU8
  have HN := Lib.hid hn
  have HV : Hid (lsVal s.data.toList xs P = (lsK s.data.toList xs P s.size).2) := by rw [Hid, lsVal, lenB, Int.toNat_natCast]
  go_enter Try.func45, Try.ntmps45
  go_wp2_with (with_reducible refine wpList_make_full _ rfl (.tmp 11) (.tmp 11) 45 rfl w.heap.size 5 i0 _ 1 Try.underlying45 hi0 hz0 hz1 .i64 .i64 P P P rfl rfl rfl rfl (by rw [hz2]; omega) (by unfold maxLen; omega) (Nat.le_refl _) ?_; intro w1 hown1 hg1)
  have ho1 : Own w1 w.heap.size 5 1 eB (.slice (some ⟨w.heap.size, 0, none⟩) P P) (lsK s.data.toList xs P 0).1 :=
    Own.of_row hown1 (by simp [lsK]) (madeK eB_len (by omega) (0 : UInt8) P)
  have hb1 : Below w.heap.size w w1 := (Below.refl _ _).grown hg1 (Nat.le_refl _) (by simp)
  go_loopw [8, 15] (fun q i wr => ∃ k : Nat, k ≤ s.size ∧ i = .int .i64 k ∧ q = .int .i64 (lsK s.data.toList xs P k).2 ∧ Own wr w.heap.size 5 1 eB (.slice (some ⟨w.heap.size, 0, none⟩) P P) (lsK s.data.toList xs P k).1 ∧ Below w.heap.size w wr) (fun _ i _ => s.size - (intOf i).toNat)
  case atStart => exact ⟨0, by omega, rfl, rfl, ho1, hb1⟩
  case round =>
    obtain ⟨k, hk, rfl, rfl, ho, hb⟩ := hrel
    have q0 := lsK_bd s.data.toList xs P k
    by_cases hlt : k < s.size
    · obtain ⟨b, off, v, rfl, hx, hm, c0⟩ := (h.below hb).at1 (i := k) (by have := HN.out; omega)
      have hvb := hv v hm
      obtain ⟨vn, rfl⟩ := Int.eq_ofNat_of_zero_le hvb.1
      have hvn : vn < P := by omega
      obtain ⟨d, hd⟩ : ∃ d, (lsK s.data.toList xs P k).1[vn]? = some d := ⟨_, List.getElem?_eq_getElem (by rw [lsK_len]; exact hvn)⟩
      have hc := snocB s k hlt
      have d0 := ho.cellB hd
      have g1 : (0 : Int) ≤ (k : Int) := by omega
      have g2 : (k : Int) < (s.size : Int) := by omega
      have g3 : (vn : Int) < (P : Int) := by omega
      have g4 : k < n := by have := HN.out; omega
      have g5 : (k : Int) < (n : Int) := by omega
      cases q : (d == s[k])
      · have HS := Lib.hid (lsK_no hc hx hd q)
        have q2 : (((d.toNat : Nat) : Int) != ((s[k].toNat : Nat) : Int)) = true := by rw [byte_ne, q]; rfl
        clear hd hc hx
        go_wp2_with fail
        go_quiet (fail)
        generalize hW : wr.drewN nq = w5
        have hb5 : Below w.heap.size w w5 := by rw [← hW]; exact below_drewN hb _
        have ho5 : Own w5 w.heap.size 5 1 eB (.slice (some ⟨w.heap.size, 0, none⟩) P P) (lsK s.data.toList xs P k).1 := by rw [← hW]; exact ho.drewN _
        have d5 : w5.cell? ⟨w.heap.size, vn, none⟩ = some (.int .u8 (d.toNat : Int)) := by rw [← hW]; exact d0
        have f5 := ho5.free vn
        clear hW c0 d0 ho hb
        go_wp2_with fail
        go_roundw
        case rel => exact ⟨k + 1, by omega, by go_num, by rw [HS.out], by rw [HS.out]; exact ho5.setB vn s[k], hb5.setCell (by simp) _⟩
        case measure => simp [intOf]; omega
      · have HS := Lib.hid (lsK_same hc hx hd q)
        have q2 : (((d.toNat : Nat) : Int) != ((s[k].toNat : Nat) : Int)) = false := by rw [byte_ne, q]; rfl
        clear hd hc hx
        go_wp2_with fail
        go_quiet (fail)
        go_wp2_with fail
        go_roundw
        case rel => exact ⟨k + 1, by omega, by go_num, by rw [HS.out], by rw [HS.out]; exact ho.drewN _, below_drewN hb _⟩
        case measure => simp [intOf]; omega
    · have : k = s.size := by omega
      subst this
      go_wp2_with fail
      go_ret
      exact ⟨ret_int HV.out.symm, hb⟩

end Go.Proofs.Ytodfomglhlamoaa
