/-
  Contracts of the functions on showings: the one that was not shown for longest is taken out.
-/
import Derived.Test.YthplfodfilefjaaLoW
namespace Go.Proofs.Ythplfodfilefjaa
open Go.RowKit

theorem specLoadsLongest_any (s : ByteArray) (p : Int) (w : World) (hs : s.size ≤ 1048576) (_hp : In64 p) :
    Calls Try.prog 4 #[.string s, .int .i64 p] w fun e w' => e = .returned (.tuple #[.int .i64 (lrVal s.data.toList true p), .int .i64 (ldCode s.data.toList p)]) ∧ Below w.heap.size w w' := by
  by_cases hz : ldCode s.data.toList p = 0
  · obtain ⟨hok, hp1, hp2⟩ := ldCode_zero hz
    have hsz := ldOk_len hok
    rw [lenB] at hsz
    obtain ⟨P, rfl⟩ := Int.eq_ofNat_of_zero_le (show 0 ≤ p by omega)
    have HV : Hid (lrVal s.data.toList true P = lnVal s.data.toList true P) := by rw [Hid, lrVal, if_pos hz]
    have HZ := Lib.hid hz
    clear hz
    go_enter Try.func4, Try.ntmps4
    go_wp2_with fail
    refine (l20Code_any s P _ hs).mono ?_
    rintro e w2 ⟨rfl, rfl⟩
    rw [HZ.out]
    go_wp2_with fail
    refine (l20Loads_any s P true _ hsz (by omega) (by omega)).mono ?_
    rintro e w2 ⟨rfl, hb⟩
    go_wp2_with fail
    go_ret2
    exact ⟨ret2 HV.out.symm HZ.out.symm, hb⟩
  · have hz2 : (ldCode s.data.toList p != 0) = true := by simp [hz]
    have HV : Hid (lrVal s.data.toList true p = 0) := by rw [Hid, lrVal, if_neg hz]
    go_enter Try.func4, Try.ntmps4
    go_wp2_with fail
    refine (l20Code_any s p _ hs).mono ?_
    rintro e w2 ⟨rfl, rfl⟩
    go_wp2_with fail
    go_ret2
    exact ⟨ret2 HV.out.symm rfl, Below.refl _ _⟩

theorem implLoadsLongest_any (s : ByteArray) (p : Int) (w : World) (hs : s.size ≤ 1048576) (_hp : In64 p) :
    Calls Try.prog 5 #[.string s, .int .i64 p] w fun e w' => e = .returned (.tuple #[.int .i64 (lrVal s.data.toList true p), .int .i64 (ldCode s.data.toList p)]) ∧ Below w.heap.size w w' := by
  by_cases hz : ldCode s.data.toList p = 0
  · obtain ⟨hok, hp1, hp2⟩ := ldCode_zero hz
    have hsz := ldOk_len hok
    rw [lenB] at hsz
    obtain ⟨P, rfl⟩ := Int.eq_ofNat_of_zero_le (show 0 ≤ p by omega)
    have HV : Hid (lrVal s.data.toList true P = lnVal s.data.toList true P) := by rw [Hid, lrVal, if_pos hz]
    have HZ := Lib.hid hz
    clear hz
    go_enter Try.func5, Try.ntmps5
    go_wp2_with fail
    refine (showingCode_any s P _ hs).mono ?_
    rintro e w2 ⟨rfl, rfl⟩
    rw [HZ.out]
    go_wp2_with fail
    refine (loadsOrdered_long s P _ hsz (by omega) (by omega)).mono ?_
    rintro e w2 ⟨rfl, hb⟩
    go_wp2_with fail
    go_ret2
    exact ⟨ret2 HV.out.symm HZ.out.symm, hb⟩
  · have hz2 : (ldCode s.data.toList p != 0) = true := by simp [hz]
    have HV : Hid (lrVal s.data.toList true p = 0) := by rw [Hid, lrVal, if_neg hz]
    go_enter Try.func5, Try.ntmps5
    go_wp2_with fail
    refine (showingCode_any s p _ hs).mono ?_
    rintro e w2 ⟨rfl, rfl⟩
    go_wp2_with fail
    go_ret2
    exact ⟨ret2 HV.out.symm rfl, Below.refl _ _⟩

end Go.Proofs.Ythplfodfilefjaa
