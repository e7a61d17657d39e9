/-
  Contracts of the functions on pieces: the beat at a place.
-/
import Derived.Test.YtoehlgfjfdfnfaaMuC
import Derived.Deep.RegionHeld3
namespace Go.Proofs.Ytoehlgfjfdfnfaa
open Go.RowKit

def bpCode (xs : List (Int × Int × Int)) (p b e : Int) : Int :=
  if ptOk xs then (if inB p 0 (xs.length - 1) then (match xs[p.toNat]? with | some x => if inB b 0 (x.1 - 1) && inB e 0 (x.2.1 - 1) then 0 else 2 | none => 2) else 2) else 1
def bpVal (xs : List (Int × Int × Int)) (p b e : Int) : Int := if bpCode xs p b e = 0 then (match xs[p.toNat]? with | some x => btK xs p.toNat + b * x.2.1 + e | none => 0) else 0
theorem bpCode_at {xs : List (Int × Int × Int)} {k : Nat} {b e : Int} {x : Int × Int × Int} (hok : ptOk xs = true) (hx : xs[k]? = some x) : bpCode xs k b e = if inB b 0 (x.1 - 1) && inB e 0 (x.2.1 - 1) then 0 else 2 := by
  have hk := (List.getElem?_eq_some_iff.1 hx).1
  rw [bpCode, if_pos hok, if_pos (by rw [inB_true]; omega)]; simp [hx]
theorem bpVal_at {xs : List (Int × Int × Int)} {k : Nat} {b e : Int} {x : Int × Int × Int} (h : bpCode xs k b e = 0) (hx : xs[k]? = some x) : bpVal xs k b e = btK xs k + b * x.2.1 + e := by
  rw [bpVal, if_pos h]; simp [hx]
theorem bpVal_no {xs : List (Int × Int × Int)} {p b e : Int} (h : ¬ bpCode xs p b e = 0) : bpVal xs p b e = 0 := by rw [bpVal, if_neg h]
theorem bp_bd {b y : Int} {x : Int} (h : 0 ≤ b ∧ b ≤ x - 1) (h2 : 1 ≤ x ∧ x ≤ 200) (h3 : 1 ≤ y ∧ y ≤ 12) : 0 ≤ b * y ∧ b * y ≤ 2400 := by
  have a1 : 0 ≤ b * y := Int.mul_nonneg (by omega) (by omega)
  have a2 : b * y ≤ 200 * 12 := Int.mul_le_mul (by omega) (by omega) (by omega) (by omega)
  omega
theorem l19Beats_q (A : Option Addr) (n c : Nat) (xs : List (Int × Int × Int)) (w : World) (h : Sl w 3 e3 A n xs) (ok : PtB xs) :
    Calls Try.prog 27 #[.slice A n c] w fun e w' => e = .returned (.int .i64 (btI xs)) ∧ ∃ m, w' = w.drewN m := by
  have hl := ok.1
  have hl2 := h.1
  go_enter Try.func27, Try.ntmps27
  go_wp2
  go_loopw [3, 4] (fun s i wr => ∃ k j : Nat, k ≤ n ∧ i = .int .i64 k ∧ s = .int .i64 (btK xs k) ∧ Hid (wr = w.drewN j)) (fun _ i _ => n - (intOf i).toNat)
  case atStart => exact ⟨0, 0, by omega, rfl, rfl, rfl⟩
  case round =>
    obtain ⟨k, j, hk, rfl, rfl, hw⟩ := hrel
    by_cases hlt : k < n
    · have hs : Sl wr 3 e3 A n xs := by rw [hw.out]; exact h.drewN _
      obtain ⟨b, off, x, rfl, hx, hm, c0, c1, c2⟩ := hs.at3 hlt
      have HS := Lib.hid (btK_step hx)
      have q0 := ok.btK_bd k
      have q1 := bF_bd (ok.2 x hm)
      have r1 : IntKind.i64.wrap (x.1 * x.2.1) = x.1 * x.2.1 := wr64 (by omega)
      have r2 : IntKind.i64.wrap (btK xs k + x.1 * x.2.1) = btK xs k + x.1 * x.2.1 := wr64 (by omega)
      go_wp2_with fail
      go_quiet (fail)
      clear r1 r2
      go_wp2_with fail
      go_roundw
      case rel => exact ⟨k + 1, j + nq, by omega, by go_num, by rw [HS.out], by rw [Hid, hw.out, World.drewN_drewN]⟩
      case measure => simp [intOf]; omega
    · have : k = n := by omega
      subst this
      have HE := Lib.hid (btK_len xs)
      have HL := Lib.hid h.1
      go_wp2_with fail
      go_ret
      exact ⟨ret_int (by rw [← HL.out, HE.out]), j, hw.out⟩
theorem btK_take (xs : List (Int × Int × Int)) (k : Nat) : btI (xs.take k) = btK xs k := rfl

end Go.Proofs.Ytoehlgfjfdfnfaa
