/-
  Marks on strings.
-/
import Derived.Test.YtcfbnlkkoifiiaaDoorScC
import Derived.Test.YtcfbnlkkoifiiaaDoorBInt
import Derived.Laws.BytesArg
namespace Go.Proofs.YtcfbnlkkoifiiaaDoor
set_option maxRecDepth 100000
open Go.RowKit

/-- the decimal digits that the marks write ahead of a text -/
def mkD (n : Nat) (out : ByteArray) : ByteArray := if n = 0 then out else mkD (n / 10) (strOfNums [48 + (n : Int) % 10] ++ out)
termination_by n
decreasing_by omega
/-- the mark of a number -/
def mkT (n : Int) : ByteArray := if n ≤ 0 then ⟨#[109, 48]⟩ else ⟨#[109]⟩ ++ mkD n.toNat ⟨#[]⟩
theorem mkD_step {n : Nat} (h : 0 < n) (out : ByteArray) : mkD n out = mkD (n / 10) (strOfNums [48 + (n : Int) % 10] ++ out) := by
  rw [mkD, if_neg (by omega)]
theorem mkD_zero (out : ByteArray) : mkD 0 out = out := by rw [mkD, if_pos rfl]
theorem ret_str {a b : ByteArray} (h : a = b) : Ending.returned (.string a) = .returned (.string b) := by rw [h]
theorem markText_any (n : Int) (w : World) (hn : n ≤ 1000000000000) :
    Calls Tryd.prog 34 #[.int .i64 n] w fun e w' => e = .returned (.string (mkT n)) ∧ Below w.heap.size w w' := by
  by_cases h0 : n ≤ 0
  · have HM : Hid (mkT n = ⟨#[109, 48]⟩) := if_pos h0
    go_enter Tryd.func34, Tryd.ntmps34
    go_wp2
    go_ret
    exact ⟨ret_str HM.out.symm, Below.refl _ _⟩
  · have HM : Hid (mkT n = ⟨#[109]⟩ ++ mkD n.toNat ⟨#[]⟩) := if_neg h0
    obtain ⟨N, rfl⟩ : ∃ N : Nat, n = (N : Int) := ⟨n.toNat, by omega⟩
    go_enter Tryd.func34, Tryd.ntmps34
    go_wp2
    go_loopw [0, 3] (fun a b wr => ∃ k : Nat, ∃ out : ByteArray, k ≤ N ∧ a = .int .i64 k ∧ b = .string out ∧ out.size + k ≤ N ∧ Hid (mkD N ⟨#[]⟩ = mkD k out) ∧ Below w.heap.size w wr) (fun a _ _ => (intOf a).toNat)
    case atStart => exact ⟨N, _, by omega, rfl, rfl, by simp [ByteArray.size], rfl, Below.refl _ _⟩
    case round =>
      obtain ⟨k, out, hk, rfl, rfl, hsz, hm, hb⟩ := hrel
      by_cases hlt : 0 < k
      · have kc := run_convert_bytes_arg (P := Tryd.prog) (wr.alloc (.cells #[.int .u8 (48 + (k : Int) % 10)] 5)) 70 5 Tryd.underlying70 Tryd.underlying5 wr.heap.size 0 1 1 [48 + (k : Int) % 10] rfl (by intro i hi; obtain rfl : i = 0 := (by omega); simp [go_sem]) 9 Tryd.underlying9
        have hs1 : (strOfNums [48 + (k : Int) % 10]).size = 1 := by simp [strOfNums_size]
        have HS := Lib.hid (mkD_step hlt out)
        have hb2 := hb.alloc hb.size (.cells #[.int .u8 (48 + (k : Int) % 10)] 5)
        go_wp2
        go_roundw
        case rel => exact ⟨k / 10, strOfNums [48 + (k : Int) % 10] ++ out, by omega, by go_num, rfl, by rw [ByteArray.size_append, hs1]; omega, by rw [Hid, hm.out, HS.out], hb2⟩
        case measure => simp [intOf]; omega
      · have : k = 0 := by omega
        subst this
        go_wp2
        go_ret
        exact ⟨ret_str (by rw [HM.out, Int.toNat_natCast, hm.out, mkD_zero]), hb⟩
end Go.Proofs.YtcfbnlkkoifiiaaDoor
