/-
  Remarks as text, both sides; the walk of the law.
-/
import Derived.Test.YthplfodfilefjaaDoorDe
import Derived.Test.YthplfodfilefjaaDoorBRemark
import Derived.Test.YthplfodfilefjaaDoorSc
import Derived.Deep.RegionHeld3
import Derived.Laws.Concat
namespace Go.Proofs.YthplfodfilefjaaDoor
set_option maxRecDepth 100000
open Go.RowKit

def wordsL : List ByteArray := [⟨#[]⟩, ⟨#[119, 111, 114, 100]⟩, ⟨#[99, 111, 117, 110, 116]⟩, ⟨#[110, 97, 109, 101]⟩, ⟨#[110, 117, 109, 98, 101, 114]⟩, ⟨#[116, 119, 105, 99, 101]⟩, ⟨#[110, 111, 110, 101]⟩, ⟨#[111, 114, 100, 101, 114]⟩, ⟨#[102, 117, 108, 108]⟩]
theorem wordsL_size {k : Nat} {x : ByteArray} (h : wordsL[k]? = some x) : x.size ≤ 6 := by
  have : ∀ y ∈ wordsL, y.size ≤ 6 := by decide
  exact this x (List.mem_of_getElem? h)
/-- a remark as text -/
noncomputable def rmS (r k : Int) : ByteArray := if inB r 1 3001 = true ∧ inB k 1 8 = true then ((⟨#[114, 111, 119, 32]⟩ ++ decS r) ++ ⟨#[58, 32]⟩) ++ wordsL.getD k.toNat ByteArray.empty else ByteArray.empty
theorem rmS_no1 {r k : Int} (h : inB r 1 3001 = false) : rmS r k = ByteArray.empty := by rw [rmS, if_neg (by rw [h]; simp)]
theorem rmS_no2 {r k : Int} (h : inB k 1 8 = false) : rmS r k = ByteArray.empty := by rw [rmS, if_neg (by rw [h]; simp)]
theorem rmS_yes {r : Int} {k : Nat} {x : ByteArray} (h1 : inB r 1 3001 = true) (h2 : inB (k : Int) 1 8 = true) (hx : wordsL[k]? = some x) : rmS r k = ((⟨#[114, 111, 119, 32]⟩ ++ decS r) ++ ⟨#[58, 32]⟩) ++ x := by
  rw [rmS, if_pos ⟨h1, h2⟩, Int.toNat_natCast, List.getD_eq_getElem?_getD, hx]; rfl

set_option maxHeartbeats 1000000 in
set_option maxRecDepth 100000 in
theorem specRemarkText_any (r k : Int) (w : World) (hr64 : In64 r) (hk64 : In64 k) :
    Calls Tryd.prog 11 #[.agg #[.int .i64 r, .int .i64 k]] w fun e w' => e = .returned (.string (rmS r k)) ∧ Below w.heap.size w w' := by
  have hW0 : Below w.heap.size w (w.alloc (.cells #[.int .i64 r, .int .i64 k] 37)) := below_alloc _ _
  have hW : Below w.heap.size w ((w.alloc (.cells #[.int .i64 r, .int .i64 k] 37)).alloc (.cells #[.string ⟨#[]⟩, .string ⟨#[119, 111, 114, 100]⟩, .string ⟨#[99, 111, 117, 110, 116]⟩, .string ⟨#[110, 97, 109, 101]⟩, .string ⟨#[110, 117, 109, 98, 101, 114]⟩, .string ⟨#[116, 119, 105, 99, 101]⟩, .string ⟨#[110, 111, 110, 101]⟩, .string ⟨#[111, 114, 100, 101, 114]⟩, .string ⟨#[102, 117, 108, 108]⟩] 9)) := hW0.alloc hW0.size _
  have x0 : ((w.alloc (.cells #[.int .i64 r, .int .i64 k] 37)).alloc (.cells #[.string ⟨#[]⟩, .string ⟨#[119, 111, 114, 100]⟩, .string ⟨#[99, 111, 117, 110, 116]⟩, .string ⟨#[110, 97, 109, 101]⟩, .string ⟨#[110, 117, 109, 98, 101, 114]⟩, .string ⟨#[116, 119, 105, 99, 101]⟩, .string ⟨#[110, 111, 110, 101]⟩, .string ⟨#[111, 114, 100, 101, 114]⟩, .string ⟨#[102, 117, 108, 108]⟩] 9)).cell? ⟨w.heap.size, 0, none⟩ = some (.int .i64 r) := cell_al (by simp [go_sem]) _
  have x1 : ((w.alloc (.cells #[.int .i64 r, .int .i64 k] 37)).alloc (.cells #[.string ⟨#[]⟩, .string ⟨#[119, 111, 114, 100]⟩, .string ⟨#[99, 111, 117, 110, 116]⟩, .string ⟨#[110, 97, 109, 101]⟩, .string ⟨#[110, 117, 109, 98, 101, 114]⟩, .string ⟨#[116, 119, 105, 99, 101]⟩, .string ⟨#[110, 111, 110, 101]⟩, .string ⟨#[111, 114, 100, 101, 114]⟩, .string ⟨#[102, 117, 108, 108]⟩] 9)).cell? ⟨w.heap.size, 1, none⟩ = some (.int .i64 k) := cell_al (by simp [go_sem]) _
  have ow : Own ((w.alloc (.cells #[.int .i64 r, .int .i64 k] 37)).alloc (.cells #[.string ⟨#[]⟩, .string ⟨#[119, 111, 114, 100]⟩, .string ⟨#[99, 111, 117, 110, 116]⟩, .string ⟨#[110, 97, 109, 101]⟩, .string ⟨#[110, 117, 109, 98, 101, 114]⟩, .string ⟨#[116, 119, 105, 99, 101]⟩, .string ⟨#[110, 111, 110, 101]⟩, .string ⟨#[111, 114, 100, 101, 114]⟩, .string ⟨#[102, 117, 108, 108]⟩] 9)) w.heap.size 9 1 eS (.slice (some ⟨w.heap.size + 1, 0, none⟩) 9 9) wordsL := by
    have := Own.lit (enc := eS) (k := 1) (w.alloc (.cells #[.int .i64 r, .int .i64 k] 37)) #[.string ⟨#[]⟩, .string ⟨#[119, 111, 114, 100]⟩, .string ⟨#[99, 111, 117, 110, 116]⟩, .string ⟨#[110, 97, 109, 101]⟩, .string ⟨#[110, 117, 109, 98, 101, 114]⟩, .string ⟨#[116, 119, 105, 99, 101]⟩, .string ⟨#[110, 111, 110, 101]⟩, .string ⟨#[111, 114, 100, 101, 114]⟩, .string ⟨#[102, 117, 108, 108]⟩] 9 wordsL 9 (base := w.heap.size) (by simp) rfl (by unfold maxLen; omega) eS_len rfl
    rw [show (w.alloc (.cells #[.int .i64 r, .int .i64 k] 37)).heap.size = w.heap.size + 1 by simp] at this
    exact this
  cases q1 : inB r 1 3001
  · have HS : Hid (rmS r k = ByteArray.empty) := rmS_no1 q1
    clear hr64 hk64
    go_enter Tryd.func11, Tryd.ntmps11
    go_wp2_with fail
    generalize ((w.alloc (.cells #[.int .i64 r, .int .i64 k] 37)).alloc (.cells #[.string ⟨#[]⟩, .string ⟨#[119, 111, 114, 100]⟩, .string ⟨#[99, 111, 117, 110, 116]⟩, .string ⟨#[110, 97, 109, 101]⟩, .string ⟨#[110, 117, 109, 98, 101, 114]⟩, .string ⟨#[116, 119, 105, 99, 101]⟩, .string ⟨#[110, 111, 110, 101]⟩, .string ⟨#[111, 114, 100, 101, 114]⟩, .string ⟨#[102, 117, 108, 108]⟩] 9)) = W0 at hW x0 x1 ow ⊢
    refine (l00In_any _ _ _ _).mono ?_
    rintro e w2 ⟨rfl, rfl⟩
    rw [q1]
    go_wp2_with fail
    go_ret
    exact ⟨by first | (rw [HS.out]; done) | (rw [HS.out]; rfl), hW⟩
  · cases q2 : inB k 1 8
    · have HS : Hid (rmS r k = ByteArray.empty) := rmS_no2 q2
      clear hr64 hk64
      go_enter Tryd.func11, Tryd.ntmps11
      go_wp2_with fail
      generalize ((w.alloc (.cells #[.int .i64 r, .int .i64 k] 37)).alloc (.cells #[.string ⟨#[]⟩, .string ⟨#[119, 111, 114, 100]⟩, .string ⟨#[99, 111, 117, 110, 116]⟩, .string ⟨#[110, 97, 109, 101]⟩, .string ⟨#[110, 117, 109, 98, 101, 114]⟩, .string ⟨#[116, 119, 105, 99, 101]⟩, .string ⟨#[110, 111, 110, 101]⟩, .string ⟨#[111, 114, 100, 101, 114]⟩, .string ⟨#[102, 117, 108, 108]⟩] 9)) = W0 at hW x0 x1 ow ⊢
      refine (l00In_any _ _ _ _).mono ?_
      rintro e w2 ⟨rfl, rfl⟩
      rw [q1]
      go_wp2_with fail
      refine (l00In_any _ _ _ _).mono ?_
      rintro e w2 ⟨rfl, rfl⟩
      rw [q2]
      go_wp2_with fail
      go_ret
      exact ⟨by first | (rw [HS.out]; done) | (rw [HS.out]; rfl), hW⟩
    · have hb := inB_true.1 q2
      obtain ⟨k, rfl⟩ := Int.eq_ofNat_of_zero_le (show 0 ≤ k by omega)
      obtain ⟨x, hx⟩ : ∃ x, wordsL[k]? = some x := ⟨_, List.getElem?_eq_getElem (show k < wordsL.length by have : wordsL.length = 9 := rfl; omega)⟩
      have HS : Hid (rmS r k = ((⟨#[114, 111, 119, 32]⟩ ++ decS r) ++ ⟨#[58, 32]⟩) ++ x) := rmS_yes q1 q2 hx
      have hk0 : (0 : Int) ≤ (k : Int) := by omega
      have hk9 : (k : Int) < 9 := by omega
      have hsz := decS_size hr64
      have hxz : x.size ≤ 6 := wordsL_size hx
      have a1 := fun (w : World) => run_string_add_sum (P := Tryd.prog) w ⟨#[114, 111, 119, 32]⟩ (decS r) (Nat.le_trans (Nat.add_le_add_left hsz _) (by decide))
      have hz2 : ((⟨#[114, 111, 119, 32]⟩ : ByteArray) ++ decS r).size ≤ 25 := by rw [ByteArray.size_append]; exact Nat.add_le_add_left hsz 4
      have a2 := fun (w : World) => run_string_add_sum (P := Tryd.prog) w (⟨#[114, 111, 119, 32]⟩ ++ decS r) ⟨#[58, 32]⟩ (Nat.le_trans (Nat.add_le_add_right hz2 _) (by decide))
      have hz3 : (((⟨#[114, 111, 119, 32]⟩ : ByteArray) ++ decS r) ++ ⟨#[58, 32]⟩).size ≤ 27 := by rw [ByteArray.size_append]; exact Nat.add_le_add_right hz2 2
      have a3 := fun (w : World) => run_string_add_sum (P := Tryd.prog) w ((⟨#[114, 111, 119, 32]⟩ ++ decS r) ++ ⟨#[58, 32]⟩) x (Nat.le_trans (Nat.add_le_add hz3 hxz) (by decide))
      clear hsz hxz hz2 hz3
      go_enter Tryd.func11, Tryd.ntmps11
      go_wp2_with fail
      generalize ((w.alloc (.cells #[.int .i64 r, .int .i64 k] 37)).alloc (.cells #[.string ⟨#[]⟩, .string ⟨#[119, 111, 114, 100]⟩, .string ⟨#[99, 111, 117, 110, 116]⟩, .string ⟨#[110, 97, 109, 101]⟩, .string ⟨#[110, 117, 109, 98, 101, 114]⟩, .string ⟨#[116, 119, 105, 99, 101]⟩, .string ⟨#[110, 111, 110, 101]⟩, .string ⟨#[111, 114, 100, 101, 114]⟩, .string ⟨#[102, 117, 108, 108]⟩] 9)) = W0 at hW x0 x1 ow ⊢
      refine (l00In_any _ _ _ _).mono ?_
      rintro e w2 ⟨rfl, rfl⟩
      rw [q1]
      go_wp2_with fail
      refine (l00In_any _ _ _ _).mono ?_
      rintro e w2 ⟨rfl, rfl⟩
      rw [q2]
      have hc : W0.cell? ⟨w.heap.size + 1, k, none⟩ = some (.string x) := by have := (ow.sl eS_len).getS hx; simpa using this
      clear hx q1 q2
      go_wp2_with fail
      go_region_held3 (fun w' => Below W0.heap.size W0 w' ∧ w'.cell? ⟨w.heap.size, 0, none⟩ = some (.int .i64 r) ∧ w'.cell? ⟨w.heap.size, 1, none⟩ = some (.int .i64 (k : Int)) ∧ w'.cell? ⟨w.heap.size + 1, k, none⟩ = some (.string x))
        (first
          | exact ⟨(Below.refl _ _).drew, x0, x1, hc⟩
          | assumption
          | (obtain ⟨hq1, p0, p1, p2⟩ := (show Below W0.heap.size W0 _ ∧ World.cell? _ ⟨w.heap.size, 0, none⟩ = some (.int .i64 r) ∧ World.cell? _ ⟨w.heap.size, 1, none⟩ = some (.int .i64 (k : Int)) ∧ World.cell? _ ⟨w.heap.size + 1, k, none⟩ = some (.string x) from by assumption)
             exact ⟨below_mid hq1 hbA hq1.size, (hbA.cell (World.block_lt_of_cell? _ _ p0)).trans p0, (hbA.cell (World.block_lt_of_cell? _ _ p1)).trans p1, (hbA.cell (World.block_lt_of_cell? _ _ p2)).trans p2⟩))
        (first
          | (go_at_call 30; refine (l01Dec_any r _ hr64).mono ?_; rintro e wa ⟨rfl, hbA⟩))
      all_goals (
        obtain ⟨hbR, -, -, -⟩ := (show Below W0.heap.size W0 _ ∧ World.cell? _ ⟨w.heap.size, 0, none⟩ = some (.int .i64 r) ∧ World.cell? _ ⟨w.heap.size, 1, none⟩ = some (.int .i64 (k : Int)) ∧ World.cell? _ ⟨w.heap.size + 1, k, none⟩ = some (.string x) from by assumption)
        go_wp2_with fail
        go_ret
        exact ⟨by first | (rw [HS.out]; done) | (rw [HS.out]; rfl), below_mid hW hbR hW.size⟩)

set_option maxHeartbeats 1000000 in
set_option maxRecDepth 100000 in
theorem implRemarkText_any (r k : Int) (w : World) (hr64 : In64 r) (hk64 : In64 k) (hT : Tab w) (hR : ∀ (i : Nat) x, wordsL[i]? = some x → w.cell? ⟨0, i, none⟩ = some (.string x)) :
    Calls Tryd.prog 13 #[.agg #[.int .i64 r, .int .i64 k]] w fun e w' => e = .returned (.string (rmS r k)) ∧ Below w.heap.size w w' := by
  have hW : Below w.heap.size w (w.alloc (.cells #[.int .i64 r, .int .i64 k] 37)) := below_alloc _ _
  have x0 : (w.alloc (.cells #[.int .i64 r, .int .i64 k] 37)).cell? ⟨w.heap.size, 0, none⟩ = some (.int .i64 r) := by simp [go_sem]
  have x1 : (w.alloc (.cells #[.int .i64 r, .int .i64 k] 37)).cell? ⟨w.heap.size, 1, none⟩ = some (.int .i64 k) := by simp [go_sem]
  have hG : ∀ (i : Nat) x, wordsL[i]? = some x → (w.alloc (.cells #[.int .i64 r, .int .i64 k] 37)).cell? ⟨0, i, none⟩ = some (.string x) := fun i x hx => cell_al (hR i x hx) _
  have ht : Tab (w.alloc (.cells #[.int .i64 r, .int .i64 k] 37)) := hT.below hW
  cases q1 : inB r 1 3001
  · have HS : Hid (rmS r k = ByteArray.empty) := rmS_no1 q1
    clear hr64 hk64
    go_enter Tryd.func13, Tryd.ntmps13
    go_wp2_with fail
    generalize (w.alloc (.cells #[.int .i64 r, .int .i64 k] 37)) = W0 at hW x0 x1 hG ht ⊢
    refine (within_any _ _ _ _).mono ?_
    rintro e w2 ⟨rfl, rfl⟩
    rw [q1]
    go_wp2_with fail
    go_ret
    exact ⟨by first | (rw [HS.out]; done) | (rw [HS.out]; rfl), hW⟩
  · cases q2 : inB k 1 8
    · have HS : Hid (rmS r k = ByteArray.empty) := rmS_no2 q2
      clear hr64 hk64
      go_enter Tryd.func13, Tryd.ntmps13
      go_wp2_with fail
      generalize (w.alloc (.cells #[.int .i64 r, .int .i64 k] 37)) = W0 at hW x0 x1 hG ht ⊢
      refine (within_any _ _ _ _).mono ?_
      rintro e w2 ⟨rfl, rfl⟩
      rw [q1]
      go_wp2_with fail
      refine (within_any _ _ _ _).mono ?_
      rintro e w2 ⟨rfl, rfl⟩
      rw [q2]
      go_wp2_with fail
      go_ret
      exact ⟨by first | (rw [HS.out]; done) | (rw [HS.out]; rfl), hW⟩
    · have hb := inB_true.1 q2
      obtain ⟨k, rfl⟩ := Int.eq_ofNat_of_zero_le (show 0 ≤ k by omega)
      obtain ⟨x, hx⟩ : ∃ x, wordsL[k]? = some x := ⟨_, List.getElem?_eq_getElem (show k < wordsL.length by have : wordsL.length = 9 := rfl; omega)⟩
      have HS : Hid (rmS r k = ((⟨#[114, 111, 119, 32]⟩ ++ decS r) ++ ⟨#[58, 32]⟩) ++ x) := rmS_yes q1 q2 hx
      have hk0 : (0 : Int) ≤ (k : Int) := by omega
      have hk9 : (k : Int) < 9 := by omega
      have hsz := decS_size hr64
      have hxz : x.size ≤ 6 := wordsL_size hx
      have a1 := fun (w : World) => run_string_add_sum (P := Tryd.prog) w ⟨#[114, 111, 119, 32]⟩ (decS r) (Nat.le_trans (Nat.add_le_add_left hsz _) (by decide))
      have hz2 : ((⟨#[114, 111, 119, 32]⟩ : ByteArray) ++ decS r).size ≤ 25 := by rw [ByteArray.size_append]; exact Nat.add_le_add_left hsz 4
      have a2 := fun (w : World) => run_string_add_sum (P := Tryd.prog) w (⟨#[114, 111, 119, 32]⟩ ++ decS r) ⟨#[58, 32]⟩ (Nat.le_trans (Nat.add_le_add_right hz2 _) (by decide))
      have hz3 : (((⟨#[114, 111, 119, 32]⟩ : ByteArray) ++ decS r) ++ ⟨#[58, 32]⟩).size ≤ 27 := by rw [ByteArray.size_append]; exact Nat.add_le_add_right hz2 2
      have a3 := fun (w : World) => run_string_add_sum (P := Tryd.prog) w ((⟨#[114, 111, 119, 32]⟩ ++ decS r) ++ ⟨#[58, 32]⟩) x (Nat.le_trans (Nat.add_le_add hz3 hxz) (by decide))
      clear hsz hxz hz2 hz3
      go_enter Tryd.func13, Tryd.ntmps13
      go_wp2_with fail
      generalize (w.alloc (.cells #[.int .i64 r, .int .i64 k] 37)) = W0 at hW x0 x1 hG ht ⊢
      refine (within_any _ _ _ _).mono ?_
      rintro e w2 ⟨rfl, rfl⟩
      rw [q1]
      go_wp2_with fail
      refine (within_any _ _ _ _).mono ?_
      rintro e w2 ⟨rfl, rfl⟩
      rw [q2]
      have hc : W0.cell? ⟨0, k, none⟩ = some (.string x) := hG k x hx
      clear hx q1 q2
      go_wp2_with fail
      go_region_held3 (fun w' => Below W0.heap.size W0 w' ∧ w'.cell? ⟨w.heap.size, 0, none⟩ = some (.int .i64 r) ∧ w'.cell? ⟨w.heap.size, 1, none⟩ = some (.int .i64 (k : Int)) ∧ w'.cell? ⟨0, k, none⟩ = some (.string x))
        (first
          | exact ⟨(Below.refl _ _).drew, x0, x1, hc⟩
          | assumption
          | (obtain ⟨hq1, p0, p1, p2⟩ := (show Below W0.heap.size W0 _ ∧ World.cell? _ ⟨w.heap.size, 0, none⟩ = some (.int .i64 r) ∧ World.cell? _ ⟨w.heap.size, 1, none⟩ = some (.int .i64 (k : Int)) ∧ World.cell? _ ⟨0, k, none⟩ = some (.string x) from by assumption)
             exact ⟨below_mid hq1 hbA hq1.size, (hbA.cell (World.block_lt_of_cell? _ _ p0)).trans p0, (hbA.cell (World.block_lt_of_cell? _ _ p1)).trans p1, (hbA.cell (World.block_lt_of_cell? _ _ p2)).trans p2⟩))
        (first
          | (go_at_call 26; refine (Decimal_any r _ hr64 (ht.below ((show Below W0.heap.size W0 _ ∧ World.cell? _ ⟨w.heap.size, 0, none⟩ = some (.int .i64 r) ∧ World.cell? _ ⟨w.heap.size, 1, none⟩ = some (.int .i64 (k : Int)) ∧ World.cell? _ ⟨0, k, none⟩ = some (.string x) from by assumption).1))).mono ?_; rintro e wa ⟨rfl, hbA⟩))
      all_goals (
        obtain ⟨hbR, -, -, -⟩ := (show Below W0.heap.size W0 _ ∧ World.cell? _ ⟨w.heap.size, 0, none⟩ = some (.int .i64 r) ∧ World.cell? _ ⟨w.heap.size, 1, none⟩ = some (.int .i64 (k : Int)) ∧ World.cell? _ ⟨0, k, none⟩ = some (.string x) from by assumption)
        go_wp2_with fail
        go_ret
        exact ⟨by first | (rw [HS.out]; done) | (rw [HS.out]; rfl), below_mid hW hbR hW.size⟩)

set_option maxHeartbeats 1000000 in
theorem remarkText_walk (r k : Int) (w : World) (hB : In64 r ∧ In64 k) (hT : Tab w) (hR : ∀ (i : Nat) x, wordsL[i]? = some x → w.cell? ⟨0, i, none⟩ = some (.string x)) :
    Calls Tryd.prog 4 #[.agg #[.int .i64 r, .int .i64 k]] w fun e w' => e = .returned (.bool true) ∧ Below w.heap.size w w' := by
  obtain ⟨b0, b1⟩ := hB
  have HB := Lib.hid b0
  have HB1 := Lib.hid b1
  have HR := Lib.hid hR
  clear b0 b1 hR
  have hW := below_alloc w (.cells #[.int .i64 r, .int .i64 k] 35)
  have x0 : (w.alloc (.cells #[.int .i64 r, .int .i64 k] 35)).cell? ⟨w.heap.size, 0, none⟩ = some (.int .i64 r) := by simp [go_sem]
  have x1 : (w.alloc (.cells #[.int .i64 r, .int .i64 k] 35)).cell? ⟨w.heap.size, 1, none⟩ = some (.int .i64 k) := by simp [go_sem]
  go_enter Tryd.func4, Tryd.ntmps4
  go_wp2_with fail
  generalize (w.alloc (.cells #[.int .i64 r, .int .i64 k] 35)) = W0 at hW x0 x1 ⊢
  refine (toRemark_any (r, k) _).mono ?_
  rintro e w2 ⟨rfl, hb2⟩
  replace x0 := (hb2.cell (World.block_lt_of_cell? _ _ x0)).trans x0
  replace x1 := (hb2.cell (World.block_lt_of_cell? _ _ x1)).trans x1
  replace hW := below_step hW hb2
  go_wp2_with fail
  refine (specRemarkText_any r k _ HB.out HB1.out).mono ?_
  rintro e w3 ⟨rfl, hb3⟩
  replace x0 := (hb3.cell (World.block_lt_of_cell? _ _ x0)).trans x0
  replace x1 := (hb3.cell (World.block_lt_of_cell? _ _ x1)).trans x1
  replace hW := below_step hW hb3
  go_wp2_with fail
  refine (toRemark_any (r, k) _).mono ?_
  rintro e w4 ⟨rfl, hb4⟩
  replace hW := below_step hW hb4
  go_wp2_with fail
  refine (implRemarkText_any r k _ HB.out HB1.out (hT.below hW) (fun i x hx => by have h0 := HR.out i x hx; exact (hW.cell (World.block_lt_of_cell? _ _ h0)).trans h0)).mono ?_
  rintro e w5 ⟨rfl, hb5⟩
  have hne : ((rmS r k).toList != (rmS r k).toList) = false := by simp
  go_wp2_with fail
  go_ret
  exact ⟨rfl, below_step hW hb5⟩
end Go.Proofs.YthplfodfilefjaaDoor
