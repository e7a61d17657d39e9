/-
  Numbers in decimal, both sides.
-/
import Derived.Test.YthplfodfilefjaaDoorBByte
import Derived.Test.YthplfodfilefjaaDoorW2
import Derived.Shelf.LaysM
import Derived.Shelf.Strconv.Itoa4
import Derived.Laws.IdiomStrings
import Derived.WalkSmall
import Derived.Test.YthplfodfilefjaaDoorLaM173
namespace Go.Proofs.YthplfodfilefjaaDoor
set_option maxRecDepth 100000
open Go.RowKit Go.Deep Go.Joins Go.WideShapes

/-- a number in decimal -/
def decS (n : Int) : ByteArray := ⟨(Lib.itoa n).toArray⟩
/-- the table of powers of ten lies in the world -/
def Tab (w : World) : Prop := Lib.TabIs Tryd.prog w "internal/strconv.uint64pow10" .u64 Lib.pow10Tab
theorem Tab.below {w w' : World} (h : Tab w) (hb : Below w.heap.size w w') : Tab w' := by
  have hlt : 1 < w.heap.size := World.block_lt_of_cell? _ _ (Lib.TabIs.cell h (by kernel_rfl) 0 (by rw [Lib.pow10Tab_length]; decide))
  exact var?_below hb (by kernel_rfl) hlt h
theorem grow_below (w : World) (k : Nat) (os : Array Obj) : Below w.heap.size w (Sort.grow (w.drewN k) os) :=
  ⟨rfl, rfl, rfl, by simp [Sort.grow], fun k hk => by simp [Sort.grow, Array.getElem?_append, hk]⟩
theorem Decimal_any (n : Int) (w : World) (h : In64 n) (ht : Tab w) :
    Calls Tryd.prog 26 #[.int .i64 n] w fun e w' => e = .returned (.string (decS n)) ∧ Below w.heap.size w w' := by
  go_enter Tryd.func26, Tryd.ntmps26
  go_wp2_with fail
  refine (Any.strconv_FormatInt_10 Tryd.laysM173 n h.1 h.2 _ ht).mono ?_
  rintro e w2 ⟨rfl, k, os, rfl⟩
  go_wp2_with fail
  go_ret
  exact ⟨rfl, grow_below _ _ _⟩

/-- digits, none of 0 -/
def dd (u : Nat) : List UInt8 := if _h : u = 0 then [] else dd (u / 10) ++ [UInt8.ofNat (48 + u % 10)]
termination_by u
decreasing_by omega
theorem dd_zero : dd 0 = [] := by rw [dd, dif_pos rfl]
theorem dd_big {u : Nat} (h : u ≠ 0) : dd u = dd (u / 10) ++ [UInt8.ofNat (48 + u % 10)] := by rw [dd, dif_neg h]
theorem dd_dec (u : Nat) (h : u ≠ 0) : dd u = Lib.decDigits u := by
  induction u using Nat.strongRecOn with
  | _ u ih =>
    rw [dd_big h]
    by_cases h1 : u < 10
    · rw [Lib.decDigits, dif_pos h1, show u / 10 = 0 by omega, dd_zero, Nat.mod_eq_of_lt h1]; rfl
    · rw [Lib.decDigits, dif_neg h1, ih (u / 10) (by omega) (by omega)]
theorem dd_len : ∀ (k u : Nat), u < 10 ^ k → (dd u).length ≤ k
  | 0, u, h => by have : u = 0 := by simpa using h
                  subst this; rw [dd_zero]; exact Nat.le_refl _
  | k + 1, u, h => by
    by_cases h0 : u = 0
    · subst h0; rw [dd_zero]; exact Nat.zero_le _
    · rw [dd_big h0, List.length_append]
      have := dd_len k (u / 10) (by rw [Nat.pow_succ] at h; omega)
      simp; omega
theorem dd_len20 {u : Nat} (h : u ≤ 9223372036854775808) : (dd u).length ≤ 20 := dd_len 20 u (by omega)
theorem dd_ne {u : Nat} (h : u ≠ 0) : dd u ≠ [] := by rw [dd_big h]; simp
theorem dd_step {r n : Nat} {ds : List UInt8} (h : dd r ++ ds = dd n) (hr : r ≠ 0) : dd (r / 10) ++ (UInt8.ofNat (48 + r % 10) :: ds) = dd n := by
  rw [← h, dd_big hr, List.append_assoc]; rfl
theorem dig_nat (r : Nat) : ((UInt8.ofNat (48 + r % 10)).toNat : Int) = 48 + ((r % 10 : Nat) : Int) := by
  have h : r % 10 < 10 := Nat.mod_lt _ (by decide)
  rw [UInt8.toNat_ofNat']
  omega
theorem dig_int {R : Int} (h : 0 ≤ R) : ((UInt8.ofNat (48 + R.toNat % 10)).toNat : Int) = 48 + R % 10 := by
  rw [dig_nat]; omega
theorem dd_stepI {R : Int} {n : Nat} {ds : List UInt8} (h : dd R.toNat ++ ds = dd n) (hr : 0 < R) : dd (R / 10).toNat ++ (UInt8.ofNat (48 + R.toNat % 10) :: ds) = dd n := by
  rw [show (R / 10).toNat = R.toNat / 10 by omega]
  exact dd_step h (by omega)
theorem decS_pos {n : Nat} (h : n ≠ 0) : decS (n : Int) = ⟨(dd n).toArray⟩ := by
  rw [decS, Lib.itoa, if_neg (by omega), dd_dec n h]; rfl
theorem decS_neg {n : Nat} (h : n ≠ 0) : decS (-(n : Int)) = ⟨(45 :: dd n).toArray⟩ := by
  rw [decS, Lib.itoa, if_pos (by omega), dd_dec n h]; simp
theorem decS_zero : decS 0 = ⟨#[48]⟩ := by
  rw [decS, Lib.itoa, if_neg (by omega)]
  show (⟨(Lib.decDigits 0).toArray⟩ : ByteArray) = _
  rw [Lib.decDigits, dif_pos (by decide)]; rfl
theorem wr64' {n : Int} (h : -9223372036854775808 ≤ n ∧ n ≤ 9223372036854775807) : wrap64 n = n := by unfold wrap64; omega
theorem Own.capB {w : World} {base : Nat} {e : TypeId} {k n c : Nat} {α : Type} {enc : α → List Value} {A : Option Addr} {xs : List α} (h : Own w base e k enc (.slice A n c) xs) : A = none → c = 0 := by
  rintro rfl
  rcases h.2 with ⟨h1, _⟩ | ⟨g, cap, cur, hv, _⟩
  · injection h1
  · injection hv with h1; cases h1

set_option maxHeartbeats 1000000 in
set_option maxRecDepth 100000 in
theorem l01Dec_pos (n : Nat) (w : World) (hn : n ≤ 9223372036854775807) :
    Calls Tryd.prog 30 #[.int .i64 (n : Int)] w fun e w' => e = .returned (.string (decS (n : Int))) ∧ Below w.heap.size w w' := by
  obtain ⟨i0, hi0, hz0, hz1, hz2⟩ := info_parts infoU8
  have HN := Lib.hid hn
  clear hn
  go_enter Tryd.func30, Tryd.ntmps30
  go_wp2_with fail
  go_loopw [3, 4] (fun o k wr => ∃ R : Int, ∃ v ds, (0 ≤ R ∧ R ≤ n) ∧ k = .int .i64 R ∧ v = o ∧ Own wr w.heap.size 5 1 eB v ds ∧ Below w.heap.size w wr ∧ Hid (dd R.toNat ++ ds = dd n)) (fun _ k _ => (intOf k).natAbs)
  case atStart => exact ⟨n, _, [], ⟨by omega, by omega⟩, rfl, rfl, Own.lit (enc := eB) (k := 1) w #[] 5 [] 0 (Nat.le_refl _) rfl (by unfold maxLen; omega) eB_len rfl, below_alloc _ _, List.append_nil _⟩
  case round =>
    obtain ⟨R, v, ds, ⟨g0, hR⟩, rfl, rfl, ho, hb, HD⟩ := hrel
    obtain ⟨A, c, rfl, _, _, hA⟩ := ho.val
    have hdl : ds.length ≤ 20 := by
      have q1 := dd_len20 (show n ≤ 9223372036854775808 by have := HN.out; omega)
      rw [← HD.out, List.length_append] at q1; omega
    by_cases h0 : R = 0
    · subst h0
      have HE : Hid (ds = dd n) := by rw [Hid, ← HD.out, show (0 : Int).toNat = 0 from rfl, dd_zero]; rfl
      by_cases hn0 : n = 0
      · subst hn0
        have HL : Hid (ds = []) := by rw [Hid, HE.out, dd_zero]
        have hz : ds.length = 0 := by rw [HL.out]; rfl
        have HS : Hid (decS ((0 : Nat) : Int) = ⟨#[48]⟩) := decS_zero
        go_wp2_with fail
        go_ret
        exact ⟨by first | (rw [HS.out]; done) | (rw [HS.out]; rfl), hb⟩
      · have hne : ds ≠ [] := by rw [HE.out]; exact dd_ne hn0
        have hpos : 0 < ds.length := List.length_pos_iff.2 hne
        obtain ⟨g, rfl, _, _⟩ := hA hpos
        clear hA hne
        have hz : ((ds.length : Int) == 0) = false := by rw [beq_eq_false_iff_ne]; omega
        have hcv := run_convert_bytes_back (P := Tryd.prog) wr 79 9 5 ⟨g, 0, none⟩ c ds Tryd.underlying79 Tryd.underlying5 Tryd.underlying9 (fun j hj => by have := ho.cellB (List.getElem?_eq_getElem hj); rw [add_plain, Nat.zero_add]; exact this)
        have HS : Hid (decS (n : Int) = ⟨ds.toArray⟩) := by rw [Hid, HE.out]; exact decS_pos hn0
        go_wp2_with fail
        go_ret
        exact ⟨by first | (rw [HS.out]; done) | (rw [HS.out]; rfl), hb⟩
    · have g1 : (0 : Int) ≤ R % 10 := by omega
      have g2 : R % 10 ≤ 9 := by omega
      have hgt : (R != 0) = true := by rw [bne_iff_ne]; omega
      have gi : R ≤ 9223372036854775807 := by have := HN.out; omega
      clear hA
      have hst : Own (wr.alloc (.cells #[.int .u8 (48 + R % 10)] 5)) w.heap.size 5 1 eB (.slice (some ⟨wr.heap.size, 0, none⟩) 1 1) [UInt8.ofNat (48 + R.toNat % 10)] := Own.lit wr _ _ [_] 1 hb.size rfl (by simp [maxLen]) eB_len (by simp only [List.flatMap_cons, eB, dig_int g0]; rfl)
      go_wp2_with (at_builtin; refine wpList_appS rfl (.tmp 21) (.tmp 22) 79 5 rfl w.heap.size i0 _ 1 1 Tryd.underlying79 hi0 hz0 hz1 hz2 rfl (by decide) eB eB_len eB_one _ [UInt8.ofNat (48 + R.toNat % 10)] rfl hst A ds.length c ds rfl ho.capB ((ho.sl eB_len).alloc _) (by simp; omega) (by simp [maxLen]; omega) (Nat.le_trans hb.size (below_alloc _ _).size) ?_; intro v9 w9 ho9 hb9 hg9 hn9)
      go_roundw
      case rel => exact ⟨R / 10, v9, _ :: ds, ⟨by omega, by omega⟩, by first | rfl | (congr 1; omega), rfl, ho9, (hb.alloc hb.size _).trans hb9, dd_stepI HD.out (by omega)⟩
      case measure => simp [intOf]; omega

set_option maxHeartbeats 1000000 in
set_option maxRecDepth 100000 in
theorem l01Dec_neg (n : Nat) (w : World) (hn : n ≤ 9223372036854775808) (h1 : 1 ≤ n) :
    Calls Tryd.prog 30 #[.int .i64 (-(n : Int))] w fun e w' => e = .returned (.string (decS (-(n : Int)))) ∧ Below w.heap.size w w' := by
  obtain ⟨i0, hi0, hz0, hz1, hz2⟩ := info_parts infoU8
  have HN := Lib.hid hn
  clear hn
  go_enter Tryd.func30, Tryd.ntmps30
  go_wp2_with fail
  go_loopw [3, 4] (fun o k wr => ∃ R : Int, ∃ v ds, (0 ≤ R ∧ R ≤ n) ∧ k = .int .i64 (-R) ∧ v = o ∧ Own wr w.heap.size 5 1 eB v ds ∧ Below w.heap.size w wr ∧ Hid (dd R.toNat ++ ds = dd n)) (fun _ k _ => (intOf k).natAbs)
  case atStart => exact ⟨n, _, [], ⟨by omega, by omega⟩, rfl, rfl, Own.lit (enc := eB) (k := 1) w #[] 5 [] 0 (Nat.le_refl _) rfl (by unfold maxLen; omega) eB_len rfl, below_alloc _ _, List.append_nil _⟩
  case round =>
    obtain ⟨R, v, ds, ⟨g0, hR⟩, rfl, rfl, ho, hb, HD⟩ := hrel
    obtain ⟨A, c, rfl, _, _, hA⟩ := ho.val
    have hdl : ds.length ≤ 20 := by
      have q1 := dd_len20 (show n ≤ 9223372036854775808 by have := HN.out; omega)
      rw [← HD.out, List.length_append] at q1; omega
    by_cases h0 : R = 0
    · subst h0
      have HE : Hid (ds = dd n) := by rw [Hid, ← HD.out, show (0 : Int).toNat = 0 from rfl, dd_zero]; rfl
      have hne : ds ≠ [] := by rw [HE.out]; exact dd_ne (by omega)
      have hpos : 0 < ds.length := List.length_pos_iff.2 hne
      obtain ⟨g, rfl, _, _⟩ := hA hpos
      clear hA hne
      have hz : ((ds.length : Int) == 0) = false := by rw [beq_eq_false_iff_ne]; omega
      have hcv := run_convert_bytes_back (P := Tryd.prog) wr 79 9 5 ⟨g, 0, none⟩ c ds Tryd.underlying79 Tryd.underlying5 Tryd.underlying9 (fun j hj => by have := ho.cellB (List.getElem?_eq_getElem hj); rw [add_plain, Nat.zero_add]; exact this)
      have hN : Hid (decS (-(n : Int)) = ⟨(45 :: dd n).toArray⟩) := decS_neg (by omega)
      have HS : Hid ((⟨#[45]⟩ : ByteArray) ++ ⟨ds.toArray⟩ = decS (-(n : Int))) := by
        rw [Hid, hN.out, HE.out]; apply ByteArray.ext; rw [ByteArray.data_append]; simp
      go_wp2_with fail
      go_ret
      exact ⟨by rw [← HS.out]; first | done | rfl | simp, hb⟩
    · obtain ⟨d, HD1⟩ : ∃ d : Int, Hid (d = R % 10) := ⟨_, rfl⟩
      have g1 : 0 ≤ d := by rw [HD1.out]; omega
      have g2 : d ≤ 9 := by rw [HD1.out]; omega
      have gi : R ≤ 9223372036854775808 := by have := HN.out; omega
      have hgt : (-R != 0) = true := by rw [bne_iff_ne]; omega
      have e10 : R = 10 * (R / 10) + d := by rw [HD1.out]; omega
      have HQ1 : Hid (-(R / 10) = Int.tdiv (-R) 10) := by rw [Hid, Int.neg_tdiv, Int.tdiv_eq_ediv_of_nonneg g0]
      have t1 : Int.tmod (-R) 10 = -d := by rw [Int.neg_tmod, Int.tmod_eq_emod_of_nonneg g0, HD1.out]
      have t2 : IntKind.i64.wrap (Int.tdiv (-R) 10) = -(R / 10) := by rw [← HQ1.out]; exact wr64 (by omega)
      have t5 : wrap64 (-Int.tdiv R 10) = -(R / 10) := by rw [Int.tdiv_eq_ediv_of_nonneg g0]; exact wr64' (by omega)
      have t4 : IntKind.i64.wrap (-d) = -d := wr64 (by omega)
      have hc : (48 + d).toNat = 48 + R.toNat % 10 := by rw [HD1.out]; omega
      have HC := Lib.hid hc
      clear hA e10 hc
      by_cases hd0 : d = 0
      · subst hd0
        have hst : Own (wr.alloc (.cells #[.int .u8 48] 5)) w.heap.size 5 1 eB (.slice (some ⟨wr.heap.size, 0, none⟩) 1 1) [UInt8.ofNat (48 + R.toNat % 10)] := Own.lit wr _ _ [_] 1 hb.size rfl (by simp [maxLen]) eB_len (by simp only [List.flatMap_cons, eB, dig_int g0, ← HD1.out]; rfl)
        have t3 : Int.tmod (-R) 10 = 0 := by rw [t1]; rfl
        clear t1
        go_wp2_with (at_builtin; refine wpList_appS rfl (.tmp 21) (.tmp 22) 79 5 rfl w.heap.size i0 _ 1 1 Tryd.underlying79 hi0 hz0 hz1 hz2 rfl (by decide) eB eB_len eB_one _ [UInt8.ofNat (48 + R.toNat % 10)] rfl hst A ds.length c ds rfl ho.capB ((ho.sl eB_len).alloc _) (by simp; omega) (by simp [maxLen]; omega) (Nat.le_trans hb.size (below_alloc _ _).size) ?_; intro v9 w9 ho9 hb9 hg9 hn9)
        go_roundw
        case rel => exact ⟨R / 10, v9, _ :: ds, ⟨by omega, by omega⟩, by rw [t5], rfl, ho9, (hb.alloc hb.size _).trans hb9, dd_stepI HD.out (by omega)⟩
        case measure => simp [intOf]; omega
      · have hlt : -d < 0 := by omega
        have hst : Own (wr.alloc (.cells #[.int .u8 (48 + d)] 5)) w.heap.size 5 1 eB (.slice (some ⟨wr.heap.size, 0, none⟩) 1 1) [UInt8.ofNat (48 + R.toNat % 10)] := Own.lit wr _ _ [_] 1 hb.size rfl (by simp [maxLen]) eB_len (by simp only [List.flatMap_cons, eB, dig_int g0, ← HD1.out]; rfl)
        go_wp2_with (at_builtin; refine wpList_appS rfl (.tmp 21) (.tmp 22) 79 5 rfl w.heap.size i0 _ 1 1 Tryd.underlying79 hi0 hz0 hz1 hz2 rfl (by decide) eB eB_len eB_one _ [UInt8.ofNat (48 + R.toNat % 10)] rfl hst A ds.length c ds rfl ho.capB ((ho.sl eB_len).alloc _) (by simp; omega) (by simp [maxLen]; omega) (Nat.le_trans hb.size (below_alloc _ _).size) ?_; intro v9 w9 ho9 hb9 hg9 hn9)
        go_roundw
        case rel => exact ⟨R / 10, v9, _ :: ds, ⟨by omega, by omega⟩, by rw [t5], rfl, ho9, (hb.alloc hb.size _).trans hb9, dd_stepI HD.out (by omega)⟩
        case measure => simp [intOf]; omega

theorem l01Dec_any (n : Int) (w : World) (h : In64 n) :
    Calls Tryd.prog 30 #[.int .i64 n] w fun e w' => e = .returned (.string (decS n)) ∧ Below w.heap.size w w' := by
  unfold In64 at h
  rcases Int.lt_or_le n 0 with h0 | h0
  · obtain ⟨m, rfl⟩ : ∃ m : Nat, n = -(m : Int) := ⟨n.natAbs, by omega⟩
    exact l01Dec_neg m w (by omega) (by omega)
  · obtain ⟨m, rfl⟩ : ∃ m : Nat, n = (m : Int) := ⟨n.toNat, by omega⟩
    exact l01Dec_pos m w (by omega)
theorem decS_size {n : Int} (h : In64 n) : (decS n).size ≤ 21 := by
  unfold In64 at h
  rcases Int.lt_or_le n 0 with h0 | h0
  · obtain ⟨m, rfl⟩ : ∃ m : Nat, n = -(m : Int) := ⟨n.natAbs, by omega⟩
    rw [decS_neg (by omega)]
    have := dd_len20 (u := m) (by omega)
    show (45 :: dd m).toArray.size ≤ 21
    simp; omega
  · obtain ⟨m, rfl⟩ : ∃ m : Nat, n = (m : Int) := ⟨n.toNat, by omega⟩
    by_cases hm : m = 0
    · subst hm
      show (decS 0).size ≤ 21
      rw [decS_zero]; decide
    · rw [decS_pos hm]
      have := dd_len20 (u := m) (by omega)
      show (dd m).toArray.size ≤ 21
      simp; omega
end Go.Proofs.YthplfodfilefjaaDoor
