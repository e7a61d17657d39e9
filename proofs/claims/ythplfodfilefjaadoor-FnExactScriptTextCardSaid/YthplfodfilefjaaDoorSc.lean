/-
  The laws' helpers on scripts: sizes, copies, equality.
-/
import Derived.Test.YthplfodfilefjaaDoorBAct
namespace Go.Proofs.YthplfodfilefjaaDoor
set_option maxRecDepth 100000
open Go.RowKit

/-- what is left of a bound behind sizes; -1 if it is passed -/
def szGo : List Nat → Int → Int
  | [], l => l
  | a :: us, l => if l - (a : Int) < 0 then -1 else szGo us (l - a)
theorem szGo_le {us : List Nat} {l : Int} (h0 : 0 ≤ l) : szGo us l ≤ l ∧ -1 ≤ szGo us l := by
  induction us generalizing l with
  | nil => exact ⟨Int.le_refl _, by simp only [szGo]; omega⟩
  | cons a us ih =>
    rw [szGo]; split
    · omega
    · have := ih (l := l - a) (by omega); omega
theorem szGo_mem {us : List Nat} {l : Int} (h0 : 0 ≤ l) (h : 0 ≤ szGo us l) : ∀ a ∈ us, (a : Int) ≤ l := by
  induction us generalizing l with
  | nil => simp
  | cons a us ih =>
    rw [szGo] at h
    split at h
    · omega
    · intro b hb
      rcases List.mem_cons.1 hb with rfl | hb
      · omega
      · have := ih (l := l - a) (by omega) h b hb; omega
theorem szGo_app {us vs : List Nat} {l : Int} (h : 0 ≤ szGo us l) : szGo (us ++ vs) l = szGo vs (szGo us l) := by
  induction us generalizing l with
  | nil => rfl
  | cons a us ih =>
    rw [szGo] at h
    rw [List.cons_append, szGo, szGo]
    split at h
    · omega
    · rename_i h1; rw [if_neg h1, if_neg h1, ih h]
theorem szGo_no {us vs : List Nat} {l : Int} (h : szGo us l < 0) (h0 : 0 ≤ l) : szGo (us ++ vs) l = -1 := by
  induction us generalizing l with
  | nil => simp only [szGo] at h; omega
  | cons a us ih =>
    rw [szGo] at h
    rw [List.cons_append, szGo]
    split at h
    · rename_i h1; rw [if_pos h1]
    · rename_i h1; rw [if_neg h1, ih h (by omega)]
def szS (n : Nat) (ss : List ByteArray) : List Nat := n :: ss.map (·.size)
def szA1 (x : Int × ByteArray × ByteArray × Int) : List Nat := [x.2.1.size, x.2.2.1.size]
def szA (n : Nat) (xs : List (Int × ByteArray × ByteArray × Int)) : List Nat := n :: xs.flatMap szA1
theorem infoStr : (Tryd.prog.info? 9).map (fun i => (i.zero, i.size, i.bytes)) = some (some (.string .empty), 1, 16) := by kernel_rfl
theorem rowS_set (ys : List ByteArray) (i : Nat) (x : ByteArray) : (ys.flatMap eS).set i (.string x) = (ys.set i x).flatMap eS := by
  induction ys generalizing i with
  | nil => simp
  | cons y ys ih =>
    cases i with
    | zero => simp [List.flatMap_cons, eS]
    | succ i => simp only [List.flatMap_cons, eS, List.set_cons_succ, List.cons_append, List.nil_append]; rw [ih]
theorem Own.setS {w : World} {base : Nat} {e : TypeId} {g n cap : Nat} {ys : List ByteArray} (h : Own w base e 1 eS (.slice (some ⟨g, 0, none⟩) n cap) ys) (i : Nat) (x : ByteArray) :
    Own (w.setCell ⟨g, i, none⟩ (.string x)) base e 1 eS (.slice (some ⟨g, 0, none⟩) n cap) (ys.set i x) := by
  obtain ⟨A, c, hv, _⟩ := h.val
  injection hv with _ hn _
  subst hn
  have h1 := (World.ownsRow.stored h i (.string x)).1
  exact Own.of_row h1 (by simp) (rowS_set ys i x)

theorem szStringS_any (A : Option Addr) (n c : Nat) (ss : List ByteArray) (left : Int) (w : World) (h : Sl w 1 eS A n ss) (h0 : 0 ≤ left) (h1 : left ≤ 1048576) (hn : n ≤ maxLen) (hz : ∀ s ∈ ss, s.size ≤ maxLen) :
    Calls Tryd.prog 19 #[.slice A n c, .int .i64 left] w fun e w' => e = .returned (.int .i64 (szGo (szS n ss) left)) ∧ w = w' := by
  unfold maxLen at hn hz
  by_cases hq : left - (n : Int) < 0
  · have HV : Hid (szGo (szS n ss) left = -1) := by rw [Hid, szS, szGo, if_pos hq]
    go_enter Tryd.func19, Tryd.ntmps19
    go_wp2
    go_ret
    exact ⟨ret_int HV.out.symm, rfl⟩
  · have HV : Hid (szGo (szS n ss) left = szGo ((ss.drop 0).map (·.size)) (left - n)) := by rw [Hid, szS, szGo, if_neg hq]; rfl
    go_enter Tryd.func19, Tryd.ntmps19
    go_wp2
    go_loop [1, 5] (fun l i => ∃ k : Nat, ∃ v : Int, k ≤ n ∧ i = .int .i64 k ∧ l = .int .i64 v ∧ 0 ≤ v ∧ v ≤ 1048576 ∧ Hid (szGo (szS n ss) left = szGo ((ss.drop k).map (·.size)) v)) (fun _ i => n - (intOf i).toNat)
    case atStart => exact ⟨0, left - n, by omega, rfl, rfl, by omega, by omega, HV⟩
    case round =>
      obtain ⟨k, v, hk, rfl, rfl, hv0, hv1, he⟩ := hrel
      by_cases hlt : k < n
      · obtain ⟨b, off, x, rfl, hx, hm, c0⟩ := h.atS hlt
        have hxz := hz x hm
        have hd : ss.drop k = x :: ss.drop (k + 1) := by
          obtain ⟨a1, a2⟩ := List.getElem?_eq_some_iff.1 hx
          rw [List.drop_eq_getElem_cons a1, a2]
        have HE : Hid (szGo (szS n ss) left = if v - (x.size : Int) < 0 then -1 else szGo ((ss.drop (k + 1)).map (·.size)) (v - x.size)) := by
          rw [Hid, he.out, hd, List.map_cons, szGo]
        clear hd hx
        by_cases hq2 : v - (x.size : Int) < 0
        · have HF : Hid (szGo (szS n ss) left = -1) := by rw [Hid, HE.out, if_pos hq2]
          go_wp2
          go_ret
          exact ⟨ret_int HF.out.symm, rfl⟩
        · have HF : Hid (szGo (szS n ss) left = szGo ((ss.drop (k + 1)).map (·.size)) (v - x.size)) := by rw [Hid, HE.out, if_neg hq2]
          go_wp2
          go_round
          case rel => exact ⟨k + 1, v - x.size, by omega, by go_num, rfl, by omega, by omega, HF⟩
          case measure => simp [intOf]; omega
      · have : k = n := by omega
        subst this
        have HL := Lib.hid h.1
        go_wp2
        go_ret
        exact ⟨ret_int (by rw [he.out, List.drop_of_length_le (by rw [HL.out]; exact Nat.le_refl _)]; rfl), rfl⟩

theorem szAct_any (x : Int × ByteArray × ByteArray × Int) (left : Int) (w : World) (h0 : 0 ≤ left) (h1 : left ≤ 1048576) (hz : x.2.1.size ≤ maxLen ∧ x.2.2.1.size ≤ maxLen) :
    Calls Tryd.prog 37 #[.agg #[.int .i64 x.1, .string x.2.1, .string x.2.2.1, .int .i64 x.2.2.2], .int .i64 left] w fun e w' => e = .returned (.int .i64 (szGo (szA1 x) left)) ∧ Below w.heap.size w w' := by
  unfold maxLen at hz
  have HV : Hid (szGo (szA1 x) left = if left - (x.2.1.size : Int) < 0 then -1 else if left - (x.2.1.size : Int) - (x.2.2.1.size : Int) < 0 then -1 else left - (x.2.1.size : Int) - (x.2.2.1.size : Int)) := rfl
  by_cases q1 : left - (x.2.1.size : Int) < 0
  · rw [if_pos q1] at HV
    go_enter Tryd.func37, Tryd.ntmps37
    go_wp2
    go_ret
    exact ⟨ret_int HV.out.symm, below_alloc _ _⟩
  · rw [if_neg q1] at HV
    by_cases q2 : left - (x.2.1.size : Int) - (x.2.2.1.size : Int) < 0
    · rw [if_pos q2] at HV
      go_enter Tryd.func37, Tryd.ntmps37
      go_wp2
      go_ret
      exact ⟨ret_int HV.out.symm, below_alloc _ _⟩
    · rw [if_neg q2] at HV
      go_enter Tryd.func37, Tryd.ntmps37
      go_wp2
      go_ret
      exact ⟨ret_int HV.out.symm, below_alloc _ _⟩

theorem szActS_any (A : Option Addr) (n c : Nat) (xs : List (Int × ByteArray × ByteArray × Int)) (left : Int) (w : World) (h : Sl w 4 eAct A n xs) (h0 : 0 ≤ left) (h1 : left ≤ 1048576) (hn : n ≤ maxLen) (hz : ∀ x ∈ xs, x.2.1.size ≤ maxLen ∧ x.2.2.1.size ≤ maxLen) :
    Calls Tryd.prog 20 #[.slice A n c, .int .i64 left] w fun e w' => e = .returned (.int .i64 (szGo (szA n xs) left)) ∧ Below w.heap.size w w' := by
  have hn' := hn
  unfold maxLen at hn
  by_cases hq : left - (n : Int) < 0
  · have HV : Hid (szGo (szA n xs) left = -1) := by rw [Hid, szA, szGo, if_pos hq]
    go_enter Tryd.func20, Tryd.ntmps20
    go_wp2
    go_ret
    exact ⟨ret_int HV.out.symm, Below.refl _ _⟩
  · have HV : Hid (szGo (szA n xs) left = szGo ((xs.drop 0).flatMap szA1) (left - n)) := by rw [Hid, szA, szGo, if_neg hq]; rfl
    go_enter Tryd.func20, Tryd.ntmps20
    go_wp2
    go_loopw [1, 5] (fun l i wr => ∃ k : Nat, ∃ v : Int, k ≤ n ∧ i = .int .i64 k ∧ l = .int .i64 v ∧ 0 ≤ v ∧ v ≤ 1048576 ∧ Hid (szGo (szA n xs) left = szGo ((xs.drop k).flatMap szA1) v) ∧ Below w.heap.size w wr) (fun _ i _ => n - (intOf i).toNat)
    case atStart => exact ⟨0, left - n, by omega, rfl, rfl, by omega, by omega, HV, Below.refl _ _⟩
    case round =>
      obtain ⟨k, v, hk, rfl, rfl, hv0, hv1, he, hb⟩ := hrel
      by_cases hlt : k < n
      · obtain ⟨b, off, x, rfl, hx, hm, c0, c1, c2, c3⟩ := (h.below hb).atAct hlt
        have hxz := hz x hm
        have hd : xs.drop k = x :: xs.drop (k + 1) := by
          obtain ⟨a1, a2⟩ := List.getElem?_eq_some_iff.1 hx
          rw [List.drop_eq_getElem_cons a1, a2]
        have HD := Lib.hid hd
        have hle := szGo_le (us := szA1 x) hv0
        clear hd hx
        by_cases hq2 : szGo (szA1 x) v < 0
        · have HF : Hid (szGo (szA n xs) left = -1) := by rw [Hid, he.out, HD.out, List.flatMap_cons, szGo_no hq2 hv0]
          have hq3 : szGo (szA1 x) v = -1 := by omega
          go_wp2_with fail
          refine (szAct_any x v _ hv0 hv1 hxz).mono ?_
          rintro e w3 ⟨rfl, hb3⟩
          rw [hq3]
          go_wp2_with fail
          go_ret
          exact ⟨ret_int HF.out.symm, below_mid hb hb3 hb.size⟩
        · have HF : Hid (szGo (szA n xs) left = szGo ((xs.drop (k + 1)).flatMap szA1) (szGo (szA1 x) v)) := by rw [Hid, he.out, HD.out, List.flatMap_cons, szGo_app (by omega)]
          go_wp2_with fail
          refine (szAct_any x v _ hv0 hv1 hxz).mono ?_
          rintro e w3 ⟨rfl, hb3⟩
          generalize szGo (szA1 x) v = v2 at HF hle hq2 ⊢
          go_wp2_with fail
          go_roundw
          case rel => exact ⟨k + 1, v2, by omega, by go_num, rfl, by omega, by omega, HF, below_mid hb hb3 hb.size⟩
          case measure => simp [intOf]; omega
      · have : k = n := by omega
        subst this
        have HL := Lib.hid h.1
        go_wp2
        go_ret
        exact ⟨ret_int (by rw [he.out, List.drop_of_length_le (by rw [HL.out]; exact Nat.le_refl _)]; rfl), hb⟩

/-- a script's sizes -/
def szC (n m : Nat) (ss : List ByteArray) (xs : List (Int × ByteArray × ByteArray × Int)) : List Nat := szS n ss ++ szA m xs
theorem szScript_any (A : Option Addr) (n c : Nat) (ss : List ByteArray) (B : Option Addr) (m d : Nat) (xs : List (Int × ByteArray × ByteArray × Int)) (left : Int) (w : World) (h : Sl w 1 eS A n ss) (h2 : Sl w 4 eAct B m xs) (h0 : 0 ≤ left) (h1 : left ≤ 1048576) (hn : n ≤ maxLen) (hm : m ≤ maxLen) (hz : ∀ s ∈ ss, s.size ≤ maxLen) (hz2 : ∀ x ∈ xs, x.2.1.size ≤ maxLen ∧ x.2.2.1.size ≤ maxLen) :
    Calls Tryd.prog 6 #[.agg #[.slice A n c, .slice B m d], .int .i64 left] w fun e w' => e = .returned (.int .i64 (szGo (szC n m ss xs) left)) ∧ Below w.heap.size w w' := by
  have hW := below_alloc w (.cells #[.slice A n c, .slice B m d] 25)
  have c0 : (w.alloc (.cells #[.slice A n c, .slice B m d] 25)).cell? ⟨w.heap.size, 0, none⟩ = some (.slice A n c) := by simp [go_sem]
  have c1 : (w.alloc (.cells #[.slice A n c, .slice B m d] 25)).cell? ⟨w.heap.size, 1, none⟩ = some (.slice B m d) := by simp [go_sem]
  have hle := szGo_le (us := szS n ss) h0
  by_cases hq : szGo (szS n ss) left < 0
  · have HF : Hid (szGo (szC n m ss xs) left = -1) := szGo_no hq h0
    have hq3 : szGo (szS n ss) left = -1 := by omega
    go_enter Tryd.func6, Tryd.ntmps6
    go_wp2_with fail
    generalize w.alloc (.cells #[.slice A n c, .slice B m d] 25) = W1 at hW c0 c1 ⊢
    refine (szStringS_any A n c ss left _ (h.below hW) h0 h1 hn hz).mono ?_
    rintro e w2 ⟨rfl, rfl⟩
    rw [hq3]
    go_wp2_with fail
    go_ret
    exact ⟨ret_int HF.out.symm, hW⟩
  · have HF : Hid (szGo (szC n m ss xs) left = szGo (szA m xs) (szGo (szS n ss) left)) := szGo_app (by omega)
    go_enter Tryd.func6, Tryd.ntmps6
    go_wp2_with fail
    generalize w.alloc (.cells #[.slice A n c, .slice B m d] 25) = W1 at hW c0 c1 ⊢
    refine (szStringS_any A n c ss left _ (h.below hW) h0 h1 hn hz).mono ?_
    rintro e w2 ⟨rfl, rfl⟩
    generalize szGo (szS n ss) left = v at HF hle hq ⊢
    go_wp2_with fail
    refine (szActS_any B m d xs v _ (h2.below hW) (by omega) (by omega) hm hz2).mono ?_
    rintro e w3 ⟨rfl, hb3⟩
    have hle2 := szGo_le (us := szA m xs) (l := v) (by omega)
    generalize szGo (szA m xs) v = v2 at HF hle2 ⊢
    have hbb := below_step hW hb3
    by_cases hq2 : v2 < 0
    · have : v2 = -1 := by omega
      subst this
      go_wp2_with fail
      go_ret
      exact ⟨ret_int HF.out.symm, hbb⟩
    · go_wp2_with fail
      go_ret
      exact ⟨ret_int HF.out.symm, hbb⟩

set_option maxHeartbeats 400000 in
theorem toStringS_any (A : Option Addr) (n c : Nat) (xs : List ByteArray) (w : World) (h : Sl w 1 eS A n xs) (hn : n ≤ 1048576) :
    Calls Tryd.prog 23 #[.slice A n c] w fun e w' => e = .returned (.slice (some ⟨w.heap.size, 0, none⟩) n n) ∧ Own w' w.heap.size 9 1 eS (.slice (some ⟨w.heap.size, 0, none⟩) n n) xs ∧ Below w.heap.size w w' := by
  obtain ⟨i0, hi0, hz0, hz1, hz2⟩ := info_parts infoStr
  go_enter Tryd.func23, Tryd.ntmps23
  go_wp2_with (with_reducible refine wpList_make_full _ rfl (.tmp 6) (.tmp 6) 22 rfl w.heap.size 9 i0 _ 1 Tryd.underlying22 hi0 hz0 hz1 .i64 .i64 n n n rfl rfl rfl rfl (by rw [hz2]; omega) (by unfold maxLen; omega) (Nat.le_refl _) ?_; intro w1 hown1 hg1)
  have ho1 : Own w1 w.heap.size 9 1 eS (.slice (some ⟨w.heap.size, 0, none⟩) n n) (mixK ByteArray.empty xs n 0) :=
    Own.of_row hown1 (by rw [mixK_zero]; simp) (by rw [mixK_zero]; exact madeK eS_len (by omega) ByteArray.empty n)
  have hb1 : Below w.heap.size w w1 := (Below.refl _ _).grown hg1 (Nat.le_refl _) (by simp)
  go_loopw [4] (fun i wr => ∃ k : Nat, k ≤ n ∧ i = .int .i64 k ∧ Own wr w.heap.size 9 1 eS (.slice (some ⟨w.heap.size, 0, none⟩) n n) (mixK ByteArray.empty xs n k) ∧ Below w.heap.size w wr) (fun i _ => n - (intOf i).toNat)
  case atStart => exact ⟨0, by omega, rfl, ho1, hb1⟩
  case round =>
    obtain ⟨k, hk, rfl, ho, hb⟩ := hrel
    by_cases hlt : k < n
    · obtain ⟨b, off, x, rfl, hx, _, c0⟩ := (h.below hb).atS hlt
      have d0 : wr.cell? ⟨w.heap.size, k, none⟩ = some (.string .empty) := by simpa using ho.cell eS_len (mixK_get _ h.1 hlt) (j := 0) rfl
      have g0 := ho.free k
      go_wp2
      go_roundw
      case rel => exact ⟨k + 1, by omega, by go_num, by rw [← mixK_set _ h.1 hx]; exact ho.setS k x, hb.setCell (by simp) _⟩
      case measure => simp [intOf]; omega
    · go_wp2
      go_ret
      have : k = n := by omega
      subst this
      refine ⟨rfl, ?_, hb⟩
      rw [mixK_all _ _ _ h.1] at ho
      exact ho

theorem eqStringS_any (A : Option Addr) (n c : Nat) (xs : List ByteArray) (B : Option Addr) (m d : Nat) (ys : List ByteArray) (w : World) (h : Sl w 1 eS A n xs) (hn : n ≤ 1048577) (h' : Sl w 1 eS B m ys) (hm : m ≤ 1048577) :
    Calls Tryd.prog 27 #[.slice A n c, .slice B m d] w fun e w' => e = .returned (.bool (decide (xs = ys))) ∧ Below w.heap.size w w' := by
  by_cases hnm : n = m
  · subst hnm
    go_enter Tryd.func27, Tryd.ntmps27
    go_wp2
    go_loopw [5] (fun i wr => ∃ k : Nat, k ≤ n ∧ i = .int .i64 k ∧ Hid (xs.take k = ys.take k) ∧ Below w.heap.size w wr) (fun i _ => n - (intOf i).toNat)
    case atStart => exact ⟨0, by omega, rfl, by simp [Hid], Below.refl _ _⟩
    case round =>
      obtain ⟨k, hk, rfl, he, hb⟩ := hrel
      by_cases hlt : k < n
      · obtain ⟨b, off, x, rfl, hx, _, c0⟩ := (h.below hb).atS hlt
        obtain ⟨b', off', y, rfl, hy, _, d0⟩ := (h'.below hb).atS hlt
        cases q1 : (x.toList == y.toList)
        · go_wp2_with fail
          go_quiet (fail)
          go_wp2_with fail
          go_ret
          exact ⟨ret_bool (by have := ne_of_get hx hy (by rw [str_eq] at q1; simpa using q1); simp [this]), below_drewN hb _⟩
        · go_wp2_with fail
          go_quiet (fail)
          go_wp2_with fail
          go_roundw
          case rel => exact ⟨k + 1, by omega, by go_num, take_eq_step he.out hx hy (by rw [str_eq] at q1; simpa using q1), below_drewN hb _⟩
          case measure => simp [intOf]; omega
      · go_wp2
        go_ret
        have : k = n := by omega
        subst this
        exact ⟨ret_bool (by have := eq_of_take he.out h.1 h'.1; simp [this]), hb⟩
  · have hne : xs ≠ ys := fun e => hnm (by rw [← h.1, ← h'.1, e])
    have H := Lib.hid hne; clear hne
    go_enter Tryd.func27, Tryd.ntmps27
    go_wp2
    go_ret
    exact ⟨ret_bool (by simp [H.out]), Below.refl _ _⟩

end Go.Proofs.YthplfodfilefjaaDoor
