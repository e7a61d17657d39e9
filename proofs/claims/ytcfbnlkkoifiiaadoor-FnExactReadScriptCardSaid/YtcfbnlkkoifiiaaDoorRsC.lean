/-
  Words of the reference; what a row adds, in plain mathematics.
-/
import Derived.Test.YtcfbnlkkoifiiaaDoorRsB
import Derived.Test.YtcfbnlkkoifiiaaDoorEdH
namespace Go.Proofs.YtcfbnlkkoifiiaaDoor
set_option maxRecDepth 100000
open Go.RowKit

theorem filt_step {xs : List ByteArray} {k : Nat} {x : ByteArray} (h : xs[k]? = some x) : (xs.take (k + 1)).filter (fun p => decide (p.size ≠ 0)) = (xs.take k).filter (fun p => decide (p.size ≠ 0)) ++ if x.size ≠ 0 then [x] else [] := by
  rw [List.take_add_one, h, Option.toList_some, List.filter_append]
  congr 1
  by_cases h : x.size ≠ 0
  · rw [if_pos h, List.filter_cons, if_pos (show decide (x.size ≠ 0) = true from decide_eq_true h)]; rfl
  · rw [if_neg h, List.filter_cons, if_neg (show ¬ decide (x.size ≠ 0) = true from by rw [decide_eq_true_eq]; exact h)]; rfl
theorem size_list (x : ByteArray) : x.toList = [] ↔ x.size = 0 := by
  rw [Lib.toList_data]
  have h1 : x.size = x.data.toList.length := by simp
  rw [h1]
  exact List.length_eq_zero_iff.symm
theorem specSplitWords_any (s : ByteArray) (w : World) (hs : s.size ≤ 1048577) :
    Calls Tryd.prog 24 #[.string s] w fun e w' => ∃ A n c, e = .returned (.slice A n c) ∧ Sl w' 1 eS A n (wordsS s) ∧ Below w.heap.size w w' := by
  obtain ⟨i0, hi0, hz0, hz1, hz2⟩ := info_parts infoStr
  go_enter Tryd.func24, Tryd.ntmps24
  go_wp2_with fail
  refine (l01Split_any 32 s _ hs).mono ?_
  rintro e w2 ⟨A, n, c, rfl, ho, hb⟩
  have hSl := ho.sl eS_len
  have hn : n ≤ 1048578 := by rw [← hSl.1]; exact Nat.le_trans (splitS_len 32 s) (by omega)
  have hst : Hid (Own (w2.alloc (.cells #[] 9)) w2.heap.size 9 1 eS (.slice (some ⟨w2.heap.size, 0, none⟩) 0 0) ([] : List ByteArray)) := Own.lit w2 _ _ [] 0 (Nat.le_refl _) rfl (by simp [maxLen]) eS_len rfl
  have hS0 : Hid (Sl w2 1 eS A n (splitS 32 s)) := hSl
  have HLN : Hid ((splitS 32 s).length = n) := hSl.1
  clear ho hSl
  go_wp2
  go_loopw [4, 5] (fun v4 v5 wr => ∃ k : Nat, k ≤ n ∧ v5 = .int .i64 k ∧ Own wr w2.heap.size 9 1 eS v4 (((splitS 32 s).take k).filter fun p => decide (p.size ≠ 0)) ∧ Below w2.heap.size w2 wr) (fun _ v _ => n - (intOf v).toNat)
  case atStart => exact ⟨0, by omega, rfl, hst.out, below_alloc _ _⟩
  case round =>
    obtain ⟨k, hk, rfl, ho, hbr⟩ := hrel
    by_cases hlt : k < n
    · obtain ⟨b, off, x, rfl, hx, _, d0⟩ := (hS0.out.below hbr).atS hlt
      have hf := filt_step hx
      by_cases hz : x.size = 0
      · have hq : x.toList = [] := (size_list x).2 hz
        have hq1 : x.toList.isEmpty = true := by rw [hq]; rfl
        rw [if_neg (by omega), List.append_nil] at hf
        have HF := Lib.hid hf
        clear hf hx
        go_wp2_with fail
        go_roundw
        case rel => exact ⟨k + 1, by omega, by go_num, by rw [HF.out]; exact ho, hbr⟩
        case measure => simp [intOf]; omega
      · have hq : ¬ x.toList = [] := fun e => hz ((size_list x).1 e)
        have hq1 : x.toList.isEmpty = false := by simpa using hq
        rw [if_pos hz] at hf
        have HF := Lib.hid hf
        have hlen : (((splitS 32 s).take k).filter fun p => decide (p.size ≠ 0)).length ≤ k := Nat.le_trans (List.length_filter_le _ _) (by rw [List.length_take]; omega)
        generalize ((splitS 32 s).take k).filter (fun p => decide (p.size ≠ 0)) = done at HF ho hlen
        clear hf hx
        obtain ⟨A4, c4, rfl, _, _, _⟩ := ho.val
        go_wp2_with (at_builtin; refine wpList_app1x rfl (.tmp 20) (.tmp 25) 22 9 rfl w2.heap.size i0 _ 1 16 Tryd.underlying22 hi0 hz0 hz1 hz2 rfl (by decide) eS eS_len eS_one _ done rfl (ho.alloc _) x _ _ rfl (newcell _ _ _ _ rfl) (by omega) (by unfold maxLen; omega) (Nat.le_trans hbr.size (below_alloc _ _).size) ?_; intro v9 w9 ho9 hb9 _ _)
        go_roundw
        case rel => exact ⟨k + 1, by omega, by go_num, by rw [HF.out]; exact ho9, (hbr.alloc hbr.size _).trans hb9⟩
        case measure => simp [intOf]; omega
    · obtain rfl : k = n := by omega
      have HW : Hid (((splitS 32 s).take k).filter (fun p => decide (p.size ≠ 0)) = wordsS s) := by rw [Hid, List.take_of_length_le (by rw [HLN.out]; exact Nat.le_refl _)]; rfl
      rw [HW.out] at ho
      obtain ⟨A4, c4, rfl, _, _, _⟩ := ho.val
      go_wp2_with fail
      go_ret
      exact ⟨_, _, _, rfl, ho.sl eS_len, below_step hb hbr⟩

/-- a word of a row -/
def wdG (wd : List ByteArray) (i : Nat) : ByteArray := wd.getD i ByteArray.empty
def sldB (wd : List ByteArray) : Bool := (wdG wd 0).toList == [115, 108, 105, 100, 101]
def atWB (wd : List ByteArray) : Bool := (wdG wd 0).toList == [97, 116]
def remB (wd : List ByteArray) : Bool := decide ((wdG wd 0).data.toList.head? = some 59)
def trnB (wd : List ByteArray) : Bool := (wdG wd 2).toList == [116, 117, 114, 110]
/-- the act of a row -/
noncomputable def actW (wd : List ByteArray) : AX := ((numF (wdG wd 1)).1, wdG wd 2, wdG wd 3, if wd.length = 5 then (numF (wdG wd 4)).1 else 0)
open Classical in
/-- what a row of words adds, and the kind of a remark -/
noncomputable def rowF (ss : List ByteArray) (xs : List AX) (wd : List ByteArray) : List ByteArray × List AX × Int :=
  if wd.length = 0 ∨ remB wd = true then (ss, xs, 0)
  else if sldB wd = true then (if wd.length = 2 then (slNext ss (wdG wd 1), xs, slCode ss (wdG wd 1)) else (ss, xs, 2))
  else if atWB wd = false then (ss, xs, 1)
  else if ¬ (wd.length = 4 ∧ trnB wd = false ∨ wd.length = 5 ∧ trnB wd = true) then (ss, xs, 2)
  else if (numF (wdG wd 1)).2 = false ∨ wd.length = 5 ∧ (numF (wdG wd 4)).2 = false then (ss, xs, 4)
  else (ss, acNext ss xs (actW wd), acCode ss xs (actW wd))
theorem Sl.word {w : World} {A : Option Addr} {n : Nat} {wd : List ByteArray} (h : Sl w 1 eS A n wd) (hn : 0 < n) : ∃ b off, A = some ⟨b, off, none⟩ ∧ ∀ i, i < n → w.cell? ⟨b, off + i, none⟩ = some (.string (wdG wd i)) := by
  obtain ⟨b, off, e, _, hc⟩ := h.2 hn
  refine ⟨b, off, e, fun i hi => ?_⟩
  have hx : wd[i]? = some (wdG wd i) := by
    rw [wdG, List.getD_eq_getElem?_getD, List.getElem?_eq_getElem (by rw [h.1]; exact hi)]
    rfl
  have := hc i _ hx 0 _ rfl
  rwa [Nat.mul_one, Nat.add_zero] at this
theorem wdG_mem {s : ByteArray} {i : Nat} (h : i < (wordsS s).length) : (wdG (wordsS s) i).size ≤ s.size ∧ (wdG (wordsS s) i).size ≠ 0 := by
  refine wordsS_size (s := s) ?_
  rw [wdG, List.getD_eq_getElem?_getD, List.getElem?_eq_getElem h]
  exact List.getElem_mem h
theorem rem_at {wd : List ByteArray} (h : 0 < (wdG wd 0).size) : ((((wdG wd 0)[0]'h).toNat : Int) == 59) = remB wd := by
  have h1 : (wdG wd 0).data.toList[0]? = some ((wdG wd 0)[0]'h) := by simp [h]; rfl
  have h2 : (wdG wd 0).data.toList.head? = some ((wdG wd 0)[0]'h) := by rw [List.head?_eq_getElem?]; exact h1
  rw [remB, h2]
  by_cases e : (wdG wd 0)[0]'h = 59
  · rw [e]; rfl
  · have e2 : ((wdG wd 0)[0]'h).toNat ≠ 59 := fun h => e (UInt8.toNat_inj.1 h)
    simp [e]
    omega
end Go.Proofs.YtcfbnlkkoifiiaaDoor
