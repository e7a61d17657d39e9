/-
  Texts split: the program.
-/
import Derived.Test.YtcfbnlkkoifiiaaDoorRs
import Derived.Shelf.Strings.SplitShaped
import Derived.Shelf.SlicesE.DeleteFunc
import Derived.Ground.SlgfProg
import Derived.Test.YtcfbnlkkoifiiaaDoorLaM146
import Derived.Test.YtcfbnlkkoifiiaaDoorLaDf
namespace Go.Proofs.YtcfbnlkkoifiiaaDoor
set_option maxRecDepth 100000
open Go.RowKit

/-- the longest text that bytealg searches lies in the world -/
def Mx (w : World) : Prop := ∃ m, w.cell? ⟨0, 0, none⟩ = some (.int .i64 m)
theorem Mx.below {w w' : World} (h : Mx w) (hb : Below w.heap.size w w') : Mx w' := by
  obtain ⟨m, c⟩ := h
  exact ⟨m, (hb.cell (World.block_lt_of_cell? _ _ c)).trans c⟩
theorem map_flat (l : List ByteArray) : l.map Value.string = l.flatMap eS := by
  induction l with
  | nil => rfl
  | cons x l ih => rw [List.map_cons, List.flatMap_cons, ih]; rfl
theorem Split_any (c : UInt8) (s : ByteArray) (w : World) (hs : s.size ≤ 1048577) (hM : Mx w) :
    Calls Tryd.prog 15 #[.string s, .string ⟨#[c]⟩] w (RetOwn 9 1 eS (splitS c s) w) := by
  obtain ⟨m, hm⟩ := hM
  have hcon := Any.strings_Split { Tryd.laysM146 with } Tryd.laysM146.i9 s ⟨#[c]⟩ m w (by omega) hm (Nat.le_refl _)
  refine Calls.mono hcon ?_
  rintro e w' ⟨rfl, rfl⟩
  have hlen := Lib.splitB_all ⟨#[c]⟩ (Nat.le_refl _) 0 _ s rfl
  rw [splitB_eq] at hlen ⊢
  rw [← hlen]
  refine RetOwn.mk (Own.lit w _ _ _ _ (Nat.le_refl _) rfl (by have := splitS_len c s; unfold maxLen; omega) eS_len (map_flat _)) (below_alloc _ _)
theorem empty_gives (x : ByteArray) (W : World) : FnGives Tryd.prog 45 #[] #[.string x] (.bool (decide (x.size = 0))) W := by
  show Calls Tryd.prog 45 #[.string x] W _
  go_enter Tryd.func45, Tryd.ntmps45
  go_wp2
  go_ret
  refine ⟨ret_bool ?_, 0, rfl⟩
  rw [Lib.toList_data]
  have h1 : x.size = x.data.toList.length := by simp
  rw [h1]
  cases x.data.toList with
  | nil => rfl
  | cons c l => simp
theorem splitS_pos (c : UInt8) (s : ByteArray) : 0 < (splitS c s).length := by
  rw [splitS, List.length_map]
  exact List.length_pos_iff.2 (splitL_ne c _)
set_option maxHeartbeats 1000000 in
theorem SplitWords_any (s : ByteArray) (w : World) (hs : s.size ≤ 1048577) (hM : Mx w) :
    Calls Tryd.prog 29 #[.string s] w fun e w' => ∃ A n c, e = .returned (.slice A n c) ∧ Sl w' 1 eS A n (wordsS s) ∧ Below w.heap.size w w' := by
  have eg : ∀ args w, (callFunc 45 args).run Tryd.prog w = .ok (.enter 45 args) w := enters_of Tryd.func45 (by kernel_rfl) rfl
  go_enter Tryd.func29, Tryd.ntmps29
  go_wp2_with fail
  refine (Split_any 32 s _ hs hM).mono ?_
  rintro e w2 ⟨A, n, c, rfl, ho, hb⟩
  have hpos := splitS_pos 32 s
  have hn : (splitS 32 s).length = n := (ho.sl eS_len).1
  have hlen := splitS_len 32 s
  obtain ⟨_, _, hv, hnc, _, _⟩ := ho.val
  injection hv with e1 e2 hv
  clear e1 e2
  subst hv
  obtain ⟨g, rfl⟩ : ∃ g, A = some ⟨g, 0, none⟩ := by
    rcases ho.form with ⟨_, h, _⟩ | h
    · omega
    · exact h
  obtain ⟨g1, g2⟩ := ho.blt
  have hH : Sort.Holds Value.string w2 g 0 (splitS 32 s).toArray := fun j hj => by
    have hj' : j < (splitS 32 s).length := by simpa using hj
    have h1 := ho.cell eS_len (List.getElem?_eq_getElem hj') (j := 0) (u := .string (splitS 32 s)[j]) rfl
    rw [Nat.mul_one, Nat.add_zero] at h1
    rw [Nat.zero_add]
    exact ⟨by rw [h1]; simp [hj'], ho.free j⟩
  have hcon := AnyE.slices_DeleteFunc Tryd.laidDeleteFunc Value.string (fun _ => rfl) (fun x => decide (x.size = 0)) 45 #[] eg ByteArray.empty Tryd.zeroValue9 g 0 c (splitS 32 s).toArray w2
    (fun W x _ => empty_gives x W) (fun n os dk x _ => empty_gives x _) hH (by rw [List.size_toArray]; omega) (by rw [List.size_toArray]; exact hnc)
  rw [List.size_toArray, hn] at hcon
  change Calls Tryd.prog 44 _ _ _ at hcon
  have hF : ((splitS 32 s).toArray.toList.filter fun x => !decide (x.size = 0)) = wordsS s := by
    rw [wordsS]
    congr 1
    funext x
    by_cases h : x.size = 0 <;> simp [h]
  rw [hF] at hcon
  generalize hwd : wordsS s = wd at hcon
  have HCON := Lib.hid hcon
  have HN := Lib.hid hn
  have HLN := Lib.hid hlen
  have HPO := Lib.hid hpos
  have HWD := Lib.hid hwd
  clear hwd
  clear hcon hH eg hn hlen hpos
  go_wp2_with fail
  refine HCON.out.mono ?_
  rintro e w3 ⟨rfl, q, hw3⟩
  have HW := Lib.hid hw3
  clear hw3 HCON
  go_wp2_with fail
  go_ret
  have hw3 := HW.out
  have hn := HN.out
  have hlen := HLN.out
  have hpos := HPO.out
  have hwd := HWD.out
  clear HW
  have hwl : wd.length ≤ n := by rw [← hn, ← hwd]; exact List.length_filter_le _ _
  have hds : (wd ++ List.replicate (n - (wd).length) ByteArray.empty).toArray.size = (splitS 32 s).toArray.size := by simp; omega
  have hz : (splitS 32 s).toArray.size = n := by rw [List.size_toArray, hn]

  have hH2 : Sort.Holds Value.string (Sort.ahead w2 q) g 0 (splitS 32 s).toArray := fun j hj => by
    have hj' : j < (splitS 32 s).length := by simpa using hj
    have h1 := ho.cell eS_len (List.getElem?_eq_getElem hj') (j := 0) (u := .string (splitS 32 s)[j]) rfl
    rw [Nat.mul_one, Nat.add_zero] at h1
    rw [Nat.zero_add]
    refine ⟨?_, ho.free j⟩
    show w2.cell? _ = _
    rw [h1]
    simp [hj']
  have hsz : w3.heap.size = w2.heap.size := by rw [hw3]; simp [Sort.putRow, Sort.mapBlock, Sort.ahead]
  rw [hwd]
  refine ⟨_, _, _, rfl, ⟨rfl, fun _ => ⟨g, 0, rfl, by omega, fun i x hx j u hu => ?_⟩⟩, hb.trans ?_⟩
  · have hi : i < (wd).length := (List.getElem?_eq_some_iff.1 hx).1
    obtain ⟨rfl, rfl⟩ : j = 0 ∧ u = .string x := by
      cases j with
      | zero => exact ⟨rfl, by simpa [eS] using hu.symm⟩
      | succ j => simp [eS] at hu
    rw [Nat.mul_one, Nat.add_zero, hw3, Sort.cell?_putRow Value.string _ g 0 (splitS 32 s).toArray _ hH2 hds i (by rw [hds, hz]; omega)]
    have : (wd ++ List.replicate (n - (wd).length) ByteArray.empty).toArray[i]! = x := by
      rw [getElem!_pos _ i (by rw [hds, hz]; omega)]
      have h2 : (wd ++ List.replicate (n - (wd).length) ByteArray.empty)[i]? = some x := by rw [List.getElem?_append_left hi]; exact hx
      obtain ⟨_, h3⟩ := List.getElem?_eq_some_iff.1 h2
      simpa using h3
    rw [this]
  · rw [hw3]
    refine ⟨rfl, rfl, rfl, ?_, fun k hk => ?_⟩
    · show _ ≤ (Sort.putRow _ _ _ _ _).heap.size
      simp [Sort.putRow, Sort.mapBlock, Sort.ahead]
    · have hne : g ≠ k := by omega
      simp [Sort.putRow, Sort.mapBlock, Sort.ahead, Array.getElem?_modify, hne]
end Go.Proofs.YtcfbnlkkoifiiaaDoor
