/-
  The different slides of a showing.
-/
import Derived.Test.YtcfbnlkkoifiiaaQsH
import Derived.Test.YtcfbnlkkoifiiaaLdB
import Derived.Shelf.SlicesE.Compact
import Derived.Ground.SlgnProg
import Derived.Test.YtcfbnlkkoifiiaaLaCp
namespace Go.Proofs.Ytcfbnlkkoifiiaa
open Go.RowKit Go.Sort Go.Lib

theorem CompactB_any (g off cap : Nat) (d : Array Int) (w : World) (h : Hb g off d w) (hs : d.size ≤ 40) (hc : d.size ≤ cap) :
    Calls Try.prog 29 #[.slice (some ⟨g, off, none⟩) d.size cap] w fun e w' => e = .returned (.slice (some ⟨g, off, none⟩) (compactUpTo d d.size).length cap) ∧ Kg g w w' := by
  have hcon := AnyE.slices_Compact Try.laidCompact (Value.int .u8) (fun _ => rfl) (EqlAt.intD _ _ .u8) (NeqAt.intD _ _ .u8) (0 : Int) Try.zeroValue5 g off cap d w h (by omega) hc
  refine Calls.mono hcon ?_
  rintro e w' ⟨rfl, q, rfl⟩
  refine ⟨rfl, ⟨rfl, rfl, rfl, by show _ ≤ (Sort.putRow _ _ _ _ _).heap.size; simp [Sort.ahead], fun k hk hne => ?_⟩⟩
  have hne2 : g ≠ k := fun e => hne e.symm
  simp [Sort.putRow, Sort.mapBlock, Sort.ahead, Array.getElem?_modify, hne2]

/-- how many values a list has -/
def valN (l : List Int) (m : Nat) : Nat := (List.range m).countP fun v : Nat => decide ((v : Int) ∈ l)
theorem valN_perm {l l' : List Int} (h : l.Perm l') (m : Nat) : valN l m = valN l' m := by
  unfold valN
  congr 1
  funext v
  simp [h.mem_iff]
theorem valN_snoc (l : List Int) (x : Int) (h0 : 0 ≤ x) : ∀ m, valN (l ++ [x]) m = valN l m + if x ∉ l ∧ x < m then 1 else 0 := by
  intro m
  induction m with
  | zero =>
    rw [if_neg (by omega)]
    rfl
  | succ m ih =>
    have e : ∀ l : List Int, valN l (m + 1) = valN l m + if ((m : Int) ∈ l) then 1 else 0 := fun l => by
      unfold valN
      rw [List.range_succ, List.countP_append]
      by_cases h : (m : Int) ∈ l <;> simp [h]
    rw [e, e, ih]
    by_cases hx : x = m
    · subst hx
      by_cases hl : ((m : Nat) : Int) ∈ l
      · simp [hl]
      · simp [hl]
        omega
    · have h1 : ((m : Int) ∈ l ++ [x]) ↔ ((m : Int) ∈ l) := by
        simp only [List.mem_append, List.mem_singleton]
        constructor
        · rintro (h | h)
          · exact h
          · exact absurd h.symm hx
        · exact .inl
      have h2 : (if (m : Int) ∈ l ++ [x] then 1 else 0) = if (m : Int) ∈ l then 1 else 0 := by simp only [h1]
      have h3 : (if x ∉ l ∧ x < ((m + 1 : Nat) : Int) then 1 else 0) = if x ∉ l ∧ x < (m : Int) then 1 else 0 := by
        by_cases hq : x ∉ l ∧ x < (m : Int)
        · rw [if_pos hq, if_pos ⟨hq.1, by have := hq.2; omega⟩]
        · rw [if_neg hq, if_neg (fun e => hq ⟨e.1, by have := e.2; omega⟩)]
      rw [h2, h3]
      omega
theorem valN_take_succ {l : List Int} {k : Nat} {x : Int} (h : l[k]? = some x) (h0 : 0 ≤ x) (h1 : x < 256) : valN (l.take (k + 1)) 256 = valN (l.take k) 256 + if x ∈ l.take k then 0 else 1 := by
  rw [List.take_add_one, h]
  rw [Option.toList_some, valN_snoc _ _ h0]
  by_cases hm : x ∈ l.take k
  · simp [hm]
  · rw [if_pos ⟨hm, h1⟩, if_neg hm]
/-- a sorted row keeps one of each value -/
theorem compact_len {d : Array Int} (hs : SortedIn ltInt 0 d.size d) (hb : ∀ x ∈ d.toList, 0 ≤ x ∧ x < 256) : ∀ k, k ≤ d.size → (compactUpTo d k).length = valN (d.toList.take k) 256 := by
  intro k
  induction k with
  | zero => intro _; simp [valN, compactUpTo]
  | succ k ih =>
    intro hk
    have hx : d.toList[k]? = some d[k]! := by
      rw [getElem!_pos d k (by omega)]
      simp
    have hm := hb d[k]! (List.mem_of_getElem? hx)
    rw [compactUpTo_succ, valN_take_succ hx hm.1 hm.2, List.length_append, ih (by omega)]
    congr 1
    have hin : d[k]! ∈ d.toList.take k ↔ ¬ (k = 0 ∨ d[k]! ≠ d[k - 1]!) := by
      constructor
      · intro h hc
        obtain ⟨j, hj, he⟩ := List.mem_take_iff_getElem.1 h
        have hjk : j < k := by omega
        rcases hc with h0 | h0
        · omega
        · have hj2 : d[j]! = d[k]! := by
            rw [getElem!_pos d j (by omega), ← he]
            simp
          have hs2 := So.of hs
          have h3 : d[k - 1]! ≤ d[k]! := hs2 (k - 1) k (by omega) (by omega) (by omega)
          have h4 : d[j]! ≤ d[k - 1]! := by
            by_cases e : j = k - 1
            · rw [e]; exact Int.le_refl _
            · exact hs2 j (k - 1) (by omega) (by omega) (by omega)
          omega
      · intro h
        have hk0 : k ≠ 0 := fun e => h (.inl e)
        have he : d[k]! = d[k - 1]! := by
          by_cases e : d[k]! = d[k - 1]!
          · exact e
          · exact absurd (.inr e) h
        refine List.mem_take_iff_getElem.2 ⟨k - 1, by simp; omega, ?_⟩
        rw [he, getElem!_pos d (k - 1) (by omega)]
        simp
    by_cases h : keeps d k = true
    · rw [if_pos h, if_neg]
      · rfl
      · intro h2
        exact hin.1 h2 (by simpa [keeps] using h)
    · rw [if_neg h, if_pos]
      · rfl
      · exact hin.2 (by simpa [keeps] using h)

end Go.Proofs.Ytcfbnlkkoifiiaa
