/-
  Texts split at a byte, in plain mathematics.
-/
import Derived.Test.YtcfbnlkkoifiiaaDoorRn
import Derived.Lib.Split
import Derived.Lib.SplitLaws
import Derived.Lib.CountLaws
import Derived.Lib.IndexBytes
namespace Go.Proofs.YtcfbnlkkoifiiaaDoor
set_option maxRecDepth 100000
open Go.Lib

/-- the parts of a text between bytes c -/
def splitL (c : UInt8) : List UInt8 → List (List UInt8)
  | [] => [[]]
  | b :: l => if b = c then [] :: splitL c l else match splitL c l with
    | [] => [[b]]
    | h :: t => (b :: h) :: t
theorem splitL_ne (c : UInt8) (l : List UInt8) : splitL c l ≠ [] := by
  cases l with
  | nil => simp [splitL]
  | cons b l =>
    rw [splitL]
    split
    · simp
    · split <;> simp
theorem splitL_end (c : UInt8) : ∀ (p : List UInt8), (∀ x ∈ p, x ≠ c) → splitL c p = [p]
  | [], _ => rfl
  | b :: p, h => by
    rw [splitL, if_neg (h b (by simp)), splitL_end c p (fun x hx => h x (by simp [hx]))]
theorem splitL_hit (c : UInt8) (r : List UInt8) : ∀ (p : List UInt8), (∀ x ∈ p, x ≠ c) → splitL c (p ++ c :: r) = p :: splitL c r
  | [], _ => by rw [List.nil_append, splitL, if_pos rfl]
  | b :: p, h => by
    rw [List.cons_append, splitL, if_neg (h b (by simp)), splitL_hit c r p (fun x hx => h x (by simp [hx]))]
theorem splitL_len (c : UInt8) : ∀ l : List UInt8, (splitL c l).length ≤ l.length + 1
  | [] => by simp [splitL]
  | b :: l => by
    have ih := splitL_len c l
    rw [splitL]
    split
    · simp; omega
    · split
      · simp
      · next h t e => rw [e] at ih; simp at ih ⊢; omega
theorem splitL_sub (c : UInt8) : ∀ (l : List UInt8), ∀ p ∈ splitL c l, p.length ≤ l.length
  | [], p, h => by simp [splitL] at h; simp [h]
  | b :: l, p, h => by
    have ih := splitL_sub c l
    rw [splitL] at h
    split at h
    · rcases List.mem_cons.1 h with h | h
      · simp [h]
      · have := ih p h; simp; omega
    · split at h
      · simp at h; simp [h]
      · next hh t e =>
        rcases List.mem_cons.1 h with h | h
        · have := ih hh (by rw [e]; simp)
          rw [h]; simp; omega
        · have := ih p (by rw [e]; simp [h])
          simp; omega
theorem idx_hit (c : UInt8) (l : List UInt8) : index (c :: l) [c] = 0 := by simp [index]
theorem idx_cons {b c : UInt8} (h : b ≠ c) (l : List UInt8) : index (b :: l) [c] = if index l [c] == -1 then -1 else index l [c] + 1 := by
  rw [index, if_neg]
  simp
  exact fun e => h e.symm
theorem cnt_hit (c : UInt8) (l : List UInt8) : count (c :: l) [c] = 1 + count l [c] := by
  have h := count_hit (s := c :: l) (sub := [c]) (i := 0) (by simp) (by rw [idx_hit]; rfl)
  simpa using h
theorem cnt_cons {b c : UInt8} (h : b ≠ c) (l : List UInt8) : count (b :: l) [c] = count l [c] := by
  by_cases hm : index l [c] = -1
  · rw [count_miss hm, count_miss (by rw [idx_cons h, hm]; rfl)]
  · obtain ⟨i, hi⟩ : ∃ i : Nat, index l [c] = i := ⟨(index l [c]).toNat, by have := index_ge l [c]; omega⟩
    have h1 : index (b :: l) [c] = ((i + 1 : Nat) : Int) := by
      rw [idx_cons h, if_neg (by simpa using hm), hi]
      rfl
    rw [count_hit (s := b :: l) (sub := [c]) (i := i + 1) (by simp) h1, count_hit (s := l) (sub := [c]) (i := i) (by simp) hi]
    rfl
theorem sk_cons {b c : UInt8} (h : b ≠ c) (l : List UInt8) (k : Nat) : splitK [c] 0 k (b :: l) = match splitK [c] 0 k l with
    | [] => [[b]]
    | h :: t => (b :: h) :: t := by
  cases k with
  | zero => rfl
  | succ k =>
    rw [splitK, splitK]
    by_cases hm : index l [c] = -1
    · rw [idx_cons h, hm]
      rfl
    · obtain ⟨i, hi⟩ : ∃ i : Nat, index l [c] = i := ⟨(index l [c]).toNat, by have := index_ge l [c]; omega⟩
      have h1 : index (b :: l) [c] = ((i + 1 : Nat) : Int) := by
        rw [idx_cons h, if_neg (by simpa using hm), hi]
        rfl
      rw [h1, hi]
      have e1 : ((((i + 1 : Nat) : Int)) == -1) = false := by rw [beq_eq_false_iff_ne]; omega
      have e2 : (((i : Nat) : Int) == -1) = false := by rw [beq_eq_false_iff_ne]; omega
      rw [e1, e2]
      rfl
theorem sk_split (c : UInt8) : ∀ l : List UInt8, splitK [c] 0 (count l [c]) l = splitL c l
  | [] => by
    have : count [] [c] = 0 := count_miss (by simp [index])
    rw [this]
    rfl
  | b :: l => by
    have ih := sk_split c l
    by_cases h : b = c
    · subst h
      rw [cnt_hit, Nat.add_comm, splitK, idx_hit, splitL, if_pos rfl, ← ih]
      rfl
    · rw [cnt_cons h, sk_cons h, ih, splitL, if_neg h]
/-- a text of bytes -/
def mkB (l : List UInt8) : ByteArray := ⟨l.toArray⟩
theorem mkB_list (s : ByteArray) : mkB s.data.toList = s := by cases s; rfl
/-- the parts of a text -/
def splitS (c : UInt8) (s : ByteArray) : List ByteArray := (splitL c s.data.toList).map mkB
theorem splitB_eq (c : UInt8) (s : ByteArray) : splitB ⟨#[c]⟩ 0 (countB s ⟨#[c]⟩) s = splitS c s := by
  have h := splitB_data ⟨#[c]⟩ 0 (countB s ⟨#[c]⟩) s
  have h2 : countB s ⟨#[c]⟩ = count s.data.toList [c] := rfl
  have h3 : (splitB ⟨#[c]⟩ 0 (countB s ⟨#[c]⟩) s).map (·.data.toList) = splitL c s.data.toList := by
    rw [h, h2]
    exact sk_split c _
  rw [splitS, ← h3, List.map_map]
  have : (mkB ∘ fun x : ByteArray => x.data.toList) = id := by
    funext x
    exact mkB_list x
  rw [this, List.map_id]
theorem splitS_len (c : UInt8) (s : ByteArray) : (splitS c s).length ≤ s.size + 1 := by
  have h1 := splitL_len c s.data.toList
  rw [Array.length_toList] at h1
  rw [splitS, List.length_map]
  exact h1
theorem splitS_size {c : UInt8} {s p : ByteArray} (h : p ∈ splitS c s) : p.size ≤ s.size := by
  obtain ⟨l, hl, rfl⟩ := List.mem_map.1 h
  have h1 := splitL_sub c _ l hl
  rw [Array.length_toList] at h1
  show l.toArray.size ≤ _
  simpa using h1
/-- the words of a text -/
def wordsS (s : ByteArray) : List ByteArray := (splitS 32 s).filter fun p => decide (p.size ≠ 0)
theorem wordsS_len (s : ByteArray) : (wordsS s).length ≤ s.size + 1 := Nat.le_trans (List.length_filter_le _ _) (splitS_len 32 s)
theorem wordsS_size {s p : ByteArray} (h : p ∈ wordsS s) : p.size ≤ s.size ∧ p.size ≠ 0 := by
  have := List.mem_filter.1 h
  exact ⟨splitS_size this.1, by simpa using this.2⟩
end Go.Proofs.YtcfbnlkkoifiiaaDoor
