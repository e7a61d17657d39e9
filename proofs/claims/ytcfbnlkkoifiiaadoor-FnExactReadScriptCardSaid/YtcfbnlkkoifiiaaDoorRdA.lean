/-
  Scripts read, in plain mathematics.
-/
import Derived.Test.YtcfbnlkkoifiiaaDoorRsC
namespace Go.Proofs.YtcfbnlkkoifiiaaDoor
set_option maxRecDepth 100000
open Go.RowKit

/-- slides, acts, remarks -/
abbrev RdS := List ByteArray × List AX × List (Int × Int)
/-- a row is read -/
noncomputable def rdStep (st : RdS) (i : Nat) (row : ByteArray) : RdS :=
  let r := rowF st.1 st.2.1 (wordsS row)
  (r.1, r.2.1, if r.2.2 ≠ 0 ∧ st.2.2.length < 20 then st.2.2 ++ [((i : Int) + 1, r.2.2)] else st.2.2)
noncomputable def rdK (rows : List ByteArray) : Nat → RdS
  | 0 => ([], [], [])
  | k + 1 => match rows[k]? with
    | some row => rdStep (rdK rows k) k row
    | none => rdK rows k
theorem rdK_step {rows : List ByteArray} {k : Nat} {row : ByteArray} (h : rows[k]? = some row) : rdK rows (k + 1) = rdStep (rdK rows k) k row := by rw [rdK, h]
theorem rowF_len {ss : List ByteArray} {xs : List AX} {wd : List ByteArray} (h1 : ss.length ≤ 60) (h2 : xs.length ≤ 60) : (rowF ss xs wd).1.length ≤ 60 ∧ (rowF ss xs wd).2.1.length ≤ 60 := by
  unfold rowF
  split
  · exact ⟨h1, h2⟩
  · split
    · split
      · exact ⟨slNext_len h1, h2⟩
      · exact ⟨h1, h2⟩
    · split
      · exact ⟨h1, h2⟩
      · split
        · exact ⟨h1, h2⟩
        · split
          · exact ⟨h1, h2⟩
          · exact ⟨h1, acNext_len h2⟩
theorem rdK_len (rows : List ByteArray) : ∀ k, (rdK rows k).1.length ≤ 60 ∧ (rdK rows k).2.1.length ≤ 60 ∧ (rdK rows k).2.2.length ≤ 20
  | 0 => ⟨Nat.zero_le _, Nat.zero_le _, Nat.zero_le _⟩
  | k + 1 => by
    obtain ⟨h1, h2, h3⟩ := rdK_len rows k
    rw [rdK]
    split
    · next row _ =>
      obtain ⟨r1, r2⟩ := rowF_len (wd := wordsS row) h1 h2
      refine ⟨r1, r2, ?_⟩
      show (if _ then _ else _ : List (Int × Int)).length ≤ 20
      split
      · next h => rw [List.length_append, List.length_singleton]; omega
      · exact h3
    · exact ⟨h1, h2, h3⟩
noncomputable def rdAll (s : ByteArray) : RdS := if s.size ≤ 3000 then rdK (splitS 10 s) (splitS 10 s).length else ([], [], [])
def rdCode (s : ByteArray) : Int := if s.size ≤ 3000 then 0 else 2
theorem rdAll_len (s : ByteArray) : (rdAll s).1.length ≤ 60 ∧ (rdAll s).2.1.length ≤ 60 ∧ (rdAll s).2.2.length ≤ 20 := by
  unfold rdAll
  split
  · exact rdK_len _ _
  · exact ⟨Nat.zero_le _, Nat.zero_le _, Nat.zero_le _⟩
/-- a script and remarks of the call's own, and a code -/
def RetRd (st : RdS) (code : Int) (w : World) (e : Ending) (w' : World) : Prop :=
  ∃ A c B d R cr, e = .returned (.tuple #[.agg #[.slice A st.1.length c, .slice B st.2.1.length d], .slice R st.2.2.length cr, .int .i64 code]) ∧ Own w' w.heap.size 9 1 eS (.slice A st.1.length c) st.1 ∧ Own w' w.heap.size 49 4 eAct (.slice B st.2.1.length d) st.2.1 ∧ Own w' w.heap.size 39 2 e2 (.slice R st.2.2.length cr) st.2.2 ∧ (∀ a b, A = some a → B = some b → a.block ≠ b.block) ∧ (∀ a r, A = some a → R = some r → r.block ≠ a.block) ∧ (∀ b r, B = some b → R = some r → r.block ≠ b.block) ∧ Below w.heap.size w w'
end Go.Proofs.YtcfbnlkkoifiiaaDoor
