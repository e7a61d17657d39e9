/-
  Showings, in plain mathematics: lists of bytes.
-/
import Derived.Test.YthplfodfilefjaaMath
namespace Go.Proofs.Ythplfodfilefjaa

def letB (c : UInt8) : Bool := inB (c.toNat : Int) 97 122
def ldOk (l : List UInt8) : Bool := l.all letB && decide (l.length ≤ 40)
def ldCode (l : List UInt8) (p : Int) : Int := if ldOk l then (if inB p 1 6 then 0 else 2) else 1
theorem snocB (s : ByteArray) (k : Nat) (h : k < s.size) : s.data.toList[k]? = some s[k] := by
  simp [h]
  rfl
theorem lenB (s : ByteArray) : s.data.toList.length = s.size := by simp
theorem emptyB {s : ByteArray} (h : s.size = 0) : s = ByteArray.empty := by
  apply ByteArray.ext
  exact Array.eq_empty_of_size_eq_zero h
/-- the index of the first byte c; the length if there is none -/
def findB : List UInt8 → UInt8 → Nat
  | [], _ => 0
  | b :: l, c => if b == c then 0 else findB l c + 1
theorem findB_le (l : List UInt8) (c : UInt8) : findB l c ≤ l.length := by
  induction l with
  | nil => simp [findB]
  | cons b l ih => rw [findB]; split <;> simp <;> omega
theorem findB_hit {l : List UInt8} {k : Nat} {c x : UInt8} (h : l[k]? = some x) (hx : (x == c) = true) : findB (l.drop k) c = 0 := by
  obtain ⟨hk, hx2⟩ := List.getElem?_eq_some_iff.1 h
  rw [List.drop_eq_getElem_cons hk, hx2, findB, if_pos hx]
theorem findB_go {l : List UInt8} {k : Nat} {c x : UInt8} (h : l[k]? = some x) (hx : (x == c) = false) : findB (l.drop k) c = findB (l.drop (k + 1)) c + 1 := by
  obtain ⟨hk, hx2⟩ := List.getElem?_eq_some_iff.1 h
  rw [List.drop_eq_getElem_cons hk, hx2, findB, if_neg (by simp [hx])]
theorem findB_end {l : List UInt8} {k : Nat} {c : UInt8} (h : l.length ≤ k) : findB (l.drop k) c = 0 := by
  rw [List.drop_of_length_le h]; rfl
theorem byte_eq (a b : UInt8) : (((a.toNat : Nat) : Int) == ((b.toNat : Nat) : Int)) = (a == b) := by
  rw [Bool.eq_iff_iff, beq_iff_eq, beq_iff_eq]
  exact ⟨fun h => UInt8.toNat_inj.1 (by omega), fun h => by rw [h]⟩
theorem byte_ne (a b : UInt8) : (((a.toNat : Nat) : Int) != ((b.toNat : Nat) : Int)) = !(a == b) := by
  rw [← byte_eq]; rfl
/-- the next index at which the slide at k is shown -/
def nextOf (l : List UInt8) (k : Nat) (c : UInt8) : Nat := k + 1 + findB (l.drop (k + 1)) c
def nsCode (l : List UInt8) (a : Int) : Int :=
  if ldOk l then (if inB a 0 (l.length - 1) then (match l[a.toNat]? with | some c => if nextOf l a.toNat c = l.length then 3 else 0 | none => 2) else 2) else 1
def nsVal (l : List UInt8) (a : Int) : Int := if nsCode l a = 0 then (match l[a.toNat]? with | some c => (nextOf l a.toNat c : Int) | none => 0) else 0
/-- the magazine and the number of loads after k slides by a plan -/
def lsF (st : List UInt8 × Int) (c : UInt8) (k : Nat) : List UInt8 × Int := (st.1.set k c, if st.1.getD k 0 = c then st.2 else st.2 + 1)
def lsK (l : List UInt8) (pl : List Int) (p : Nat) : Nat → List UInt8 × Int
  | 0 => (List.replicate p 0, 0)
  | k + 1 => lsF (lsK l pl p k) (l.getD k 0) (pl.getD k 0).toNat
def lsVal (l : List UInt8) (pl : List Int) (p : Int) : Int := (lsK l pl p.toNat l.length).2
theorem lsK_len (l : List UInt8) (pl : List Int) (p k : Nat) : (lsK l pl p k).1.length = p := by
  induction k with
  | zero => simp [lsK]
  | succ k ih => simp [lsK, lsF, ih]
theorem lsK_bd (l : List UInt8) (pl : List Int) (p k : Nat) : 0 ≤ (lsK l pl p k).2 ∧ (lsK l pl p k).2 ≤ k := by
  induction k with
  | zero => simp [lsK]
  | succ k ih => simp only [lsK, lsF]; split <;> omega
theorem lsK_yes {l : List UInt8} {pl : List Int} {p k v : Nat} {c d : UInt8} (hc : l[k]? = some c) (hv : pl[k]? = some (v : Int)) (hd : (lsK l pl p k).1[v]? = some d) (h : (d == c) = true) : lsK l pl p (k + 1) = ((lsK l pl p k).1.set v c, (lsK l pl p k).2) := by
  have h := beq_iff_eq.1 h
  simp [lsK, lsF, List.getD_eq_getElem?_getD, hc, hv, hd, h]
theorem lsK_same {l : List UInt8} {pl : List Int} {p k v : Nat} {c d : UInt8} (hc : l[k]? = some c) (hv : pl[k]? = some (v : Int)) (hd : (lsK l pl p k).1[v]? = some d) (h : (d == c) = true) : lsK l pl p (k + 1) = lsK l pl p k := by
  rw [lsK_yes hc hv hd h]
  have h := beq_iff_eq.1 h
  obtain ⟨h1, h2⟩ := List.getElem?_eq_some_iff.1 hd
  subst h
  rw [← h2, List.set_getElem_self]
theorem lsK_no {l : List UInt8} {pl : List Int} {p k v : Nat} {c d : UInt8} (hc : l[k]? = some c) (hv : pl[k]? = some (v : Int)) (hd : (lsK l pl p k).1[v]? = some d) (h : (d == c) = false) : lsK l pl p (k + 1) = ((lsK l pl p k).1.set v c, (lsK l pl p k).2 + 1) := by
  have h : ¬ d = c := by simpa using h
  simp [lsK, lsF, List.getD_eq_getElem?_getD, hc, hv, hd, h]
def plOk (pl : List Int) (p : Int) : Bool := pl.all fun v => inB v 0 (p - 1)
def loCode (l : List UInt8) (p : Int) (pl : List Int) : Int := if ldCode l p = 0 then (if pl.length = l.length then (if plOk pl p then 0 else 2) else 2) else ldCode l p
def loVal (l : List UInt8) (p : Int) (pl : List Int) : Int := if loCode l p pl = 0 then lsVal l pl p else 0
end Go.Proofs.Ythplfodfilefjaa
