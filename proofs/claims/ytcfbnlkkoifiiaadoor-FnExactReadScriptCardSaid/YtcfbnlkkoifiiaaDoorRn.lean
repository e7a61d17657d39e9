/-
  Numbers read from their decimal form, in plain mathematics.
-/
import Derived.Test.YtcfbnlkkoifiiaaDoorDe
import Derived.Lib.ParseIntB
namespace Go.Proofs.YtcfbnlkkoifiiaaDoor
set_option maxRecDepth 100000
open Go.Lib

def digB (c : UInt8) : Bool := decide (48 ≤ c.toNat ∧ c.toNat ≤ 57)
/-- the value of digits behind a value -/
def digV (a : Nat) (l : List UInt8) : Nat := l.foldl (fun a c => 10 * a + (c.toNat - 48)) a
theorem digV_ge : ∀ (l : List UInt8) (a : Nat), a ≤ digV a l
  | [], _ => Nat.le_refl _
  | c :: l, a => by
    have := digV_ge l (10 * a + (c.toNat - 48))
    show a ≤ digV (10 * a + (c.toNat - 48)) l
    omega
theorem digV_snoc (a : Nat) (l : List UInt8) (c : UInt8) : digV a (l ++ [c]) = 10 * digV a l + (c.toNat - 48) := by simp [digV]
theorem dg_toNat (r : Nat) : (UInt8.ofNat (48 + r % 10)).toNat = 48 + r % 10 := by
  have h : r % 10 < 10 := Nat.mod_lt _ (by decide)
  rw [UInt8.toNat_ofNat']
  omega
theorem digV_dd (u : Nat) : digV 0 (dd u) = u := by
  induction u using Nat.strongRecOn with
  | _ u ih =>
    by_cases h : u = 0
    · subst h; rw [dd_zero]; rfl
    · rw [dd_big h, digV_snoc, ih (u / 10) (by omega), dg_toNat]
      omega
theorem dd_dig (u : Nat) : ∀ c ∈ dd u, digB c = true := by
  induction u using Nat.strongRecOn with
  | _ u ih =>
    by_cases h : u = 0
    · subst h; rw [dd_zero]; intro c hc; cases hc
    · rw [dd_big h]
      intro c hc
      rcases List.mem_append.1 hc with hc | hc
      · exact ih (u / 10) (by omega) c hc
      · rw [List.mem_singleton.1 hc, digB, dg_toNat]
        have : u % 10 < 10 := Nat.mod_lt _ (by decide)
        simp
        omega
theorem dd_lt : ∀ (k u : Nat), (dd u).length ≤ k → u < 10 ^ k
  | 0, u, h => by
    by_cases h0 : u = 0
    · subst h0; decide
    · rw [dd_big h0] at h; simp at h
  | k + 1, u, h => by
    by_cases h0 : u = 0
    · subst h0; exact Nat.pow_pos (by decide)
    · rw [dd_big h0, List.length_append] at h
      have := dd_lt k (u / 10) (by simp at h; omega)
      rw [Nat.pow_succ]
      omega
theorem parseM (M : Nat) (hM : M ≤ 18446744073709551615) : ∀ (l : List UInt8) (a : Nat), (∀ c ∈ l, digB c = true) → digV a l ≤ M → parseUintM M a l = .ok (digV a l)
  | [], _, _, _ => rfl
  | c :: l, a, h, hv => by
    have hc : 48 ≤ c.toNat ∧ c.toNat ≤ 57 := by simpa [digB] using h c (by simp)
    have hg := digV_ge l (10 * a + (c.toNat - 48))
    have hv2 : digV (10 * a + (c.toNat - 48)) l ≤ M := hv
    rw [parseUintM, if_pos hc, if_neg (by omega), if_neg (by omega), show a * 10 + (c.toNat - 48) = 10 * a + (c.toNat - 48) by omega]
    exact parseM M hM l _ (fun x hx => h x (by simp [hx])) hv2
theorem parse_dd {u : Nat} (h0 : u ≠ 0) (h : u < 1000000000000000000) : parseUintB 64 (dd u) = .ok u := by
  rw [parseUintB, if_neg (dd_ne h0), parseM _ (by decide) _ _ (dd_dig u) (by rw [digV_dd]; have : (2 : Nat) ^ 64 - 1 = 18446744073709551615 := by decide
                                                                             omega), digV_dd]
theorem decS_list_pos {n : Nat} (h : n ≠ 0) : (decS (n : Int)).data.toList = dd n := by rw [decS_pos h]
theorem decS_list_neg {n : Nat} (h : n ≠ 0) : (decS (-(n : Int))).data.toList = 45 :: dd n := by rw [decS_neg h]
theorem parse_dec (n : Int) (h : n.natAbs < 1000000000000000000) : parseIntB 64 (decS n).data.toList = .ok n := by
  rcases Int.lt_trichotomy n 0 with hn | hn | hn
  · obtain ⟨m, rfl⟩ : ∃ m : Nat, n = -(m : Int) := ⟨n.natAbs, by omega⟩
    have hm : m ≠ 0 := by omega
    rw [decS_list_neg hm, parseIntB]
    simp only [show (45 : UInt8).toNat = 45 from rfl, or_true, if_true]
    rw [parse_dd hm (by omega)]
    have e : (2 : Nat) ^ 63 = 9223372036854775808 := by decide
    simp only [show 64 - 1 = 63 from rfl, e]
    simp only [not_true, false_and, if_false, true_and]
    rw [if_neg (by omega)]
  · subst hn
    rw [decS_zero]
    decide
  · obtain ⟨m, rfl⟩ : ∃ m : Nat, n = (m : Int) := ⟨n.natAbs, by omega⟩
    have hm : m ≠ 0 := by omega
    rw [decS_list_pos hm]
    have hd := dd_dig m
    have hp := parse_dd hm (by omega)
    have hne := dd_ne hm
    revert hd hp hne
    generalize dd m = l
    intro hd hp hne
    cases l with
    | nil => exact absurd rfl hne
    | cons c r =>
      have hc : 48 ≤ c.toNat ∧ c.toNat ≤ 57 := by simpa [digB] using hd c (by simp)
      rw [parseIntB]
      rw [if_neg (by omega), hp]
      have e : (2 : Nat) ^ 63 = 9223372036854775808 := by decide
      simp only [show 64 - 1 = 63 from rfl, e]
      rw [if_neg (by omega), if_neg (by omega), if_neg (by omega)]
/-- the digits of a number's text -/
def tailB (s : ByteArray) : List UInt8 := match s.data.toList with
  | [] => []
  | c :: r => if c = 45 then r else c :: r
theorem tailB_dec_le {n : Int} (h : (tailB (decS n)).length ≤ 18) : n.natAbs < 1000000000000000000 := by
  rcases Int.lt_trichotomy n 0 with hn | hn | hn
  · obtain ⟨m, rfl⟩ : ∃ m : Nat, n = -(m : Int) := ⟨n.natAbs, by omega⟩
    have hm : m ≠ 0 := by omega
    rw [tailB, decS_list_neg hm] at h
    have := dd_lt 18 m (by simpa using h)
    omega
  · subst hn; decide
  · obtain ⟨m, rfl⟩ : ∃ m : Nat, n = (m : Int) := ⟨n.natAbs, by omega⟩
    have hm : m ≠ 0 := by omega
    rw [tailB, decS_list_pos hm] at h
    have h2 : (dd m).length ≤ 18 := by
      have hd := dd_dig m
      revert h hd
      generalize dd m = l
      intro h hd
      cases l with
      | nil => simp
      | cons c r =>
        have hc : 48 ≤ c.toNat ∧ c.toNat ≤ 57 := by simpa [digB] using hd c (by simp)
        have h45 : c ≠ 45 := by rintro rfl; revert hc; decide
        simpa [h45] using h
    have := dd_lt 18 m h2
    omega
open Classical in
/-- the number of a text, and whether there is one -/
noncomputable def numF (s : ByteArray) : Int × Bool := if h : ∃ n : Int, decS n = s ∧ (tailB s).length ≤ 18 then (h.choose, true) else (0, false)
theorem numF_yes {s : ByteArray} {n : Int} (h : decS n = s) (hl : (tailB s).length ≤ 18) : numF s = (n, true) := by
  have hx : ∃ n : Int, decS n = s ∧ (tailB s).length ≤ 18 := ⟨n, h, hl⟩
  rw [numF, dif_pos hx]
  have h1 := hx.choose_spec.1
  have p1 := parse_dec hx.choose (tailB_dec_le (by rw [h1]; exact hl))
  have p2 := parse_dec n (tailB_dec_le (by rw [h]; exact hl))
  rw [h1] at p1
  rw [h, p1] at p2
  injection p2 with p2
  rw [p2]
theorem numF_no {s : ByteArray} (h : ∀ n : Int, decS n = s → (tailB s).length ≤ 18 → False) : numF s = (0, false) := by
  rw [numF, dif_neg]
  rintro ⟨n, h1, h2⟩
  exact h n h1 h2
theorem numF_long {s : ByteArray} (h : 18 < (tailB s).length) : numF s = (0, false) := numF_no fun _ _ h2 => by omega
theorem tailB_size (s : ByteArray) : (tailB s).length ≤ s.size ∧ s.size ≤ (tailB s).length + 1 := by
  have e : s.size = s.data.toList.length := by simp
  rw [e, tailB]
  cases s.data.toList with
  | nil => simp
  | cons c r => by_cases h : c = 45 <;> simp [h]
/-- what the program makes of the number that Go reads -/
theorem numF_ok {s : ByteArray} {v : Int} (hp : parseIntB 64 s.data.toList = .ok v) (hl : (tailB s).length ≤ 18) : numF s = if decS v = s then (v, true) else (0, false) := by
  by_cases h : decS v = s
  · rw [if_pos h, numF_yes h hl]
  · rw [if_neg h]
    refine numF_no fun n h1 _ => h ?_
    have p2 := parse_dec n (tailB_dec_le (by rw [h1]; exact hl))
    rw [h1, hp] at p2
    injection p2 with p2
    rw [p2, h1]
theorem numF_bad {s : ByteArray} (hp : ∀ v, parseIntB 64 s.data.toList ≠ .ok v) : numF s = (0, false) := numF_no fun n h1 h2 => by
  have p2 := parse_dec n (tailB_dec_le (by rw [h1]; exact h2))
  rw [h1] at p2
  exact hp n p2
theorem tailB_pos {n : Nat} (h : n ≠ 0) : tailB (decS (n : Int)) = dd n := by
  rw [tailB, decS_list_pos h]
  have hd := dd_dig n
  revert hd
  generalize dd n = l
  intro hd
  cases l with
  | nil => rfl
  | cons c r =>
    have hc : 48 ≤ c.toNat ∧ c.toNat ≤ 57 := by simpa [digB] using hd c (by simp)
    have h45 : c ≠ 45 := by rintro rfl; revert hc; decide
    simp [h45]
theorem tailB_neg {n : Nat} (h : n ≠ 0) : tailB (decS (-(n : Int))) = dd n := by
  rw [tailB, decS_list_neg h]
  simp
theorem tailB_dec (n : Int) : (∀ c ∈ tailB (decS n), digB c = true) ∧ digV 0 (tailB (decS n)) = n.natAbs ∧ tailB (decS n) ≠ [] := by
  rcases Int.lt_trichotomy n 0 with hn | hn | hn
  · obtain ⟨m, rfl⟩ : ∃ m : Nat, n = -(m : Int) := ⟨n.natAbs, by omega⟩
    have hm : m ≠ 0 := by omega
    rw [tailB_neg hm]
    exact ⟨dd_dig m, by rw [digV_dd]; omega, dd_ne hm⟩
  · subst hn; rw [decS_zero]; decide
  · obtain ⟨m, rfl⟩ : ∃ m : Nat, n = (m : Int) := ⟨n.natAbs, by omega⟩
    have hm : m ≠ 0 := by omega
    rw [tailB_pos hm]
    exact ⟨dd_dig m, by rw [digV_dd]; omega, dd_ne hm⟩
/-- a minus stands ahead -/
def negB (s : ByteArray) : Bool := decide (s.data.toList.head? = some 45)
theorem negB_dec (n : Int) : negB (decS n) = decide (n < 0) := by
  rcases Int.lt_trichotomy n 0 with hn | hn | hn
  · obtain ⟨m, rfl⟩ : ∃ m : Nat, n = -(m : Int) := ⟨n.natAbs, by omega⟩
    have hm : m ≠ 0 := by omega
    rw [negB, decS_list_neg hm]
    simp
    omega
  · subst hn; rw [decS_zero]; decide
  · obtain ⟨m, rfl⟩ : ∃ m : Nat, n = (m : Int) := ⟨n.natAbs, by omega⟩
    have hm : m ≠ 0 := by omega
    rw [negB, decS_list_pos hm]
    have hd := dd_dig m
    have hne := dd_ne hm
    revert hd hne
    generalize dd m = l
    intro hd hne
    cases l with
    | nil => exact absurd rfl hne
    | cons c r =>
      have hc : 48 ≤ c.toNat ∧ c.toNat ≤ 57 := by simpa [digB] using hd c (by simp)
      have h45 : c ≠ 45 := by rintro rfl; revert hc; decide
      rw [decide_eq_false (by simpa using h45), decide_eq_false (by omega)]
/-- the value that the reference reckons -/
def numV (s : ByteArray) : Int := if negB s then -(digV 0 (tailB s) : Int) else (digV 0 (tailB s) : Int)
theorem numV_dec (n : Int) : numV (decS n) = n := by
  rw [numV, negB_dec, (tailB_dec n).2.1]
  by_cases h : n < 0
  · rw [if_pos (by simpa using h)]; omega
  · rw [if_neg (by simpa using h)]; omega
theorem numF_ref {s : ByteArray} (hl : (tailB s).length ≤ 18) : numF s = if decS (numV s) = s then (numV s, true) else (0, false) := by
  by_cases h : decS (numV s) = s
  · rw [if_pos h, numF_yes h hl]
  · rw [if_neg h]
    refine numF_no fun n h1 _ => h ?_
    rw [← h1, numV_dec]
theorem numF_nodig {s : ByteArray} {c : UInt8} (hc : c ∈ tailB s) (h : digB c = false) : numF s = (0, false) := numF_no fun n h1 _ => by
  rw [← h1] at hc
  rw [(tailB_dec n).1 c hc] at h
  cases h
theorem numF_empty {s : ByteArray} (h : tailB s = []) : numF s = (0, false) := numF_no fun n h1 _ => by
  rw [← h1] at h
  exact (tailB_dec n).2.2 h
theorem digV_bd : ∀ (l : List UInt8), (∀ c ∈ l, digB c = true) → digV 0 l < 10 ^ l.length := by
  intro l
  have : ∀ (l : List UInt8) (a k : Nat), (∀ c ∈ l, digB c = true) → a < 10 ^ k → digV a l < 10 ^ (k + l.length) := by
    intro l
    induction l with
    | nil => intro a k _ h; exact h
    | cons c l ih =>
      intro a k hd ha
      have hc : 48 ≤ c.toNat ∧ c.toNat ≤ 57 := by simpa [digB] using hd c (by simp)
      have := ih (10 * a + (c.toNat - 48)) (k + 1) (fun x hx => hd x (by simp [hx])) (by rw [Nat.pow_succ]; omega)
      rw [List.length_cons, show k + (l.length + 1) = k + 1 + l.length by omega]
      exact this
  intro h
  have := this l 0 0 h (by decide)
  rwa [Nat.zero_add] at this
end Go.Proofs.YtcfbnlkkoifiiaaDoor
