/-
  More words of this seat: append of a slice to a row of the call's own; rows of strings; arguments whose elements have fields of several kinds.
-/
import Derived.Test.YthplfodfilefjaaDoorWords
import Derived.Laws.AppendOwnNone
import Derived.Deep.Strs
import Derived.Deep.RegionHeld3
namespace Go.Proofs.YthplfodfilefjaaDoor
set_option maxRecDepth 100000
open Go.RowKit Go.Deep Go.Joins Go.WideShapes

theorem Sl.flat {α : Type} {w : World} {k n b off : Nat} {enc : α → List Value} {ys : List α} (hk : ∀ x, (enc x).length = k) (hpos : 0 < k) (h : Sl w k enc (some ⟨b, off, none⟩) n ys) (hn : 0 < n) :
    ∀ j u, (ys.flatMap enc)[j]? = some u → w.cell? ((⟨b, off, none⟩ : Addr).add j) = some u := by
  intro j u hu
  obtain ⟨b', off', hA, _, hc⟩ := h.2 hn
  injection hA with hA
  injection hA with h1 h2 _
  subst h1; subst h2
  have hj : j < ys.length * k := by
    have := (List.getElem?_eq_some_iff.1 hu).1
    rwa [flat_len hk] at this
  have hq : j / k < ys.length := Nat.div_lt_of_lt_mul (by rw [Nat.mul_comm]; exact hj)
  have hr : j % k < k := Nat.mod_lt _ hpos
  have hx : ys[j / k]? = some (ys[j / k]'hq) := List.getElem?_eq_getElem hq
  have hf := flat_at hk ys (j / k) _ hx (j % k) hr
  have e : j / k * k + j % k = j := by rw [Nat.mul_comm]; exact Nat.div_add_mod j k
  rw [e, hu] at hf
  have := hc (j / k) _ hx (j % k) u hf.symm
  rw [add_plain, ← e, ← Nat.add_assoc]
  exact this

theorem wpList_appS {P : Program} {α : Type} {w : World} {ops : Array Oper} {rest : List Oper} {o : Oper} {a : Act} {Q : Exit → Act → World → Prop} (hgd : o.guard = none) (s x : Operand) (t T : TypeId)
    (ho : o.op = .call { callee := .builtin .append, args := #[s, x], argTypes := #[t, t] })
    (base : Nat) (i : TypeInfo) (z : Value) (k bytes : Nat) (ht : P.underlying t = some (.slice T)) (hi : P.info? T = some i) (hz : i.zero = some z)
    (hsize : i.size = k) (hby : i.bytes = bytes) (hzs : z.cells.size = k) (hk : 0 < k)
    (enc : α → List Value) (henc : ∀ x, (enc x).length = k) (h1 : ∀ x, ∀ u ∈ enc x, u.oneCell' = true) (v : Value) (xs : List α) (hs : a.eval s = v) (own : Own w base T k enc v xs)
    (A : Option Addr) (n c : Nat) (ys : List α) (hx : a.eval x = .slice A n c) (hA : A = none → c = 0) (hys : Sl w k enc A n ys)
    (hbytes : (xs.length + n) * bytes ≤ 140737488355328) (h63 : xs.length + n ≤ maxLen) (hbase : base ≤ w.heap.size)
    (h : ∀ v' w', Own w' base T k enc v' (xs ++ ys) → Below base w w' → w.grownBy w' v.ownBlock → (v' = .slice none 0 0 ↔ v = .slice none 0 0 ∧ n = 0) → wpList P ops Q rest (a.put o.dst v') w') : wpList P ops Q (o :: rest) a w := by
  cases A with
  | none =>
    have hn : n = 0 := by
      rcases Nat.eq_zero_or_pos n with h0 | h0
      · exact h0
      · obtain ⟨b, off, e, _⟩ := hys.2 h0; cases e
    subst hn
    have hc := hA rfl
    subst hc
    have hy : ys = [] := List.eq_nil_of_length_eq_zero hys.1
    subst hy
    refine wpList_append_own_none hgd s x t ho base T i k ht hi v xs.length (xs.flatMap enc) hs own hx (h v w ?_ (Below.refl _ _) ⟨rfl, rfl, rfl, Nat.le_refl _, fun _ _ _ => rfl⟩ (by simp))
    rw [List.append_nil]; exact own
  | some ad =>
    refine wpList_append_own _ hgd s x t ho base T i z k bytes ht hi hz hsize hby hzs hk v xs.length (xs.flatMap enc) hs own ad n c (ys.flatMap enc) hx (by rw [flat_len henc, hys.1])
      (fun j u hu => ?_) (fun u hu => ?_) h63 hbytes hbase (fun v' w' h2 h3 h4 => h v' w' (Own.of_row h2 (by simp [hys.1]) (by simp)) ((Below.refl _ _).grown h3 hbase fun q hq => (own.lt q hq).1) h3 h4)
    · rcases Nat.eq_zero_or_pos n with h0 | h0
      · have hy : ys = [] := List.eq_nil_of_length_eq_zero (by rw [hys.1, h0])
        subst hy; simp at hu
      · obtain ⟨b, off, e, _⟩ := hys.2 h0
        cases e
        exact hys.flat henc hk h0 j u hu
    · obtain ⟨y, _, hu⟩ := List.mem_flatMap.1 hu
      exact h1 y u hu

/-- at a step of a region that draws its order: for the third argument of go_region_held3 -/
theorem step_app1 {P : Program} {α : Type} {w : World} {ops : Array Oper} {o : Oper} {a : Act} {K : Act → World → Prop} {Q : Exit → Act → World → Prop} {E : Prop} (hgd : o.guard = none) (s x : Operand) (t T : TypeId)
    (ho : o.op = .call { callee := .builtin .append, args := #[s, x], argTypes := #[t, t] })
    (base : Nat) (i : TypeInfo) (z : Value) (k bytes : Nat) (ht : P.underlying t = some (.slice T)) (hi : P.info? T = some i) (hz : i.zero = some z)
    (hsize : i.size = k) (hby : i.bytes = bytes) (hzs : z.cells.size = k) (hk : 0 < k)
    (enc : α → List Value) (henc : ∀ x, (enc x).length = k) (h1 : ∀ x, ∀ u ∈ enc x, u.oneCell' = true) (v : Value) (xs : List α) (hs : a.eval s = v) (own : Own w base T k enc v xs)
    (y : α) (g c : Nat) (hx : a.eval x = .slice (some ⟨g, 0, none⟩) 1 c) (hcell : ∀ j, w.cell? ⟨g, j, none⟩ = (enc y)[j]?)
    (hbytes : (xs.length + 1) * bytes ≤ 140737488355328) (h63 : xs.length + 1 ≤ maxLen) (hbase : base ≤ w.heap.size)
    (h : ∀ v' w', Own w' base T k enc v' (xs ++ [y]) → Below base w w' → K (a.put o.dst v') w') :
    if Region.wanted o (yielded ops a.tmps) = true then Oper.wp P o a w K Q else E := by
  have hw : Region.wanted o (yielded ops a.tmps) = true := by simp [Region.wanted, hgd]
  rw [if_pos hw]
  refine wp_append_own w s x t ho base T i z k bytes ht hi hz hsize hby hzs hk v xs.length (xs.flatMap enc) hs own ⟨g, 0, none⟩ 1 c (enc y) hx (by rw [henc]; omega)
    (fun j u hu => ?_) (h1 y) h63 hbytes hbase (fun v' w' h2 h3 _ => h v' w' (Own.of_row h2 (by simp) (by simp)) ((Below.refl _ _).grown h3 hbase fun q hq => (own.lt q hq).1))
  rw [← hu, ← hcell j]
  unfold Addr.add
  split
  · rename_i h0; subst h0; rfl
  · simp

/-! ### strings -/
theorem str_eq (x y : ByteArray) : (x.toList == y.toList) = decide (x = y) := by
  rw [Bool.eq_iff_iff, beq_iff_eq, decide_eq_true_iff]
  constructor
  · intro h
    rw [ByteArray.toList_eq, ByteArray.toList_eq] at h
    exact ByteArray.ext (Array.toList_inj.1 h)
  · intro h; rw [h]
def eS (x : ByteArray) : List Value := [.string x]
theorem eS_len (x : ByteArray) : (eS x).length = 1 := rfl
theorem eS_one : ∀ x, ∀ u ∈ eS x, u.oneCell' = true := by intro x u hu; simp [eS] at hu; subst hu; rfl
theorem Sl.atS {w : World} {n i : Nat} {A : Option Addr} {xs : List ByteArray} (h : Sl w 1 eS A n xs) (hi : i < n) : ∃ b off x, A = some ⟨b, off, none⟩ ∧ xs[i]? = some x ∧ x ∈ xs ∧ w.cell? ⟨b, off + i, none⟩ = some (.string x) := by
  obtain ⟨b, off, x, hA, hx, hm, hc⟩ := h.at_ hi
  exact ⟨b, off, x, hA, hx, hm, by simpa using hc 0 _ rfl⟩
theorem Sl.getS {w : World} {n i b off : Nat} {xs : List ByteArray} {x : ByteArray} (h : Sl w 1 eS (some ⟨b, off, none⟩) n xs) (hx : xs[i]? = some x) : w.cell? ⟨b, off + i, none⟩ = some (.string x) := by
  obtain ⟨b', off', y, hA, hy, _, c0⟩ := h.atS (i := i) (by rw [← h.1]; exact (List.getElem?_eq_some_iff.1 hx).1)
  cases hA; rw [hx] at hy; cases hy; exact c0

section
open Go.ChangeShapes Go.WideShapes Go.Deep Go.Joins
variable {H : Type} {enc : TypeId × Value → H} {P : Program} {w : World} {r : Reach} {b0 : Nat} {t e : TypeId} {v : Value} {d : DataW H} {p : List MemPlace}

/-- the elements of a slice whose struct's fields take one cell each: what is known of a field's cell, and the element that they make -/
theorem open_rowsG {α : Type} {fs : Array Field} {k : Nat}
    (ec : α → List Value) (good : α → Prop) (ok : Nat → Value → Prop)
    (hmk : ∀ g : Nat → Value, (∀ j, j < k → ok j (g j)) → ∃ x : α, good x ∧ ec x = (List.range k).map g)
    (ht : P.underlying t = some (.slice e)) (he : P.underlying e = some (.struct fs)) (hone : oneCellFields P fs = true) (hC : P.cellsOf e = fs.size) (hk : fs.size = k) (hpos : 0 < k)
    (hfield : ∀ (j : Nat) (f : Field) (c : Value) (m : Nat) (y : DataW H × List MemPlace), fs[j]? = some f → DataW.trod enc P w 0 (fun _ => true) true m f.type [c] = some y → ok j c)
    (hv : Value.okWide P w r b0 t v) (h : DataW.Trod enc P w 0 (fun _ => true) true t v d p) :
    ∃ A n c xs, v = .slice A n c ∧ n ≤ maxLen ∧ (A = none → c = 0) ∧ Sl (α := α) w k ec A n xs ∧ ∀ x ∈ xs, good x := by
  obtain ⟨a0, n0, c0, rfl⟩ := okWide_slice ht hv
  obtain ⟨fuel, hf⟩ := h
  rcases open_slice ht hf with ⟨hcs, hx⟩ | ⟨a, len, cap, m, n, D, Pl, hcs, hb, hl, hm, hmm, hx, hi⟩
  · have e1 : a0 = none ∧ n0 = 0 ∧ c0 = 0 := by simpa [Value.cells] using hcs
    obtain ⟨rfl, rfl, rfl⟩ := e1
    exact ⟨none, 0, 0, [], rfl, by simp [maxLen], fun _ => rfl, Sl.nil _, fun x hx => by cases hx⟩
  · have e1 : some a = a0 ∧ len = n0 ∧ cap = c0 := by simpa [Value.cells, eq_comm] using hcs
    obtain ⟨rfl, rfl, rfl⟩ := e1
    simp only [if_true] at hmm
    subst hmm
    have hcell : ∀ i, i < len → ∃ x : α, good x ∧ ∀ j u, (ec x)[j]? = some u → w.cell? (a.add (i * k + j)) = some u := by
      intro i him
      obtain ⟨cs', hc, ht'⟩ := hi i (by omega)
      rw [hC, hk] at hc
      obtain ⟨ys, n', hn', hy, hlen, hyl, hff⟩ := DataW.trod_struct he ht'
      obtain ⟨_, hcl, hat⟩ := World.cells?_some hc
      obtain ⟨g, hg⟩ : ∃ g : Nat → Value, ∀ j, j < k → w.cell? (a.add (i * k + j)) = some (g j) ∧ ok j (g j) := by
        refine choose_lt (α := Value) (p := fun j z => w.cell? (a.add (i * k + j)) = some z ∧ ok j z) (fun j hj => ?_)
        have hjf : j < fs.size := by omega
        obtain ⟨ho, hkk⟩ := hone_of hone j fs[j] (Array.getElem?_eq_getElem hjf)
        have h1 := hff j fs[j] (Array.getElem?_eq_getElem hjf)
        rw [ho, hkk] at h1
        have hys : ys[j]? = some (ys[j]'(by omega)) := List.getElem?_eq_getElem (by omega)
        rw [hys] at h1
        have hone' : (cs'.drop j).take 1 = [cs'[j]'(by omega)] := by
          rw [List.drop_eq_getElem_cons (by omega)]
          rfl
        rw [hone'] at h1
        have hcj := hat j (by omega)
        rw [List.getElem?_eq_getElem (by omega)] at hcj
        refine ⟨cs'[j]'(by omega), ?_, hfield j fs[j] _ _ _ (Array.getElem?_eq_getElem hjf) h1⟩
        rw [← add_add]; exact hcj
      obtain ⟨x, hgood, hex⟩ := hmk g fun j hj => (hg j hj).2
      refine ⟨x, hgood, fun j u hu => ?_⟩
      rw [hex] at hu
      have hjk : j < k := by
        have := (List.getElem?_eq_some_iff.1 hu).1
        simpa using this
      rw [List.getElem?_map, List.getElem?_range hjk] at hu
      have := (hg j hjk).1
      simp at hu
      rw [this, hu]
    have hlen' : ∀ x : α, good x → True := fun _ _ => trivial
    by_cases hn : 0 < len
    · obtain ⟨x0, _⟩ := hcell 0 hn
      haveI : Inhabited α := ⟨x0⟩
      obtain ⟨F, hF⟩ : ∃ F : Nat → α, ∀ i, i < len → good (F i) ∧ ∀ j u, (ec (F i))[j]? = some u → w.cell? (a.add (i * k + j)) = some u := choose_lt (p := fun i (x : α) => good x ∧ ∀ j u, (ec x)[j]? = some u → w.cell? (a.add (i * k + j)) = some u) hcell
      obtain ⟨cs', hc, _⟩ := hi 0 (by omega)
      rw [hC, hk] at hc
      obtain ⟨_, hcl, hat⟩ := World.cells?_some hc
      have h0 := hat 0 (by omega)
      rw [List.getElem?_eq_getElem (by omega)] at h0
      obtain ⟨b, off, spot⟩ := a
      have hspot : spot = none := by
        have := World.cell?_spot h0
        simpa [Addr.add] using this
      subst hspot
      refine ⟨_, len, _, (List.range len).map F, rfl, by omega, (fun h => by cases h), ⟨by simp, fun _ => ⟨b, off, rfl, ?_, fun i x hx j u hu => ?_⟩⟩, fun x hx => ?_⟩
      · have := World.block_lt_of_cell? w _ h0
        simpa [Addr.add] using this
      · rw [List.getElem?_map] at hx
        obtain ⟨i', hi', rfl⟩ := Option.map_eq_some_iff.1 hx
        have hin : i < len := by
          have := (List.getElem?_eq_some_iff.1 hi').1
          simpa using this
        have : i' = i := by
          rw [List.getElem?_range hin] at hi'
          exact (Option.some.inj hi').symm
        subst this
        have := (hF i' hin).2 j u hu
        rw [add_plain] at this
        rw [Nat.add_assoc]; exact this
      · obtain ⟨i, hi', rfl⟩ := List.mem_map.1 hx
        exact (hF i (List.mem_range.1 hi')).1
    · have : len = 0 := by omega
      subst this
      exact ⟨_, 0, _, [], rfl, by omega, fun h => (by cases h), Sl.nil _, fun x hx => by cases hx⟩
end
end Go.Proofs.YthplfodfilefjaaDoor
