/-
  A script among a law's arguments.
-/
import Derived.Test.YthplfodfilefjaaDoorSc
namespace Go.Proofs.YthplfodfilefjaaDoor
set_option maxRecDepth 100000
open Go.RowKit Go.ChangeShapes Go.WideShapes Go.Deep Go.Joins
section
variable {H : Type} {enc : TypeId × Value → H} {P : Program} {w : World} {r : Reach} {b0 : Nat} {t e : TypeId} {v : Value} {d : DataW H} {p : List MemPlace}
/-- the same of a cell: the elements of a slice whose struct's fields take one cell each: what is known of a field's cell, and the element that they make -/
theorem open_rowsT {α : Type} {fs : Array Field} {k : Nat}
    (ec : α → List Value) (good : α → Prop) (ok : Nat → Value → Prop)
    (hmk : ∀ g : Nat → Value, (∀ j, j < k → ok j (g j)) → ∃ x : α, good x ∧ ec x = (List.range k).map g)
    (ht : P.underlying t = some (.slice e)) (he : P.underlying e = some (.struct fs)) (hone : oneCellFields P fs = true) (hC : P.cellsOf e = fs.size) (hk : fs.size = k) (hpos : 0 < k)
    (hfield : ∀ (j : Nat) (f : Field) (c : Value) (m : Nat) (y : DataW H × List MemPlace), fs[j]? = some f → DataW.trod enc P w 0 (fun _ => true) true m f.type [c] = some y → ok j c)
    {fuel : Nat} {z : DataW H × List MemPlace} (hf : DataW.trod enc P w 0 (fun _ => true) true fuel t [v] = some z) :
    ∃ A n c xs, v = .slice A n c ∧ n ≤ maxLen ∧ (A = none → c = 0) ∧ Sl (α := α) w k ec A n xs ∧ ∀ x ∈ xs, good x := by
  rcases open_slice ht hf with ⟨hcs, hx⟩ | ⟨a, len, cap, m, n, D, Pl, hcs, hb, hl, hm, hmm, hx, hi⟩
  · have e1 : v = .slice none 0 0 := by simpa using hcs
    subst e1
    exact ⟨none, 0, 0, [], rfl, by simp [maxLen], fun _ => rfl, Sl.nil _, fun x hx => by cases hx⟩
  · have e1 : v = .slice (some a) len cap := by simpa using hcs
    subst e1
    simp only [if_true] at hmm
    subst hmm
    have hcell : ∀ i, i < len → ∃ x : α, good x ∧ ∀ j u, (ec x)[j]? = some u → w.cell? (a.add (i * k + j)) = some u := by
      intro i him
      obtain ⟨cs', hc, ht'⟩ := hi i (by omega)
      rw [hC, hk] at hc
      obtain ⟨ys, n', hn', hy, hlen, hyl, hff⟩ := DataW.trod_struct he ht'
      obtain ⟨_, hcl, hat⟩ := World.cells?_some hc
      obtain ⟨g, hg⟩ : ∃ g : Nat → Value, ∀ j, j < k → w.cell? (a.add (i * k + j)) = some (g j) ∧ ok j (g j) := by
        refine choose_lt (α := Value) (p := fun j z => w.cell? (a.add (i * k + j)) = some z ∧ ok j z) (fun j hj => ?_)
        have hjf : j < fs.size := by omega
        obtain ⟨ho, hkk⟩ := hone_of hone j fs[j] (Array.getElem?_eq_getElem hjf)
        have h1 := hff j fs[j] (Array.getElem?_eq_getElem hjf)
        rw [ho, hkk] at h1
        have hys : ys[j]? = some (ys[j]'(by omega)) := List.getElem?_eq_getElem (by omega)
        rw [hys] at h1
        have hone' : (cs'.drop j).take 1 = [cs'[j]'(by omega)] := by
          rw [List.drop_eq_getElem_cons (by omega)]
          rfl
        rw [hone'] at h1
        have hcj := hat j (by omega)
        rw [List.getElem?_eq_getElem (by omega)] at hcj
        refine ⟨cs'[j]'(by omega), ?_, hfield j fs[j] _ _ _ (Array.getElem?_eq_getElem hjf) h1⟩
        rw [← add_add]; exact hcj
      obtain ⟨x, hgood, hex⟩ := hmk g fun j hj => (hg j hj).2
      refine ⟨x, hgood, fun j u hu => ?_⟩
      rw [hex] at hu
      have hjk : j < k := by
        have := (List.getElem?_eq_some_iff.1 hu).1
        simpa using this
      rw [List.getElem?_map, List.getElem?_range hjk] at hu
      have := (hg j hjk).1
      simp at hu
      rw [this, hu]
    have hlen' : ∀ x : α, good x → True := fun _ _ => trivial
    by_cases hn : 0 < len
    · obtain ⟨x0, _⟩ := hcell 0 hn
      haveI : Inhabited α := ⟨x0⟩
      obtain ⟨F, hF⟩ : ∃ F : Nat → α, ∀ i, i < len → good (F i) ∧ ∀ j u, (ec (F i))[j]? = some u → w.cell? (a.add (i * k + j)) = some u := choose_lt (p := fun i (x : α) => good x ∧ ∀ j u, (ec x)[j]? = some u → w.cell? (a.add (i * k + j)) = some u) hcell
      obtain ⟨cs', hc, _⟩ := hi 0 (by omega)
      rw [hC, hk] at hc
      obtain ⟨_, hcl, hat⟩ := World.cells?_some hc
      have h0 := hat 0 (by omega)
      rw [List.getElem?_eq_getElem (by omega)] at h0
      obtain ⟨b, off, spot⟩ := a
      have hspot : spot = none := by
        have := World.cell?_spot h0
        simpa [Addr.add] using this
      subst hspot
      refine ⟨_, len, _, (List.range len).map F, rfl, by omega, (fun h => by cases h), ⟨by simp, fun _ => ⟨b, off, rfl, ?_, fun i x hx j u hu => ?_⟩⟩, fun x hx => ?_⟩
      · have := World.block_lt_of_cell? w _ h0
        simpa [Addr.add] using this
      · rw [List.getElem?_map] at hx
        obtain ⟨i', hi', rfl⟩ := Option.map_eq_some_iff.1 hx
        have hin : i < len := by
          have := (List.getElem?_eq_some_iff.1 hi').1
          simpa using this
        have : i' = i := by
          rw [List.getElem?_range hin] at hi'
          exact (Option.some.inj hi').symm
        subst this
        have := (hF i' hin).2 j u hu
        rw [add_plain] at this
        rw [Nat.add_assoc]; exact this
      · obtain ⟨i, hi', rfl⟩ := List.mem_map.1 hx
        exact (hF i (List.mem_range.1 hi')).1
    · have : len = 0 := by omega
      subst this
      exact ⟨_, 0, _, [], rfl, by omega, fun h => (by cases h), Sl.nil _, fun x hx => by cases hx⟩

theorem open_strsT (ht : P.underlying t = some (.slice e)) (he : P.underlying e = some .string) (hC : P.cellsOf e = 1)
    {fuel : Nat} {z : DataW H × List MemPlace} (hf : DataW.trod enc P w 0 (fun _ => true) true fuel t [v] = some z) :
    ∃ A n c xs, v = .slice A n c ∧ n ≤ maxLen ∧ (A = none → c = 0) ∧ Sl w 1 eS A n xs ∧ ∀ x ∈ xs, x.size ≤ maxLen := by
  rcases open_strs ht he hC hf with ⟨hcs, hx⟩ | ⟨a, len, cap, m, Sx, hcs, hb, hl, hm, hmm, hx, hi⟩
  · have e1 : v = .slice none 0 0 := by simpa using hcs
    subst e1
    exact ⟨none, 0, 0, [], rfl, by simp [maxLen], fun _ => rfl, Sl.nil _, fun x hx => by cases hx⟩
  · have e1 : v = .slice (some a) len cap := by simpa using hcs
    subst e1
    simp only [if_true] at hmm
    subst hmm
    by_cases hn : 0 < len
    · have h0 := (hi 0 (by omega)).1
      obtain ⟨b, off, spot⟩ := a
      have hspot : spot = none := by
        have := World.cell?_spot h0
        simpa [Addr.add] using this
      subst hspot
      refine ⟨_, len, _, (List.range len).map Sx, rfl, by omega, (fun h => by cases h), ⟨by simp, fun _ => ⟨b, off, rfl, ?_, fun i x hx j u hu => ?_⟩⟩, fun x hx => ?_⟩
      · have := World.block_lt_of_cell? w _ h0
        simpa [Addr.add] using this
      · rw [List.getElem?_map] at hx
        obtain ⟨i', hi', rfl⟩ := Option.map_eq_some_iff.1 hx
        have hin : i < len := by
          have := (List.getElem?_eq_some_iff.1 hi').1
          simpa using this
        have : i' = i := by
          rw [List.getElem?_range hin] at hi'
          exact (Option.some.inj hi').symm
        subst this
        match j, hu with
        | 0, hu =>
          have : u = .string (Sx i') := by simpa [eS] using hu.symm
          subst this
          have := (hi i' (by omega)).1
          rw [add_plain] at this
          rw [Nat.mul_one, Nat.add_zero]; exact this
        | j + 1, hu => simp [eS] at hu
      · obtain ⟨i, hi', rfl⟩ := List.mem_map.1 hx
        exact (hi i (by have := List.mem_range.1 hi'; omega)).2
    · have : len = 0 := by omega
      subst this
      exact ⟨_, 0, _, [], rfl, by simp [maxLen], (fun h => by cases h), Sl.nil _, fun x hx => by cases hx⟩
theorem open_actsT {f0 f1 f2 f3 : Field} (ht : P.underlying t = some (.slice e)) (he : P.underlying e = some (.struct #[f0, f1, f2, f3])) (hone : oneCellFields P #[f0, f1, f2, f3] = true) (hC : P.cellsOf e = 4)
    (i0 : P.underlying f0.type = some (.int .i64)) (i1 : P.underlying f1.type = some .string) (i2 : P.underlying f2.type = some .string) (i3 : P.underlying f3.type = some (.int .i64))
    {fuel : Nat} {z : DataW H × List MemPlace} (hf : DataW.trod enc P w 0 (fun _ => true) true fuel t [v] = some z) :
    ∃ A n c xs, v = .slice A n c ∧ n ≤ maxLen ∧ (A = none → c = 0) ∧ Sl w 4 eAct A n xs ∧ ∀ x ∈ xs, (x.2.1.size ≤ maxLen ∧ x.2.2.1.size ≤ maxLen) ∧ In64 x.1 ∧ In64 x.2.2.2 :=
  open_rowsT (k := 4) eAct (fun x => (x.2.1.size ≤ maxLen ∧ x.2.2.1.size ≤ maxLen) ∧ In64 x.1 ∧ In64 x.2.2.2) (fun j c => (j = 0 → ∃ a : Int, c = .int .i64 a ∧ In64 a) ∧ (j = 1 → ∃ b : ByteArray, c = .string b ∧ b.size ≤ maxLen) ∧ (j = 2 → ∃ b : ByteArray, c = .string b ∧ b.size ≤ maxLen) ∧ (j = 3 → ∃ a : Int, c = .int .i64 a ∧ In64 a))
    (fun g hg => by
      obtain ⟨a, ha, hi⟩ := (hg 0 (by omega)).1 rfl
      obtain ⟨b, hb, hj⟩ := (hg 1 (by omega)).2.1 rfl
      obtain ⟨c, hc, hk⟩ := (hg 2 (by omega)).2.2.1 rfl
      obtain ⟨q, hq, hl⟩ := (hg 3 (by omega)).2.2.2 rfl
      exact ⟨(a, b, c, q), ⟨⟨hj, hk⟩, hi, hl⟩, by simp [eAct, List.range_succ, ha, hb, hc, hq]⟩) ht he hone hC rfl (by omega)
    (fun j f c m y hj hy => by
      match j, hj with
      | 0, hj =>
        cases hj
        obtain ⟨z, ez, _, wz⟩ := DataW.trod_int i0 hy
        exact ⟨fun _ => ⟨z, by simpa using ez, i64_of wz⟩, (fun h => by cases h), (fun h => by cases h), fun h => by cases h⟩
      | 1, hj =>
        cases hj
        obtain ⟨z, ez, _, wz⟩ := DataW.trod_string i1 hy
        exact ⟨(fun h => by cases h), fun _ => ⟨z, by simpa using ez, wz⟩, (fun h => by cases h), fun h => by cases h⟩
      | 2, hj =>
        cases hj
        obtain ⟨z, ez, _, wz⟩ := DataW.trod_string i2 hy
        exact ⟨(fun h => by cases h), (fun h => by cases h), fun _ => ⟨z, by simpa using ez, wz⟩, fun h => by cases h⟩
      | 3, hj =>
        cases hj
        obtain ⟨z, ez, _, wz⟩ := DataW.trod_int i3 hy
        exact ⟨(fun h => by cases h), (fun h => by cases h), (fun h => by cases h), fun _ => ⟨z, by simpa using ez, i64_of wz⟩⟩) hf
end
end Go.Proofs.YthplfodfilefjaaDoor
