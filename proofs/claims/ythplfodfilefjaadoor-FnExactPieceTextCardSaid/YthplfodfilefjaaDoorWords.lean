/-
  The words of this seat: what a slice value reads as (Sl), what a slice of the call's own holds (Own), and how both are kept. Plain lemmas over any program.
-/
import Derived.WalkKit
import Derived.ProofKit
import Derived.Deep.Slices
import Derived.Deep.Fields
import Derived.Deep.Draws
import Derived.Lib.Hide
import Derived.ChangeSame
import Derived.Lib.SmallJoins
import Derived.Maps.AppendAt
namespace Go.Proofs.YthplfodfilefjaaDoor
set_option maxRecDepth 100000
open Go.RowKit

/-- a slice value '.slice A n c' reads as the list xs; each element lies in k cells -/
def Sl {α : Type} (w : World) (k : Nat) (enc : α → List Value) (A : Option Addr) (n : Nat) (xs : List α) : Prop :=
  xs.length = n ∧ (0 < n → ∃ b off, A = some ⟨b, off, none⟩ ∧ b < w.heap.size ∧
    ∀ i x, xs[i]? = some x → ∀ j u, (enc x)[j]? = some u → w.cell? ⟨b, off + i * k + j, none⟩ = some u)

section
variable {α : Type} {w w' : World} {k n : Nat} {enc : α → List Value} {A : Option Addr} {xs : List α}

theorem Sl.len (h : Sl w k enc A n xs) : xs.length = n := h.1

theorem Sl.nil (A : Option Addr) : Sl w k enc A 0 ([] : List α) := ⟨rfl, fun h => absurd h (by omega)⟩

theorem Sl.at_ (h : Sl w k enc A n xs) {i : Nat} (hi : i < n) : ∃ b off x, A = some ⟨b, off, none⟩ ∧ xs[i]? = some x ∧ x ∈ xs ∧
    ∀ j u, (enc x)[j]? = some u → w.cell? ⟨b, off + i * k + j, none⟩ = some u := by
  obtain ⟨hl, hs⟩ := h
  obtain ⟨b, off, hA, _, hc⟩ := hs (by omega)
  exact ⟨b, off, xs[i]'(by omega), hA, List.getElem?_eq_getElem _, List.getElem_mem _, hc i _ (List.getElem?_eq_getElem _)⟩

theorem Sl.keep (h : Sl w k enc A n xs) (hsz : w.heap.size ≤ w'.heap.size) (hk : ∀ p : Addr, p.block < w.heap.size → w'.cell? p = w.cell? p) : Sl w' k enc A n xs :=
  ⟨h.1, fun hn => by
    obtain ⟨b, off, e, hb, hc⟩ := h.2 hn
    exact ⟨b, off, e, by omega, fun i x hx j u hu => (hk _ hb).trans (hc i x hx j u hu)⟩⟩

theorem Sl.below (h : Sl w k enc A n xs) (hb : Below w.heap.size w w') : Sl w' k enc A n xs := h.keep hb.size fun _ hp => hb.cell hp
theorem Sl.drew (h : Sl w k enc A n xs) : Sl w.drew k enc A n xs := h
theorem Sl.drewN (h : Sl w k enc A n xs) (m : Nat) : Sl (w.drewN m) k enc A n xs := h
theorem Sl.alloc (h : Sl w k enc A n xs) (o : Obj) : Sl (w.alloc o) k enc A n xs := h.keep (by simp) fun p hp => World.cell?_alloc_lt w o p hp
/-- a write to another block -/
theorem Sl.grown (h : Sl w k enc A n xs) {row : Option Nat} (hg : w.grownBy w' row) (hr : ∀ a : Addr, A = some a → row ≠ some a.block) : Sl w' k enc A n xs :=
  ⟨h.1, fun hn => by
    obtain ⟨b, off, e, hb, hc⟩ := h.2 hn
    exact ⟨b, off, e, by have := hg.size; omega, fun i x hx j u hu => (World.cell?_of_block (hg.block b hb (fun hh => hr _ e hh.symm))).trans (hc i x hx j u hu)⟩⟩
theorem Sl.setCell (h : Sl w k enc A n xs) {p : Addr} (hp : ∀ a : Addr, A = some a → a.block ≠ p.block) (u : Value) : Sl (w.setCell p u) k enc A n xs :=
  ⟨h.1, fun hn => by
    obtain ⟨b, off, e, hb, hc⟩ := h.2 hn
    refine ⟨b, off, e, by simpa using hb, fun i x hx j v hv => ?_⟩
    rw [World.cell?_setCell_other w p _ u (fun e' => hp _ e (by rw [e']))]
    exact hc i x hx j v hv⟩
/-- the first m elements -/
theorem Sl.take (h : Sl w k enc A n xs) {m : Nat} (hm : m ≤ n) : Sl w k enc A m (xs.take m) :=
  ⟨by rw [List.length_take, h.1]; omega, fun hp => by
    obtain ⟨b, off, e, hb, hc⟩ := h.2 (by omega)
    refine ⟨b, off, e, hb, fun i x hx => hc i x ?_⟩
    rw [List.getElem?_take] at hx
    split at hx
    · exact hx
    · cases hx⟩
end

/-- the cells of a list -/
theorem flat_len {α : Type} {enc : α → List Value} {k : Nat} (hk : ∀ x, (enc x).length = k) (xs : List α) : (xs.flatMap enc).length = xs.length * k := by
  induction xs with
  | nil => simp
  | cons x xs ih => simp [List.flatMap_cons, ih, hk, Nat.succ_mul, Nat.add_comm]

theorem flat_at {α : Type} {enc : α → List Value} {k : Nat} (hk : ∀ x, (enc x).length = k) (xs : List α) (i : Nat) (x : α) (hx : xs[i]? = some x) (j : Nat) (hj : j < k) :
    (xs.flatMap enc)[i * k + j]? = (enc x)[j]? := by
  induction xs generalizing i with
  | nil => simp at hx
  | cons y ys ih =>
    rw [List.flatMap_cons]
    cases i with
    | zero =>
      simp only [List.getElem?_cons_zero, Option.some.injEq] at hx
      subst hx
      rw [Nat.zero_mul, Nat.zero_add, List.getElem?_append_left (by rw [hk]; exact hj)]
    | succ i =>
      simp only [List.getElem?_cons_succ] at hx
      rw [List.getElem?_append_right (by rw [hk, Nat.succ_mul]; omega), hk, ← ih i hx]
      congr 1
      rw [Nat.succ_mul]; omega

/-- a slice value of the call's own that holds the list xs -/
def Own {α : Type} (w : World) (base : Nat) (e : TypeId) (k : Nat) (enc : α → List Value) (v : Value) (xs : List α) : Prop :=
  w.ownsRow base e k v xs.length (xs.flatMap enc)

section
variable {α : Type} {w w' : World} {base : Nat} {e : TypeId} {k : Nat} {enc : α → List Value} {v : Value} {xs : List α}

theorem Own.none_ : Own w base e k enc (.slice none 0 0) ([] : List α) := World.ownsRow_nil _ _ _ _
theorem Own.of_row {n : Nat} {ys : List Value} (h : w.ownsRow base e k v n ys) (hn : n = xs.length) (hy : ys = xs.flatMap enc) : Own w base e k enc v xs := by
  subst hn; subst hy; exact h
theorem Own.row (h : Own w base e k enc v xs) : w.ownsRow base e k v xs.length (xs.flatMap enc) := h
theorem Own.mono {base' : Nat} (h : Own w base e k enc v xs) (hb : base' ≤ base) : Own w base' e k enc v xs := by
  obtain ⟨h1, h2⟩ := h
  refine ⟨h1, ?_⟩
  rcases h2 with h2 | ⟨g, cap, cur, hv, hg, r⟩
  · exact .inl h2
  · exact .inr ⟨g, cap, cur, hv, by omega, r⟩
theorem Own.below (h : Own w base e k enc v xs) (hb : Below w.heap.size w w') : Own w' base e k enc v xs := by
  obtain ⟨h1, h2⟩ := h
  refine ⟨h1, ?_⟩
  rcases h2 with h2 | ⟨g, cap, cur, hv, hg, hh, r⟩
  · exact .inl h2
  · exact .inr ⟨g, cap, cur, hv, hg, (hb.block g (Array.getElem?_eq_some_iff.1 hh).1).trans hh, r⟩
theorem Own.alloc (h : Own w base e k enc v xs) (o : Obj) : Own (w.alloc o) base e k enc v xs := World.ownsRow.alloc h o
theorem Own.drew (h : Own w base e k enc v xs) : Own w.drew base e k enc v xs := h
theorem Own.drewN (h : Own w base e k enc v xs) (m : Nat) : Own (w.drewN m) base e k enc v xs := h
theorem Own.grown (h : Own w base e k enc v xs) {row : Option Nat} (hg : w.grownBy w' row) (hne : v.ownBlock = none ∨ v.ownBlock ≠ row) : Own w' base e k enc v xs := World.ownsRow.kept h hg hne
/-- the value, written out -/
theorem Own.val (h : Own w base e k enc v xs) : ∃ A c, v = .slice A xs.length c ∧ xs.length ≤ c ∧ c ≤ maxLen ∧ (0 < xs.length → ∃ g, A = some ⟨g, 0, none⟩ ∧ base ≤ g ∧ g < w.heap.size) := by
  rcases h.2 with ⟨h1, h2⟩ | ⟨g, cap, cur, hv, hg, hh, h1, h2, _⟩
  · exact ⟨none, 0, by rw [h1, h2], by omega, by simp [maxLen], fun h3 => absurd h3 (by omega)⟩
  · exact ⟨_, cap, hv, h1, h2, fun _ => ⟨g, rfl, hg, (Array.getElem?_eq_some_iff.1 hh).1⟩⟩
theorem Own.lt (h : Own w base e k enc v xs) : ∀ g, v.ownBlock = some g → base ≤ g ∧ g < w.heap.size := World.ownsRow.lt h
theorem Own.sl (hk : ∀ x, (enc x).length = k) {A : Option Addr} {n c : Nat} (h : Own w base e k enc (.slice A n c) xs) : Sl w k enc A n xs := by
  rcases h.2 with ⟨h1, h2⟩ | ⟨g, cap, cur, hv, hg, hh, h1, h2, h3, h4⟩
  · injection h1 with _ hn _
    subst hn
    have : xs = [] := List.eq_nil_of_length_eq_zero h2
    subst this
    exact Sl.nil _
  · injection hv with hA hn hc
    subst hA; subst hn; subst hc
    refine ⟨rfl, fun _ => ⟨g, 0, rfl, (Array.getElem?_eq_some_iff.1 hh).1, fun i x hx j u hu => ?_⟩⟩
    have hjk : j < k := by rw [← hk x]; exact (List.getElem?_eq_some_iff.1 hu).1
    have hil : i < xs.length := (List.getElem?_eq_some_iff.1 hx).1
    have hb : i * k + j < xs.length * k := by
      have : (i + 1) * k ≤ xs.length * k := Nat.mul_le_mul_right k hil
      rw [Nat.succ_mul] at this; omega
    have := h.row.cellAt (i * k + j) hb
    rw [Nat.zero_add, this, flat_at hk xs i x hx j hjk, hu]
end

/-- the law of a world that only grows: two steps -/
theorem below_step {a b c : World} (h : Below a.heap.size a b) (k : Below b.heap.size b c) : Below a.heap.size a c := h.trans (k.mono h.size)
theorem below_mid {a b c : World} {B : Nat} (h : Below B a b) (k : Below b.heap.size b c) (hB : B ≤ b.heap.size) : Below B a c := h.trans (k.mono hB)
theorem below_alloc (w : World) (o : Obj) : Below w.heap.size w (w.alloc o) := (Below.refl _ _).alloc (Nat.le_refl _) o
theorem below_drewN {a w : World} {B : Nat} (h : Below B a w) (n : Nat) : Below B a (w.drewN n) := ⟨h.os, h.tape, h.output, h.size, h.block⟩

open Go.ChangeShapes in
/-- THE END OF A LAW's PROOF: it returned true, and nothing that was there has turned. -/
theorem trodAll_below {H : Type} {enc : TypeId × Value → H} {P : Program} (hl : laidOutB P = true) {W W' : World} (hb : Below W.heap.size W W') :
    ∀ (ts : List TypeId) (vs : List Value) (ds : List (DataW H)) (ps : List MemPlace), (∀ t ∈ ts, P.readableRec t = true ∧ t < P.types.size) → (∀ x ∈ ps, x.block < W.heap.size) →
      DataW.TrodAll enc P W 0 (fun _ => true) true ts vs ds ps → DataW.TrodAll enc P W' 0 (fun b => decide (b < W.heap.size)) true ts vs ds ps
  | [], vs, ds, ps, _, _, h => by
    obtain ⟨rfl, rfl, rfl⟩ := trodAll_nil h
    exact trodAll_mk0
  | t :: ts, vs, ds, ps, ht, hlt, h => by
    obtain ⟨v, vs', d, ds', p, q, rfl, rfl, rfl, h0, h1⟩ := trodAll_cons h
    exact trodAll_cons_mk (Below.trod hl (ht t (by simp)).1 (ht t (by simp)).2 h0 hb fun x hx => hlt x (by simp [hx]))
      (trodAll_below hl hb ts vs' ds' q (fun t' h' => ht t' (by simp [h'])) (fun x hx => hlt x (by simp [hx])) h1)

section
open Go.ChangeShapes Go.WideShapes Go.Deep

/-- a struct's one-cell integer fields, read at the cells of a slice -/
theorem open_rows {α : Type} {H : Type} {enc : TypeId × Value → H} {P : Program} {w : World} {r : Reach} {b0 : Nat} {t e : TypeId} {fs : Array Field} {k : Nat} {v : Value} {d : DataW H} {p : List MemPlace}
    (ec : α → List Value) (mk : (Nat → Int) → α) (hmk : ∀ f, ec (mk f) = (List.range k).map fun j => Value.int .i64 (f j))
    (ht : P.underlying t = some (.slice e)) (he : P.underlying e = some (.struct fs)) (hone : oneCellFields P fs = true) (hC : P.cellsOf e = fs.size) (hk : fs.size = k) (hpos : 0 < k)
    (hint : ∀ (j : Nat) (f : Field), fs[j]? = some f → P.underlying f.type = some (.int .i64))
    (hv : Value.okWide P w r b0 t v) (h : DataW.Trod enc P w 0 (fun _ => true) true t v d p) :
    ∃ A n c xs, v = .slice A n c ∧ n ≤ maxLen ∧ Sl (α := α) w k ec A n xs ∧ ∀ x ∈ xs, ∃ f : Nat → Int, x = mk f ∧ ∀ j, j < k → -9223372036854775808 ≤ f j ∧ f j ≤ 9223372036854775807 := by
  obtain ⟨a0, n0, c0, rfl⟩ := okWide_slice ht hv
  obtain ⟨fuel, hf⟩ := h
  rcases open_slice ht hf with ⟨hcs, hx⟩ | ⟨a, len, cap, m, n, D, Pl, hcs, hb, hl, hm, hmm, hx, hi⟩
  · have e1 : a0 = none ∧ n0 = 0 ∧ c0 = 0 := by simpa [Value.cells] using hcs
    obtain ⟨rfl, rfl, rfl⟩ := e1
    exact ⟨none, 0, 0, [], rfl, by simp [maxLen], Sl.nil _, fun x hx => by cases hx⟩
  · have e1 : some a = a0 ∧ len = n0 ∧ cap = c0 := by simpa [Value.cells, eq_comm] using hcs
    obtain ⟨rfl, rfl, rfl⟩ := e1
    simp only [if_true] at hmm
    subst hmm
    have hcell : ∀ i, i < len → ∃ f : Nat → Int, ∀ j, j < k → w.cell? (a.add (i * k + j)) = some (.int .i64 (f j)) ∧ (-9223372036854775808 ≤ f j ∧ f j ≤ 9223372036854775807) := by
      intro i him
      obtain ⟨cs', hc, ht'⟩ := hi i (by omega)
      rw [hC, hk] at hc
      obtain ⟨ys, n', hn', hy, hlen, hyl, hff⟩ := DataW.trod_struct he ht'
      obtain ⟨_, hcl, hat⟩ := World.cells?_some hc
      refine choose_lt (α := Int) (p := fun j z => w.cell? (a.add (i * k + j)) = some (.int .i64 z) ∧ (-9223372036854775808 ≤ z ∧ z ≤ 9223372036854775807)) (fun j hj => ?_)
      have hjf : j < fs.size := by omega
      obtain ⟨ho, hkk⟩ := hone_of hone j fs[j] (Array.getElem?_eq_getElem hjf)
      have h1 := hff j fs[j] (Array.getElem?_eq_getElem hjf)
      rw [ho, hkk] at h1
      have hys : ys[j]? = some (ys[j]'(by omega)) := List.getElem?_eq_getElem (by omega)
      rw [hys] at h1
      obtain ⟨z, hz, _, hw⟩ := DataW.trod_int (hint j fs[j] (Array.getElem?_eq_getElem hjf)) h1
      have hone' : (cs'.drop j).take 1 = [cs'[j]'(by omega)] := by
        rw [List.drop_eq_getElem_cons (by omega)]
        rfl
      rw [hone'] at hz
      have hz' : cs'[j]'(by omega) = .int .i64 z := by simpa using hz
      have hcj := hat j (by omega)
      rw [List.getElem?_eq_getElem (by omega), hz'] at hcj
      refine ⟨z, ?_, ?_⟩
      · rw [← add_add]; exact hcj
      · simp [Lit.wf, IntKind.min, IntKind.max, IntKind.signed, IntKind.bits] at hw
        omega
    obtain ⟨F, hF⟩ : ∃ F : Nat → Nat → Int, ∀ i, i < len → ∀ j, j < k → w.cell? (a.add (i * k + j)) = some (.int .i64 (F i j)) ∧ (-9223372036854775808 ≤ F i j ∧ F i j ≤ 9223372036854775807) := choose_lt (p := fun i (f : Nat → Int) => ∀ j, j < k → w.cell? (a.add (i * k + j)) = some (.int .i64 (f j)) ∧ (-9223372036854775808 ≤ f j ∧ f j ≤ 9223372036854775807)) hcell
    refine ⟨some a, len, _, (List.range len).map fun i => mk (F i), rfl, by omega, ⟨by simp, fun hn => ?_⟩, fun x hx => ?_⟩
    · obtain ⟨b, off, spot⟩ := a
      have h0 := (hF 0 hn 0 hpos).1
      have hspot : spot = none := by simpa [Addr.add] using World.cell?_spot h0
      subst hspot
      refine ⟨b, off, rfl, ?_, fun i x hx j u hu => ?_⟩
      · have := World.block_lt_of_cell? w _ h0
        simpa [Addr.add] using this
      · rw [List.getElem?_map] at hx
        obtain ⟨i', hi', rfl⟩ := Option.map_eq_some_iff.1 hx
        have hin : i < len := by
          have := (List.getElem?_eq_some_iff.1 hi').1
          simpa using this
        have : i' = i := by
          rw [List.getElem?_range hin] at hi'
          exact (Option.some.inj hi').symm
        subst this
        rw [hmk] at hu
        have hjk : j < k := by
          have := (List.getElem?_eq_some_iff.1 hu).1
          simpa using this
        rw [List.getElem?_map, List.getElem?_range hjk] at hu
        have hc := (hF i' hin j hjk).1
        rw [add_plain] at hc
        rw [Nat.add_assoc, hc]
        simpa using hu
    · obtain ⟨i, hi', rfl⟩ := List.mem_map.1 hx
      exact ⟨F i, rfl, fun j hj => (hF i (List.mem_range.1 hi') j hj).2⟩

theorem law_post {H : Type} {enc : TypeId × Value → H} {P : Program} {f : Func} {s : ChangeSpec} {W W' : World} {args : Array Value} {ds gs : List (DataW H)} {before : List MemPlace} {T : TypeId}
    (hl : laidOutB P = true) (hf : ∀ t ∈ f.params.toList, P.readableRec t = true ∧ t < P.types.size) (hr : f.resultTypes = #[T]) (hT : P.underlying T = some .bool)
    (hvs : s.vars = []) (hs : s.fn H (ds ++ gs) = { results := [.lit (.bool true)], args := ds })
    (hW : DataW.Whole enc P f.params.toList s.vars false W args.toList ds gs before) (hb : Below W.heap.size W W') :
    s.post enc P f false true false false W args (.bool true) W' := by
  have hlt : ∀ x ∈ before, x.block < W.heap.size := fun x hx => by simpa using hW.lt x hx
  have hW' := hW
  obtain ⟨p, q, hA, hV, rfl, hfz, hnd⟩ := hW
  refine ⟨ds, gs, p ++ q, [], p, [], hW', ?_, ?_, ?_, hb.frame _, fun h => by cases h⟩
  · rw [hs, hr]
    exact trodAll_cons_mk (shut_bool hT _) trodAll_mk0
  · rw [hs]
    exact trodAll_below hl hb _ _ _ _ hf (fun x hx => hlt x (List.mem_append_left _ hx)) hA
  · rw [hs, hvs]
    rfl
end

/-! ### elements of one to four int64 cells -/
def e1 (x : Int) : List Value := [.int .i64 x]
def e2 (x : Int × Int) : List Value := [.int .i64 x.1, .int .i64 x.2]
def e3 (x : Int × Int × Int) : List Value := [.int .i64 x.1, .int .i64 x.2.1, .int .i64 x.2.2]
def e4 (x : Int × Int × Int × Int) : List Value := [.int .i64 x.1, .int .i64 x.2.1, .int .i64 x.2.2.1, .int .i64 x.2.2.2]
theorem e1_len (x : Int) : (e1 x).length = 1 := rfl
theorem e2_len (x : Int × Int) : (e2 x).length = 2 := rfl
theorem e3_len (x : Int × Int × Int) : (e3 x).length = 3 := rfl
theorem e4_len (x : Int × Int × Int × Int) : (e4 x).length = 4 := rfl

def In64 (x : Int) : Prop := -9223372036854775808 ≤ x ∧ x ≤ 9223372036854775807

section
variable {w : World} {n i : Nat} {A : Option Addr}
theorem Sl.at1 {xs : List Int} (h : Sl w 1 e1 A n xs) (hi : i < n) : ∃ b off x, A = some ⟨b, off, none⟩ ∧ xs[i]? = some x ∧ x ∈ xs ∧ w.cell? ⟨b, off + i, none⟩ = some (.int .i64 x) := by
  obtain ⟨b, off, x, hA, hx, hm, hc⟩ := h.at_ hi
  exact ⟨b, off, x, hA, hx, hm, by simpa using hc 0 _ rfl⟩
theorem Sl.at2 {xs : List (Int × Int)} (h : Sl w 2 e2 A n xs) (hi : i < n) : ∃ b off x, A = some ⟨b, off, none⟩ ∧ xs[i]? = some x ∧ x ∈ xs ∧
    w.cell? ⟨b, off + i * 2, none⟩ = some (.int .i64 x.1) ∧ w.cell? ⟨b, off + i * 2 + 1, none⟩ = some (.int .i64 x.2) := by
  obtain ⟨b, off, x, hA, hx, hm, hc⟩ := h.at_ hi
  exact ⟨b, off, x, hA, hx, hm, hc 0 _ rfl, hc 1 _ rfl⟩
theorem Sl.at3 {xs : List (Int × Int × Int)} (h : Sl w 3 e3 A n xs) (hi : i < n) : ∃ b off x, A = some ⟨b, off, none⟩ ∧ xs[i]? = some x ∧ x ∈ xs ∧
    w.cell? ⟨b, off + i * 3, none⟩ = some (.int .i64 x.1) ∧ w.cell? ⟨b, off + i * 3 + 1, none⟩ = some (.int .i64 x.2.1) ∧ w.cell? ⟨b, off + i * 3 + 2, none⟩ = some (.int .i64 x.2.2) := by
  obtain ⟨b, off, x, hA, hx, hm, hc⟩ := h.at_ hi
  exact ⟨b, off, x, hA, hx, hm, hc 0 _ rfl, hc 1 _ rfl, hc 2 _ rfl⟩
theorem Sl.at4 {xs : List (Int × Int × Int × Int)} (h : Sl w 4 e4 A n xs) (hi : i < n) : ∃ b off x, A = some ⟨b, off, none⟩ ∧ xs[i]? = some x ∧ x ∈ xs ∧
    w.cell? ⟨b, off + i * 4, none⟩ = some (.int .i64 x.1) ∧ w.cell? ⟨b, off + i * 4 + 1, none⟩ = some (.int .i64 x.2.1) ∧ w.cell? ⟨b, off + i * 4 + 2, none⟩ = some (.int .i64 x.2.2.1) ∧ w.cell? ⟨b, off + i * 4 + 3, none⟩ = some (.int .i64 x.2.2.2) := by
  obtain ⟨b, off, x, hA, hx, hm, hc⟩ := h.at_ hi
  exact ⟨b, off, x, hA, hx, hm, hc 0 _ rfl, hc 1 _ rfl, hc 2 _ rfl, hc 3 _ rfl⟩
end

theorem i64_of {x : Int} (h : (Lit.int .i64 x).wf = true) : In64 x := by
  simp [Lit.wf, IntKind.min, IntKind.max, IntKind.signed, IntKind.bits] at h
  unfold In64; omega

section
open Go.ChangeShapes Go.WideShapes Go.Deep Go.Joins
variable {H : Type} {enc : TypeId × Value → H} {P : Program} {w : World} {r : Reach} {b0 : Nat} {t e : TypeId} {v : Value} {d : DataW H} {p : List MemPlace}

theorem open_rows2 {f0 f1 : Field} (ht : P.underlying t = some (.slice e)) (he : P.underlying e = some (.struct #[f0, f1])) (hone : oneCellFields P #[f0, f1] = true) (hC : P.cellsOf e = 2)
    (i0 : P.underlying f0.type = some (.int .i64)) (i1 : P.underlying f1.type = some (.int .i64))
    (hv : Value.okWide P w r b0 t v) (h : DataW.Trod enc P w 0 (fun _ => true) true t v d p) :
    ∃ A n c xs, v = .slice A n c ∧ n ≤ maxLen ∧ Sl w 2 e2 A n xs ∧ ∀ x ∈ xs, In64 x.1 ∧ In64 x.2 := by
  obtain ⟨A, n, c, xs, rfl, hn, hs, hb⟩ := open_rows (k := 2) e2 (fun f => (f 0, f 1)) (fun f => rfl) ht he hone hC rfl (by omega)
    (fun j f hj => by
      match j, hj with
      | 0, hj => cases hj; exact i0
      | 1, hj => cases hj; exact i1) hv h
  refine ⟨A, n, c, xs, rfl, hn, hs, fun x hx => ?_⟩
  obtain ⟨f, rfl, hf⟩ := hb x hx
  exact ⟨hf 0 (by omega), hf 1 (by omega)⟩
theorem open_rows3 {f0 f1 f2 : Field} (ht : P.underlying t = some (.slice e)) (he : P.underlying e = some (.struct #[f0, f1, f2])) (hone : oneCellFields P #[f0, f1, f2] = true) (hC : P.cellsOf e = 3)
    (i0 : P.underlying f0.type = some (.int .i64)) (i1 : P.underlying f1.type = some (.int .i64)) (i2 : P.underlying f2.type = some (.int .i64))
    (hv : Value.okWide P w r b0 t v) (h : DataW.Trod enc P w 0 (fun _ => true) true t v d p) :
    ∃ A n c xs, v = .slice A n c ∧ n ≤ maxLen ∧ Sl w 3 e3 A n xs ∧ ∀ x ∈ xs, In64 x.1 ∧ In64 x.2.1 ∧ In64 x.2.2 := by
  obtain ⟨A, n, c, xs, rfl, hn, hs, hb⟩ := open_rows (k := 3) e3 (fun f => (f 0, f 1, f 2)) (fun f => rfl) ht he hone hC rfl (by omega)
    (fun j f hj => by
      match j, hj with
      | 0, hj => cases hj; exact i0
      | 1, hj => cases hj; exact i1
      | 2, hj => cases hj; exact i2) hv h
  refine ⟨A, n, c, xs, rfl, hn, hs, fun x hx => ?_⟩
  obtain ⟨f, rfl, hf⟩ := hb x hx
  exact ⟨hf 0 (by omega), hf 1 (by omega), hf 2 (by omega)⟩
theorem open_rows4 {f0 f1 f2 f3 : Field} (ht : P.underlying t = some (.slice e)) (he : P.underlying e = some (.struct #[f0, f1, f2, f3])) (hone : oneCellFields P #[f0, f1, f2, f3] = true) (hC : P.cellsOf e = 4)
    (i0 : P.underlying f0.type = some (.int .i64)) (i1 : P.underlying f1.type = some (.int .i64)) (i2 : P.underlying f2.type = some (.int .i64)) (i3 : P.underlying f3.type = some (.int .i64))
    (hv : Value.okWide P w r b0 t v) (h : DataW.Trod enc P w 0 (fun _ => true) true t v d p) :
    ∃ A n c xs, v = .slice A n c ∧ n ≤ maxLen ∧ Sl w 4 e4 A n xs ∧ ∀ x ∈ xs, In64 x.1 ∧ In64 x.2.1 ∧ In64 x.2.2.1 ∧ In64 x.2.2.2 := by
  obtain ⟨A, n, c, xs, rfl, hn, hs, hb⟩ := open_rows (k := 4) e4 (fun f => (f 0, f 1, f 2, f 3)) (fun f => rfl) ht he hone hC rfl (by omega)
    (fun j f hj => by
      match j, hj with
      | 0, hj => cases hj; exact i0
      | 1, hj => cases hj; exact i1
      | 2, hj => cases hj; exact i2
      | 3, hj => cases hj; exact i3) hv h
  refine ⟨A, n, c, xs, rfl, hn, hs, fun x hx => ?_⟩
  obtain ⟨f, rfl, hf⟩ := hb x hx
  exact ⟨hf 0 (by omega), hf 1 (by omega), hf 2 (by omega), hf 3 (by omega)⟩
theorem open_ints1 (ht : P.underlying t = some (.slice e)) (he : P.underlying e = some (.int .i64)) (hC : P.cellsOf e = 1)
    (hv : Value.okWide P w r b0 t v) (h : DataW.Trod enc P w 0 (fun _ => true) true t v d p) :
    ∃ A n c xs, v = .slice A n c ∧ n ≤ maxLen ∧ Sl w 1 e1 A n xs ∧ ∀ x ∈ xs, In64 x := by
  obtain ⟨a0, n0, c0, rfl⟩ := okWide_slice ht hv
  obtain ⟨fuel, hf⟩ := h
  rcases open_ints ht he hC hf with ⟨hcs, hx⟩ | ⟨a, len, cap, zs, hcs, hb, hl, hm, hz, hx, hi, hw⟩
  · have e1 : a0 = none ∧ n0 = 0 ∧ c0 = 0 := by simpa [Value.cells] using hcs
    obtain ⟨rfl, rfl, rfl⟩ := e1
    exact ⟨none, 0, 0, [], rfl, by simp [maxLen], Sl.nil _, fun x hx => by cases hx⟩
  · have e1 : some a = a0 ∧ len = n0 ∧ cap = c0 := by simpa [Value.cells, eq_comm] using hcs
    obtain ⟨rfl, rfl, rfl⟩ := e1
    simp only [if_true] at hz
    refine ⟨some a, len, cap, zs.take len, rfl, by omega, ⟨by rw [List.length_take]; omega, fun hn => ?_⟩, fun x hx => i64_of (hw x (List.mem_of_mem_take hx))⟩
    obtain ⟨b, off, spot⟩ := a
    have h0 := hi 0 (by omega)
    have hspot : spot = none := by simpa [Addr.add] using World.cell?_spot h0
    subst hspot
    refine ⟨b, off, rfl, ?_, fun i x hx j u hu => ?_⟩
    · have := World.block_lt_of_cell? w _ h0
      simpa [Addr.add] using this
    · rw [List.getElem?_take] at hx
      split at hx
      · rename_i hin
        have hc := hi i (by omega)
        rw [add_plain] at hc
        have hxx : zs.getD i 0 = x := by rw [List.getD_eq_getElem?_getD, hx]; rfl
        match j, hu with
        | 0, hu =>
          have : u = .int .i64 x := by simpa [Go.Proofs.YthplfodfilefjaaDoor.e1] using hu.symm
          subst this
          rw [Nat.mul_one, Nat.add_zero, hc, hxx]
        | j + 1, hu => simp [Go.Proofs.YthplfodfilefjaaDoor.e1] at hu
      · cases hx
theorem open_agg2I {f0 f1 : Field} (hs : P.underlying t = some (.struct #[f0, f1])) (hone : oneCellFields P #[f0, f1] = true) (hC : P.cellsOf t = 2)
    (i0 : P.underlying f0.type = some (.int .i64)) (i1 : P.underlying f1.type = some (.int .i64))
    (hv : Value.okWide P w r b0 t v) (h : DataW.Trod enc P w 0 (fun _ => true) true t v d p) :
    ∃ a b : Int, v = .agg #[.int .i64 a, .int .i64 b] ∧ In64 a ∧ In64 b := by
  obtain ⟨c0, c1, y0, y1, m, rfl, _, _, hy0, hy1⟩ := open_agg2 hs hone hC hv h
  obtain ⟨a, ea, _, wa⟩ := DataW.trod_int i0 hy0
  obtain ⟨b, eb, _, wb⟩ := DataW.trod_int i1 hy1
  simp at ea eb
  exact ⟨a, b, by rw [ea, eb], i64_of wa, i64_of wb⟩
theorem open_agg3I {f0 f1 f2 : Field} (hs : P.underlying t = some (.struct #[f0, f1, f2])) (hone : oneCellFields P #[f0, f1, f2] = true) (hC : P.cellsOf t = 3)
    (i0 : P.underlying f0.type = some (.int .i64)) (i1 : P.underlying f1.type = some (.int .i64)) (i2 : P.underlying f2.type = some (.int .i64))
    (hv : Value.okWide P w r b0 t v) (h : DataW.Trod enc P w 0 (fun _ => true) true t v d p) :
    ∃ a b c : Int, v = .agg #[.int .i64 a, .int .i64 b, .int .i64 c] ∧ In64 a ∧ In64 b ∧ In64 c := by
  obtain ⟨c0, c1, c2, y0, y1, y2, m, rfl, _, _, hy0, hy1, hy2⟩ := open_agg3 hs hone hC hv h
  obtain ⟨a, ea, _, wa⟩ := DataW.trod_int i0 hy0
  obtain ⟨b, eb, _, wb⟩ := DataW.trod_int i1 hy1
  obtain ⟨c, ec, _, wc⟩ := DataW.trod_int i2 hy2
  simp at ea eb ec
  exact ⟨a, b, c, by rw [ea, eb, ec], i64_of wa, i64_of wb, i64_of wc⟩
end

/-! ### stores into a row of the call's own -/
theorem set1 (ys : List Int) (i : Nat) (a : Int) : (ys.flatMap e1).set i (.int .i64 a) = (ys.set i a).flatMap e1 := by
  induction ys generalizing i with
  | nil => simp
  | cons y ys ih =>
    cases i with
    | zero => simp [List.flatMap_cons, e1]
    | succ i => simp only [List.flatMap_cons, e1, List.set_cons_succ, List.cons_append, List.nil_append]; rw [ih]
theorem set2 (ys : List (Int × Int)) (i : Nat) (x : Int × Int) : ((ys.flatMap e2).set (i * 2) (.int .i64 x.1)).set (i * 2 + 1) (.int .i64 x.2) = (ys.set i x).flatMap e2 := by
  induction ys generalizing i with
  | nil => simp
  | cons y ys ih =>
    cases i with
    | zero => simp [List.flatMap_cons, e2]
    | succ i =>
      rw [show (i + 1) * 2 = i * 2 + 1 + 1 from by omega, show i * 2 + 1 + 1 + 1 = (i * 2 + 1) + 1 + 1 from rfl]
      simp only [List.flatMap_cons, e2, List.set_cons_succ, List.cons_append, List.nil_append]; rw [ih]
theorem set3 (ys : List (Int × Int × Int)) (i : Nat) (x : Int × Int × Int) : (((ys.flatMap e3).set (i * 3) (.int .i64 x.1)).set (i * 3 + 1) (.int .i64 x.2.1)).set (i * 3 + 2) (.int .i64 x.2.2) = (ys.set i x).flatMap e3 := by
  induction ys generalizing i with
  | nil => simp
  | cons y ys ih =>
    cases i with
    | zero => simp [List.flatMap_cons, e3]
    | succ i =>
      rw [show (i + 1) * 3 = i * 3 + 1 + 1 + 1 from by omega, show i * 3 + 1 + 1 + 1 + 1 = (i * 3 + 1) + 1 + 1 + 1 from rfl, show i * 3 + 1 + 1 + 1 + 2 = (i * 3 + 2) + 1 + 1 + 1 from rfl]
      simp only [List.flatMap_cons, e3, List.set_cons_succ, List.cons_append, List.nil_append]; rw [ih]
theorem set4 (ys : List (Int × Int × Int × Int)) (i : Nat) (x : Int × Int × Int × Int) : ((((ys.flatMap e4).set (i * 4) (.int .i64 x.1)).set (i * 4 + 1) (.int .i64 x.2.1)).set (i * 4 + 2) (.int .i64 x.2.2.1)).set (i * 4 + 3) (.int .i64 x.2.2.2) = (ys.set i x).flatMap e4 := by
  induction ys generalizing i with
  | nil => simp
  | cons y ys ih =>
    cases i with
    | zero => simp [List.flatMap_cons, e4]
    | succ i =>
      rw [show (i + 1) * 4 = i * 4 + 1 + 1 + 1 + 1 from by omega, show i * 4 + 1 + 1 + 1 + 1 + 1 = (i * 4 + 1) + 1 + 1 + 1 + 1 from rfl, show i * 4 + 1 + 1 + 1 + 1 + 2 = (i * 4 + 2) + 1 + 1 + 1 + 1 from rfl, show i * 4 + 1 + 1 + 1 + 1 + 3 = (i * 4 + 3) + 1 + 1 + 1 + 1 from rfl]
      simp only [List.flatMap_cons, e4, List.set_cons_succ, List.cons_append, List.nil_append]; rw [ih]

section
variable {w : World} {base : Nat} {e : TypeId} {g n cap : Nat}
theorem Own.set1 {ys : List Int} (h : Own w base e 1 e1 (.slice (some ⟨g, 0, none⟩) n cap) ys) (i : Nat) (x : Int) :
    Own (w.setCell ⟨g, i, none⟩ (.int .i64 x)) base e 1 e1 (.slice (some ⟨g, 0, none⟩) n cap) (ys.set i x) := by
  obtain ⟨A, c, hv, _⟩ := h.val
  injection hv with _ hn _
  subst hn
  have h1 := (World.ownsRow.stored h i (.int .i64 x)).1
  exact Own.of_row h1 (by simp) (Proofs.YthplfodfilefjaaDoor.set1 ys i x)
theorem Own.set2 {ys : List (Int × Int)} (h : Own w base e 2 e2 (.slice (some ⟨g, 0, none⟩) n cap) ys) (i : Nat) (x : Int × Int) :
    Own ((w.setCell ⟨g, i * 2, none⟩ (.int .i64 x.1)).setCell ⟨g, i * 2 + 1, none⟩ (.int .i64 x.2)) base e 2 e2 (.slice (some ⟨g, 0, none⟩) n cap) (ys.set i x) := by
  obtain ⟨A, c, hv, _⟩ := h.val
  injection hv with _ hn _
  subst hn
  have h1 := (World.ownsRow.stored h (i * 2) (.int .i64 x.1)).1
  have h2 := (World.ownsRow.stored h1 (i * 2 + 1) (.int .i64 x.2)).1
  exact Own.of_row h2 (by simp) (Proofs.YthplfodfilefjaaDoor.set2 ys i x)
theorem Own.set3 {ys : List (Int × Int × Int)} (h : Own w base e 3 e3 (.slice (some ⟨g, 0, none⟩) n cap) ys) (i : Nat) (x : Int × Int × Int) :
    Own (((w.setCell ⟨g, i * 3, none⟩ (.int .i64 x.1)).setCell ⟨g, i * 3 + 1, none⟩ (.int .i64 x.2.1)).setCell ⟨g, i * 3 + 2, none⟩ (.int .i64 x.2.2)) base e 3 e3 (.slice (some ⟨g, 0, none⟩) n cap) (ys.set i x) := by
  obtain ⟨A, c, hv, _⟩ := h.val
  injection hv with _ hn _
  subst hn
  have h1 := (World.ownsRow.stored h (i * 3) (.int .i64 x.1)).1
  have h2 := (World.ownsRow.stored h1 (i * 3 + 1) (.int .i64 x.2.1)).1
  have h3 := (World.ownsRow.stored h2 (i * 3 + 2) (.int .i64 x.2.2)).1
  exact Own.of_row h3 (by simp) (Proofs.YthplfodfilefjaaDoor.set3 ys i x)
theorem Own.set4 {ys : List (Int × Int × Int × Int)} (h : Own w base e 4 e4 (.slice (some ⟨g, 0, none⟩) n cap) ys) (i : Nat) (x : Int × Int × Int × Int) :
    Own ((((w.setCell ⟨g, i * 4, none⟩ (.int .i64 x.1)).setCell ⟨g, i * 4 + 1, none⟩ (.int .i64 x.2.1)).setCell ⟨g, i * 4 + 2, none⟩ (.int .i64 x.2.2.1)).setCell ⟨g, i * 4 + 3, none⟩ (.int .i64 x.2.2.2)) base e 4 e4 (.slice (some ⟨g, 0, none⟩) n cap) (ys.set i x) := by
  obtain ⟨A, c, hv, _⟩ := h.val
  injection hv with _ hn _
  subst hn
  have h1 := (World.ownsRow.stored h (i * 4) (.int .i64 x.1)).1
  have h2 := (World.ownsRow.stored h1 (i * 4 + 1) (.int .i64 x.2.1)).1
  have h3 := (World.ownsRow.stored h2 (i * 4 + 2) (.int .i64 x.2.2.1)).1
  have h4 := (World.ownsRow.stored h3 (i * 4 + 3) (.int .i64 x.2.2.2)).1
  exact Own.of_row h4 (by simp) (Proofs.YthplfodfilefjaaDoor.set4 ys i x)
/-- a cell of a row of the call's own, and that it is not frozen -/
theorem Own.cell {α : Type} {k : Nat} {enc : α → List Value} (hk : ∀ x, (enc x).length = k) {ys : List α} (h : Own w base e k enc (.slice (some ⟨g, 0, none⟩) n cap) ys) {i : Nat} {y : α} (hy : ys[i]? = some y) {j : Nat} {u : Value} (hu : (enc y)[j]? = some u) :
    w.cell? ⟨g, i * k + j, none⟩ = some u := by
  have hs := h.sl hk
  obtain ⟨b, off, hA, _, hc⟩ := hs.2 (by rw [← hs.1]; have := (List.getElem?_eq_some_iff.1 hy).1; omega)
  have hv : ∃ g cap cur, (Value.slice (some ⟨b, off, none⟩) n cap) = .slice (some ⟨g, 0, none⟩) ys.length cap ∧ cur = g := by
    injection hA with hA
    injection hA with h1 h2 _
    subst h1; subst h2
    refine ⟨g, cap, g, ?_, rfl⟩
    rw [hs.1]
  injection hA with hA
  injection hA with h1 h2 _
  subst h1; subst h2
  have := hc i y hy j u hu
  rwa [Nat.zero_add] at this
theorem Own.free {α : Type} {k : Nat} {enc : α → List Value} {ys : List α} (h : Own w base e k enc (.slice (some ⟨g, 0, none⟩) n cap) ys) (j : Nat) : w.frozen? ⟨g, j, none⟩ = false := by
  rcases h.2 with ⟨h1, _⟩ | ⟨g', cap', cur, hv, _, hh, _⟩
  · cases h1
  · injection hv with hA _ _
    injection hA with hA
    injection hA with h1 _ _
    subst h1
    exact frozen_of_row w g j cur e hh
theorem Own.blt {α : Type} {k : Nat} {enc : α → List Value} {ys : List α} (h : Own w base e k enc (.slice (some ⟨g, 0, none⟩) n cap) ys) : base ≤ g ∧ g < w.heap.size := h.lt g rfl
end

/-- a row half filled -/
def mixK {α : Type} (z : α) (xs : List α) (n k : Nat) : List α := xs.take k ++ List.replicate (n - k) z
theorem mixK_zero {α : Type} (z : α) (xs : List α) (n : Nat) : mixK z xs n 0 = List.replicate n z := by simp [mixK]
theorem mixK_all {α : Type} (z : α) (xs : List α) (n : Nat) (h : xs.length = n) : mixK z xs n n = xs := by
  simp [mixK, List.take_of_length_le (show xs.length ≤ n by omega)]
theorem mixK_set {α : Type} (z : α) {xs : List α} {n k : Nat} {x : α} (h : xs.length = n) (hx : xs[k]? = some x) : (mixK z xs n k).set k x = mixK z xs n (k + 1) := by
  have hk : k < xs.length := (List.getElem?_eq_some_iff.1 hx).1
  unfold mixK
  rw [List.set_append_right k x (by rw [List.length_take]; omega)]
  rw [List.length_take, Nat.min_eq_left (by omega), Nat.sub_self, List.take_add_one, hx, List.append_assoc]
  congr 1
  rw [show n - k = (n - (k + 1)) + 1 by omega, List.replicate_succ]
  rfl
theorem mixK_get {α : Type} (z : α) {xs : List α} {n k : Nat} (h : xs.length = n) (hk : k < n) : (mixK z xs n k)[k]? = some z := by
  unfold mixK
  rw [List.getElem?_append_right (by rw [List.length_take]; omega), List.length_take, Nat.min_eq_left (by omega), Nat.sub_self, List.getElem?_replicate, if_pos (by omega)]

theorem madeK {α : Type} {enc : α → List Value} {k : Nat} (hk : ∀ x, (enc x).length = k) (hpos : 0 < k) (z : α) (n : Nat) : (madeCells (enc z).toArray (n * k)).toList = (List.replicate n z).flatMap enc := by
  apply List.ext_getElem?
  intro j
  have hl : ((List.replicate n z).flatMap enc).length = n * k := by rw [flat_len hk]; simp
  by_cases hj : j < n * k
  · have hq : j / k < n := Nat.div_lt_of_lt_mul (by rw [Nat.mul_comm]; exact hj)
    have hr : j % k < k := Nat.mod_lt _ hpos
    have h := flat_at hk (List.replicate n z) (j / k) z (by rw [List.getElem?_replicate, if_pos hq]) (j % k) hr
    rw [show j / k * k + j % k = j by rw [Nat.mul_comm]; exact Nat.div_add_mod j k] at h
    rw [h]
    simp [madeCells, hj, hk, hr]
  · rw [List.getElem?_eq_none (by rw [Array.length_toList, size_madeCells]; omega), List.getElem?_eq_none (by rw [hl]; omega)]
theorem made1 (n : Nat) : (madeCells (Value.cells (.int .i64 0)) (n * 1)).toList = (List.replicate n (0 : Int)).flatMap e1 := madeK e1_len (by omega) (0 : Int) n

/-- a row whose first k elements are those of ys, the others those of xs -/
def overK {α : Type} (ys xs : List α) (k : Nat) : List α := ys.take k ++ xs.drop k
theorem overK_len {α : Type} {ys xs : List α} {k : Nat} : (overK ys xs k).length = min k ys.length + (xs.length - k) := by simp [overK]
theorem overK_zero {α : Type} (ys xs : List α) : overK ys xs 0 = xs := by simp [overK]
theorem overK_all {α : Type} {ys xs : List α} {n : Nat} (h : ys.length = n) (h' : xs.length = n) : overK ys xs n = ys := by
  unfold overK
  rw [List.take_of_length_le (by omega), List.drop_eq_nil_of_le (by omega), List.append_nil]
theorem overK_get {α : Type} {ys xs : List α} {k n : Nat} (h : ys.length = n) (h' : xs.length = n) (hk : k < n) : ∃ x, xs[k]? = some x ∧ (overK ys xs k)[k]? = some x := by
  refine ⟨xs[k]'(by omega), List.getElem?_eq_getElem _, ?_⟩
  unfold overK
  rw [List.getElem?_append_right (by rw [List.length_take]; omega), List.length_take, Nat.min_eq_left (by omega), Nat.sub_self, List.getElem?_drop, Nat.add_zero, List.getElem?_eq_getElem (by omega)]
theorem overK_set {α : Type} {ys xs : List α} {k n : Nat} {y : α} (h : ys.length = n) (h' : xs.length = n) (hy : ys[k]? = some y) : (overK ys xs k).set k y = overK ys xs (k + 1) := by
  have hk : k < ys.length := (List.getElem?_eq_some_iff.1 hy).1
  unfold overK
  rw [List.set_append_right k y (by rw [List.length_take]; omega), List.length_take, Nat.min_eq_left (by omega), Nat.sub_self, List.take_add_one, hy, List.append_assoc]
  congr 1
  rw [List.drop_eq_getElem_cons (by omega)]
  rfl

/-- the marks that a row gets from k0 on -/
def marks1 (k0 : Int) (n : Nat) : List Int := (List.range n).map fun i : Nat => k0 + i
def marks2 (k0 : Int) (n : Nat) : List (Int × Int) := (List.range n).map fun i : Nat => (k0 + i * 2, k0 + i * 2 + 1)
def marks3 (k0 : Int) (n : Nat) : List (Int × Int × Int) := (List.range n).map fun i : Nat => (k0 + i * 3, k0 + i * 3 + 1, k0 + i * 3 + 1 + 1)
def marks4 (k0 : Int) (n : Nat) : List (Int × Int × Int × Int) := (List.range n).map fun i : Nat => (k0 + i * 4, k0 + i * 4 + 1, k0 + i * 4 + 1 + 1, k0 + i * 4 + 1 + 1 + 1)
theorem marks1_len (k0 : Int) (n : Nat) : (marks1 k0 n).length = n := by simp [marks1]
theorem marks2_len (k0 : Int) (n : Nat) : (marks2 k0 n).length = n := by simp [marks2]
theorem marks3_len (k0 : Int) (n : Nat) : (marks3 k0 n).length = n := by simp [marks3]
theorem marks4_len (k0 : Int) (n : Nat) : (marks4 k0 n).length = n := by simp [marks4]
theorem marks1_get (k0 : Int) {n k : Nat} (h : k < n) : (marks1 k0 n)[k]? = some (k0 + k) := by simp [marks1, h]
theorem marks2_get (k0 : Int) {n k : Nat} (h : k < n) : (marks2 k0 n)[k]? = some (k0 + k * 2, k0 + k * 2 + 1) := by simp [marks2, h]
theorem marks3_get (k0 : Int) {n k : Nat} (h : k < n) : (marks3 k0 n)[k]? = some (k0 + k * 3, k0 + k * 3 + 1, k0 + k * 3 + 1 + 1) := by simp [marks3, h]
theorem marks4_get (k0 : Int) {n k : Nat} (h : k < n) : (marks4 k0 n)[k]? = some (k0 + k * 4, k0 + k * 4 + 1, k0 + k * 4 + 1 + 1, k0 + k * 4 + 1 + 1 + 1) := by simp [marks4, h]

theorem only_setCell {a w : World} {g : Nat} (h : a.grownBy w (some g)) {p : Addr} (hp : p.block = g ∨ a.heap.size ≤ p.block) (u : Value) : a.grownBy (w.setCell p u) (some g) :=
  ⟨h.os, h.tape, h.output, by simpa [World.setCell] using h.size, fun i hi hne => (Below.heap_setCell w p u i (by
    rintro rfl
    rcases hp with hp | hp
    · exact hne (by rw [hp])
    · omega)).trans (h.block i hi hne)⟩
theorem Own.form {α : Type} {w : World} {base : Nat} {e : TypeId} {k : Nat} {enc : α → List Value} {A : Option Addr} {n c : Nat} {xs : List α} (h : Own w base e k enc (.slice A n c) xs) :
    (A = none ∧ n = 0 ∧ c = 0 ∧ xs = []) ∨ ∃ g, A = some ⟨g, 0, none⟩ := by
  rcases h.2 with ⟨h1, h2⟩ | ⟨g, cap, cur, hv, _⟩
  · cases h1
    exact .inl ⟨rfl, rfl, rfl, List.eq_nil_of_length_eq_zero h2⟩
  · cases hv
    exact .inr ⟨g, rfl⟩

/-- a call hands back a new slice that holds xs; nothing that was there has turned -/
def RetOwn {α : Type} (T : TypeId) (k : Nat) (enc : α → List Value) (xs : List α) (w : World) (e : Ending) (w' : World) : Prop :=
  ∃ A n c, e = .returned (.slice A n c) ∧ Own w' w.heap.size T k enc (.slice A n c) xs ∧ Below w.heap.size w w'
/-- the same with a code -/
def RetOwnC {α : Type} (T : TypeId) (k : Nat) (enc : α → List Value) (xs : List α) (code : Int) (w : World) (e : Ending) (w' : World) : Prop :=
  ∃ A n c, e = .returned (.tuple #[.slice A n c, .int .i64 code]) ∧ Own w' w.heap.size T k enc (.slice A n c) xs ∧ Below w.heap.size w w'
theorem RetOwn.mk {α : Type} {T : TypeId} {k : Nat} {enc : α → List Value} {xs : List α} {w w' : World} {v : Value} (h : Own w' w.heap.size T k enc v xs) (hb : Below w.heap.size w w') : RetOwn T k enc xs w (.returned v) w' := by
  obtain ⟨A, c, rfl, _⟩ := h.val
  exact ⟨A, _, c, rfl, h, hb⟩
theorem RetOwnC.mk {α : Type} {T : TypeId} {k : Nat} {enc : α → List Value} {xs : List α} {code : Int} {w w' : World} {v : Value} (h : Own w' w.heap.size T k enc v xs) (hb : Below w.heap.size w w') : RetOwnC T k enc xs code w (.returned (.tuple #[v, .int .i64 code])) w' := by
  obtain ⟨A, c, rfl, _⟩ := h.val
  exact ⟨A, _, c, rfl, h, hb⟩
theorem RetOwnC.none_ {α : Type} {T : TypeId} {k : Nat} {enc : α → List Value} {code : Int} {w w' : World} (hb : Below w.heap.size w w') : RetOwnC T k enc ([] : List α) code w (.returned (.tuple #[.slice none 0 0, .int .i64 code])) w' :=
  RetOwnC.mk Own.none_ hb
/-- two values of the call's own, one made behind the other, lie in two blocks -/
theorem Own.ap {α β : Type} {w1 w2 : World} {b1 b2 : Nat} {T1 T2 : TypeId} {k1 k2 : Nat} {E1 : α → List Value} {E2 : β → List Value} {v1 v2 : Value} {xs : List α} {ys : List β} (o1 : Own w1 b1 T1 k1 E1 v1 xs) (o2 : Own w2 b2 T2 k2 E2 v2 ys) (h : w1.heap.size ≤ b2) :
    v1.ownBlock = none ∨ v1.ownBlock ≠ v2.ownBlock := by
  cases e : v1.ownBlock with
  | none => exact .inl rfl
  | some g =>
    refine .inr fun e2 => ?_
    have h1 := (o1.lt g e).2
    have h2 := (o2.lt g e2.symm).1
    omega
theorem ap_sym {a b : Option Nat} (h : a = none ∨ a ≠ b) : b = none ∨ b ≠ a := by
  rcases h with h | h
  · cases b with
    | none => exact .inl rfl
    | some g => exact .inr (by rw [h]; simp)
  · exact .inr (Ne.symm h)

/-! ### append of one element to a row of the call's own -/
theorem newcell (W : World) (cs : Array Value) (T g : Nat) (hg : g = W.heap.size) : ∀ j, (W.alloc (.cells cs T)).cell? ⟨g, j, none⟩ = cs.toList[j]? := by
  intro j
  subst hg
  rw [World.cell?_alloc_new]
  simp

theorem wpList_app1 {P : Program} {α : Type} {w : World} {ops : Array Oper} {rest : List Oper} {o : Oper} {a : Act} {Q : Exit → Act → World → Prop} (hgd : o.guard = none) (s x : Operand) (t T : TypeId)
    (ho : o.op = .call { callee := .builtin .append, args := #[s, x], argTypes := #[t, t] })
    (base : Nat) (i : TypeInfo) (z : Value) (k bytes : Nat) (ht : P.underlying t = some (.slice T)) (hi : P.info? T = some i) (hz : i.zero = some z)
    (hsize : i.size = k) (hby : i.bytes = bytes) (hzs : z.cells.size = k) (hk : 0 < k)
    (enc : α → List Value) (henc : ∀ x, (enc x).length = k) (h1 : ∀ x, ∀ u ∈ enc x, u.oneCell' = true) (v : Value) (xs : List α) (hs : a.eval s = v) (own : Own w base T k enc v xs)
    (y : α) (g c : Nat) (hx : a.eval x = .slice (some ⟨g, 0, none⟩) 1 c) (hcell : ∀ j, w.cell? ⟨g, j, none⟩ = (enc y)[j]?)
    (hbytes : (xs.length + 1) * bytes ≤ 140737488355328) (h63 : xs.length + 1 ≤ maxLen) (hbase : base ≤ w.heap.size)
    (h : ∀ v' w', Own w' base T k enc v' (xs ++ [y]) → Below base w w' → wpList P ops Q rest (a.put o.dst v') w') : wpList P ops Q (o :: rest) a w := by
  refine wpList_append_own _ hgd s x t ho base T i z k bytes ht hi hz hsize hby hzs hk v xs.length (xs.flatMap enc) hs own ⟨g, 0, none⟩ 1 c (enc y) hx (by rw [henc]; omega)
    (fun j u hu => ?_) (h1 y) h63 hbytes hbase (fun v' w' h2 h3 _ => h v' w' (Own.of_row h2 (by simp) (by simp)) ((Below.refl _ _).grown h3 hbase fun q hq => (own.lt q hq).1))
  rw [← hu, ← hcell j]
  unfold Addr.add
  split
  · rename_i h0; subst h0; rfl
  · simp
theorem e1_one : ∀ x, ∀ u ∈ e1 x, u.oneCell' = true := by intro x u hu; simp [e1] at hu; subst hu; rfl
theorem e2_one : ∀ x, ∀ u ∈ e2 x, u.oneCell' = true := by intro x u hu; simp [e2] at hu; rcases hu with rfl | rfl <;> rfl
theorem e3_one : ∀ x, ∀ u ∈ e3 x, u.oneCell' = true := by intro x u hu; simp [e3] at hu; rcases hu with rfl | rfl | rfl <;> rfl
theorem e4_one : ∀ x, ∀ u ∈ e4 x, u.oneCell' = true := by intro x u hu; simp [e4] at hu; rcases hu with rfl | rfl | rfl | rfl <;> rfl
theorem Own.lit {α : Type} {enc : α → List Value} {k : Nat} (w : World) (cs : Array Value) (T : TypeId) (xs : List α) (n : Nat) {base : Nat} (hb : base ≤ w.heap.size) (hn : xs.length = n) (hm : n ≤ maxLen) (hk : ∀ x, (enc x).length = k) (hc : cs.toList = xs.flatMap enc) :
    Own (w.alloc (.cells cs T)) base T k enc (.slice (some ⟨w.heap.size, 0, none⟩) n n) xs := by
  refine Own.of_row (World.ownsRow_lit w cs n hb hm ?_) hn.symm hc
  have := congrArg List.length hc
  rw [flat_len hk, hn] at this
  simpa using this

theorem Sl.all1 {w : World} {n : Nat} {A : Option Addr} {xs : List Int} (h : Sl w 1 e1 A n xs) (hn : 0 < n) : ∃ b off, A = some ⟨b, off, none⟩ ∧ ∀ i x, xs[i]? = some x → w.cell? ⟨b, off + i, none⟩ = some (.int .i64 x) := by
  obtain ⟨b, off, hA, _, hc⟩ := h.2 hn
  exact ⟨b, off, hA, fun i x hx => by simpa using hc i x hx 0 _ rfl⟩

theorem cell_al {w : World} {p : Addr} {v : Value} (h : w.cell? p = some v) : ∀ o, (w.alloc o).cell? p = some v := fun o => (World.cell?_alloc_lt w o p (World.block_lt_of_cell? w p h)).trans h
theorem cell_al2 {w : World} {p : Addr} {v : Value} (h : w.cell? p = some v) : ∀ o o', ((w.alloc o).alloc o').cell? p = some v := fun o o' => cell_al (cell_al h o) o'

section
variable {w : World} {n i b off : Nat}
theorem Sl.get1 {xs : List Int} {x : Int} (h : Sl w 1 e1 (some ⟨b, off, none⟩) n xs) (hx : xs[i]? = some x) : w.cell? ⟨b, off + i, none⟩ = some (.int .i64 x) := by
  obtain ⟨b', off', y, hA, hy, _, c0⟩ := h.at1 (i := i) (by rw [← h.1]; exact (List.getElem?_eq_some_iff.1 hx).1)
  cases hA; rw [hx] at hy; cases hy; exact c0
theorem Sl.get2 {xs : List (Int × Int)} {x : Int × Int} (h : Sl w 2 e2 (some ⟨b, off, none⟩) n xs) (hx : xs[i]? = some x) : w.cell? ⟨b, off + i * 2, none⟩ = some (.int .i64 x.1) ∧ w.cell? ⟨b, off + i * 2 + 1, none⟩ = some (.int .i64 x.2) := by
  obtain ⟨b', off', y, hA, hy, _, c0, c1⟩ := h.at2 (i := i) (by rw [← h.1]; exact (List.getElem?_eq_some_iff.1 hx).1)
  cases hA; rw [hx] at hy; cases hy; exact ⟨c0, c1⟩
theorem Sl.get3 {xs : List (Int × Int × Int)} {x : Int × Int × Int} (h : Sl w 3 e3 (some ⟨b, off, none⟩) n xs) (hx : xs[i]? = some x) : w.cell? ⟨b, off + i * 3, none⟩ = some (.int .i64 x.1) ∧ w.cell? ⟨b, off + i * 3 + 1, none⟩ = some (.int .i64 x.2.1) ∧ w.cell? ⟨b, off + i * 3 + 2, none⟩ = some (.int .i64 x.2.2) := by
  obtain ⟨b', off', y, hA, hy, _, c0, c1, c2⟩ := h.at3 (i := i) (by rw [← h.1]; exact (List.getElem?_eq_some_iff.1 hx).1)
  cases hA; rw [hx] at hy; cases hy; exact ⟨c0, c1, c2⟩
theorem Sl.get4 {xs : List (Int × Int × Int × Int)} {x : Int × Int × Int × Int} (h : Sl w 4 e4 (some ⟨b, off, none⟩) n xs) (hx : xs[i]? = some x) : w.cell? ⟨b, off + i * 4, none⟩ = some (.int .i64 x.1) ∧ w.cell? ⟨b, off + i * 4 + 1, none⟩ = some (.int .i64 x.2.1) ∧ w.cell? ⟨b, off + i * 4 + 2, none⟩ = some (.int .i64 x.2.2.1) ∧ w.cell? ⟨b, off + i * 4 + 3, none⟩ = some (.int .i64 x.2.2.2) := by
  obtain ⟨b', off', y, hA, hy, _, c0, c1, c2, c3⟩ := h.at4 (i := i) (by rw [← h.1]; exact (List.getElem?_eq_some_iff.1 hx).1)
  cases hA; rw [hx] at hy; cases hy; exact ⟨c0, c1, c2, c3⟩
end

/-- the same, and where the new row lies -/
theorem wpList_app1x {P : Program} {α : Type} {w : World} {ops : Array Oper} {rest : List Oper} {o : Oper} {a : Act} {Q : Exit → Act → World → Prop} (hgd : o.guard = none) (s x : Operand) (t T : TypeId)
    (ho : o.op = .call { callee := .builtin .append, args := #[s, x], argTypes := #[t, t] })
    (base : Nat) (i : TypeInfo) (z : Value) (k bytes : Nat) (ht : P.underlying t = some (.slice T)) (hi : P.info? T = some i) (hz : i.zero = some z)
    (hsize : i.size = k) (hby : i.bytes = bytes) (hzs : z.cells.size = k) (hk : 0 < k)
    (enc : α → List Value) (henc : ∀ x, (enc x).length = k) (h1 : ∀ x, ∀ u ∈ enc x, u.oneCell' = true) (v : Value) (xs : List α) (hs : a.eval s = v) (own : Own w base T k enc v xs)
    (y : α) (g c : Nat) (hx : a.eval x = .slice (some ⟨g, 0, none⟩) 1 c) (hcell : ∀ j, w.cell? ⟨g, j, none⟩ = (enc y)[j]?)
    (hbytes : (xs.length + 1) * bytes ≤ 140737488355328) (h63 : xs.length + 1 ≤ maxLen) (hbase : base ≤ w.heap.size)
    (h : ∀ v' w', Own w' base T k enc v' (xs ++ [y]) → Below base w w' → w.grownBy w' v.ownBlock → (v'.ownBlock = v.ownBlock ∨ v'.ownBlock = some w.heap.size) → wpList P ops Q rest (a.put o.dst v') w') : wpList P ops Q (o :: rest) a w := by
  have hcells : ∀ j u, (enc y)[j]? = some u → w.cell? ((⟨g, 0, none⟩ : Addr).add j) = some u := by
    intro j u hu
    rw [← hu, ← hcell j]
    unfold Addr.add
    split
    · rename_i h0; subst h0; rfl
    · simp
  obtain ⟨v', w', hr, h2, h3, _, h5⟩ := run_append_own_at (P := P) w base t o.type T i z k bytes ht hi hz hsize hby hzs hk v xs.length (xs.flatMap enc) own ⟨g, 0, none⟩ 1 c (enc y) (by rw [henc]; omega) hcells (h1 y) h63 hbytes hbase
  refine wpList_plain hgd fun _ hK => ?_
  unfold Oper.wp execOp
  simp only [ho, resolve, invoke, builtin, Sem.run_bind, Sem.run_pure, Result.andThen_ok, List.map_toArray, List.map_cons, List.map_nil, hs, hx, hr]
  exact hK _ _ (h v' w' (Own.of_row h2 (by simp) (by simp)) ((Below.refl _ _).grown h3 hbase fun q hq => (own.lt q hq).1) h3 h5)
/-- a value of the call's own does not lie where A points -/
def Apart (v : Value) (A : Option Addr) : Prop := ∀ a : Addr, A = some a → v.ownBlock ≠ some a.block
theorem Sl.grownA {α : Type} {w w' : World} {k n : Nat} {enc : α → List Value} {A : Option Addr} {xs : List α} {v : Value} (h : Sl w k enc A n xs) (hg : w.grownBy w' v.ownBlock) (hr : Apart v A) : Sl w' k enc A n xs := h.grown hg hr
theorem Apart.step {α : Type} {w : World} {k n : Nat} {enc : α → List Value} {A : Option Addr} {xs : List α} {v v' : Value} (hr : Apart v A) (h : Sl w k enc A n xs) (hn : 0 < n) (hw : v'.ownBlock = v.ownBlock ∨ v'.ownBlock = some w.heap.size) : Apart v' A := by
  intro a ha hv
  rcases hw with e | e
  · exact hr a ha (by rw [← e]; exact hv)
  · obtain ⟨b, off, e2, hb, _⟩ := h.2 hn
    rw [ha] at e2; cases e2
    rw [e] at hv
    simp at hv
    omega
/-- a value made earlier lies apart from one made later -/
theorem Apart.of_own {α β : Type} {w1 w2 : World} {b1 b2 : Nat} {T1 T2 : TypeId} {k1 k2 : Nat} {E1 : α → List Value} {E2 : β → List Value} {v : Value} {A : Option Addr} {n c : Nat} {xs : List α} {ys : List β} (o1 : Own w1 b1 T1 k1 E1 v xs) (o2 : Own w2 b2 T2 k2 E2 (.slice A n c) ys) (h : w1.heap.size ≤ b2) : Apart v A := by
  rintro a rfl hv
  have h1 := (o1.lt _ hv).2
  have h2 := (o2.lt a.block rfl).1
  omega

theorem quiet_left {P : Program} {f : FuncId} {args : Array Value} {w : World} {n : Nat} {v : Value}
    (h : Calls P f args (w.drewN n) fun e w' => e = .returned v ∧ w.drewN n = w') : Calls P f args (w.drewN n) fun e w'' => e = .returned v ∧ ∃ m, w'' = w.drewN m :=
  h.mono fun _ _ ⟨he, hm⟩ => ⟨he, n, hm.symm⟩
end Go.Proofs.YthplfodfilefjaaDoor
