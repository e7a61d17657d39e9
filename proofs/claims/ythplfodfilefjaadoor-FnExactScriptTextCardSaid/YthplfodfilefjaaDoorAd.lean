/-
  Scripts: a script in a box, and what is added to it.
-/
import Derived.Test.YthplfodfilefjaaDoorNmA
namespace Go.Proofs.YthplfodfilefjaaDoor
set_option maxRecDepth 100000
open Go.RowKit Go.Deep Go.Joins

theorem step_app1x {P : Program} {α : Type} {w : World} {ops : Array Oper} {o : Oper} {a : Go.Act} {K : Go.Act → World → Prop} {Q : Exit → Go.Act → World → Prop} {E : Prop} (hgd : o.guard = none) (s x : Operand) (t T : TypeId)
    (ho : o.op = .call { callee := .builtin .append, args := #[s, x], argTypes := #[t, t] })
    (base : Nat) (i : TypeInfo) (z : Value) (k bytes : Nat) (ht : P.underlying t = some (.slice T)) (hi : P.info? T = some i) (hz : i.zero = some z)
    (hsize : i.size = k) (hby : i.bytes = bytes) (hzs : z.cells.size = k) (hk : 0 < k)
    (enc : α → List Value) (henc : ∀ x, (enc x).length = k) (h1 : ∀ x, ∀ u ∈ enc x, u.oneCell' = true) (v : Value) (xs : List α) (hs : a.eval s = v) (own : Own w base T k enc v xs)
    (y : α) (g c : Nat) (hx : a.eval x = .slice (some ⟨g, 0, none⟩) 1 c) (hcell : ∀ j, w.cell? ⟨g, j, none⟩ = (enc y)[j]?)
    (hbytes : (xs.length + 1) * bytes ≤ 140737488355328) (h63 : xs.length + 1 ≤ maxLen) (hbase : base ≤ w.heap.size)
    (h : ∀ v' w', Own w' base T k enc v' (xs ++ [y]) → Below base w w' → w.grownBy w' v.ownBlock → (v'.ownBlock = v.ownBlock ∨ v'.ownBlock = some w.heap.size) → K (a.put o.dst v') w') :
    if Region.wanted o (yielded ops a.tmps) = true then Oper.wp P o a w K Q else E := by
  have hw : Region.wanted o (yielded ops a.tmps) = true := by simp [Region.wanted, hgd]
  rw [if_pos hw]
  have hcells : ∀ j u, (enc y)[j]? = some u → w.cell? ((⟨g, 0, none⟩ : Addr).add j) = some u := by
    intro j u hu
    rw [← hu, ← hcell j]
    unfold Addr.add
    split
    · rename_i h0; subst h0; rfl
    · simp
  obtain ⟨v', w', hr, h2, h3, _, h5⟩ := run_append_own_at (P := P) w base t o.type T i z k bytes ht hi hz hsize hby hzs hk v xs.length (xs.flatMap enc) own ⟨g, 0, none⟩ 1 c (enc y) (by rw [henc]; omega) hcells (h1 y) h63 hbytes hbase
  unfold Oper.wp execOp
  simp only [ho, resolve, invoke, builtin, Sem.run_bind, Sem.run_pure, Result.andThen_ok, List.map_toArray, List.map_cons, List.map_nil, hs, hx, hr]
  exact h v' w' (Own.of_row h2 (by simp) (by simp)) ((Below.refl _ _).grown h3 hbase fun q hq => (own.lt q hq).1) h3 h5

/-- a script in a box of the call's own -/
structure Bx (w : World) (base sb : Nat) (A : Option Addr) (c : Nat) (ss : List ByteArray) (B : Option Addr) (d : Nat) (xs : List AX) : Prop where
  hb : base ≤ sb
  c0 : w.cell? ⟨sb, 0, none⟩ = some (.slice A ss.length c)
  c1 : w.cell? ⟨sb, 1, none⟩ = some (.slice B xs.length d)
  f0 : w.frozen? ⟨sb, 0, none⟩ = false
  f1 : w.frozen? ⟨sb, 1, none⟩ = false
  o1 : Own w base 9 1 eS (.slice A ss.length c) ss
  o2 : Own w base 56 4 eAct (.slice B xs.length d) xs
  n1 : ∀ a, A = some a → a.block ≠ sb
  n2 : ∀ a, B = some a → a.block ≠ sb
  n3 : ∀ a b, A = some a → B = some b → a.block ≠ b.block
def BX (w : World) (base sb : Nat) (ss : List ByteArray) (xs : List AX) : Prop := ∃ A c B d, Bx w base sb A c ss B d xs
section
variable {w w' : World} {base sb : Nat} {A B : Option Addr} {c d : Nat} {ss : List ByteArray} {xs : List AX}
theorem Bx.lt (h : Bx w base sb A c ss B d xs) : sb < w.heap.size := World.block_lt_of_cell? _ _ h.c0
theorem Bx.below (h : Bx w base sb A c ss B d xs) (hb : Below w.heap.size w w') : Bx w' base sb A c ss B d xs :=
  ⟨h.hb, (hb.cell h.lt).trans h.c0, (hb.cell h.lt).trans h.c1, (hb.frozen h.lt).trans h.f0, (hb.frozen h.lt).trans h.f1, h.o1.below hb, h.o2.below hb, h.n1, h.n2, h.n3⟩
theorem BX.below (h : BX w base sb ss xs) (hb : Below w.heap.size w w') : BX w' base sb ss xs := by
  obtain ⟨A, c, B, d, h⟩ := h; exact ⟨A, c, B, d, h.below hb⟩
theorem BX.lt (h : BX w base sb ss xs) : sb < w.heap.size := by obtain ⟨A, c, B, d, h⟩ := h; exact h.lt
theorem Bx.base_le (h : Bx w base sb A c ss B d xs) : base ≤ w.heap.size := Nat.le_trans h.hb (Nat.le_of_lt h.lt)
theorem own_form {α : Type} {w : World} {base : Nat} {e : TypeId} {k : Nat} {enc : α → List Value} {v : Value} {xs : List α} (h : Own w base e k enc v xs) : ∃ A c, v = .slice A xs.length c := by
  obtain ⟨A, c, h, _⟩ := h.val; exact ⟨A, c, h⟩
theorem Bx.put0 {v : Value} {ss' : List ByteArray} (h : Bx w base sb A c ss B d xs) (o : Own w' base 9 1 eS v ss') (hg : w.grownBy w' (Value.slice A ss.length c).ownBlock) (hv : v.ownBlock = (Value.slice A ss.length c).ownBlock ∨ v.ownBlock = some w.heap.size) :
    BX (w'.setCell ⟨sb, 0, none⟩ v) base sb ss' xs := by
  obtain ⟨A', c', rfl⟩ := own_form o
  have hne : some sb ≠ (Value.slice A ss.length c).ownBlock := by
    cases A with
    | none => simp [Value.ownBlock]
    | some a => simp [Value.ownBlock]; exact (h.n1 a rfl).symm
  have hsame : w'.heap[sb]? = w.heap[sb]? := hg.block sb h.lt hne
  have c0 : w'.cell? ⟨sb, 0, none⟩ = some (.slice A ss.length c) := (World.cell?_of_block (a := ⟨sb, 0, none⟩) hsame).trans h.c0
  have c1 : w'.cell? ⟨sb, 1, none⟩ = some (.slice B xs.length d) := (World.cell?_of_block (a := ⟨sb, 1, none⟩) hsame).trans h.c1
  have f0 : w'.frozen? ⟨sb, 0, none⟩ = false := (World.frozen?_of_block (a := ⟨sb, 0, none⟩) hsame).trans h.f0
  have f1 : w'.frozen? ⟨sb, 1, none⟩ = false := (World.frozen?_of_block (a := ⟨sb, 1, none⟩) hsame).trans h.f1
  have n1' : ∀ a, A' = some a → a.block ≠ sb := by
    rintro a rfl
    have hl := h.lt
    rcases hv with hv | hv
    · cases A with
      | none => simp [Value.ownBlock] at hv
      | some b => simp [Value.ownBlock] at hv; rw [hv]; exact h.n1 b rfl
    · simp [Value.ownBlock] at hv; omega
  have n3' : ∀ a b, A' = some a → B = some b → a.block ≠ b.block := by
    rintro a b rfl rfl
    have hl := (h.o2.lt b.block rfl).2
    rcases hv with hv | hv
    · cases A with
      | none => simp [Value.ownBlock] at hv
      | some e => simp [Value.ownBlock] at hv; rw [hv]; exact h.n3 e b rfl rfl
    · simp [Value.ownBlock] at hv; omega
  have o2 : Own w' base 56 4 eAct (.slice B xs.length d) xs := h.o2.grown hg (by
    cases B with
    | none => exact .inl rfl
    | some b =>
      cases A with
      | none => exact .inr (by simp [Value.ownBlock])
      | some a => exact .inr (by simp [Value.ownBlock]; exact (h.n3 a b rfl rfl).symm))
  have hs : w'.grownBy (w'.setCell ⟨sb, 0, none⟩ (.slice A' ss'.length c')) (some sb) := only_setCell ⟨rfl, rfl, rfl, Nat.le_refl _, fun _ _ _ => rfl⟩ (.inl rfl) _
  refine ⟨A', c', B, d, h.hb, World.cell?_setCell_same _ _ _ c0, (World.cell?_setCell_other _ _ _ _ (by simp)).trans c1, by simpa [go_sem] using f0, by simpa [go_sem] using f1, o.grown hs ?_, o2.grown hs ?_, n1', h.n2, n3'⟩
  · cases A' with
    | none => exact .inl rfl
    | some a => exact .inr (by simp [Value.ownBlock]; exact n1' a rfl)
  · cases B with
    | none => exact .inl rfl
    | some a => exact .inr (by simp [Value.ownBlock]; exact h.n2 a rfl)
theorem Bx.put1 {v : Value} {xs' : List AX} (h : Bx w base sb A c ss B d xs) (o : Own w' base 56 4 eAct v xs') (hg : w.grownBy w' (Value.slice B xs.length d).ownBlock) (hv : v.ownBlock = (Value.slice B xs.length d).ownBlock ∨ v.ownBlock = some w.heap.size) :
    BX (w'.setCell ⟨sb, 1, none⟩ v) base sb ss xs' := by
  obtain ⟨A', c', rfl⟩ := own_form o
  have hne : some sb ≠ (Value.slice B xs.length d).ownBlock := by
    cases B with
    | none => simp [Value.ownBlock]
    | some a => simp [Value.ownBlock]; exact (h.n2 a rfl).symm
  have hsame : w'.heap[sb]? = w.heap[sb]? := hg.block sb h.lt hne
  have c0 : w'.cell? ⟨sb, 0, none⟩ = some (.slice A ss.length c) := (World.cell?_of_block (a := ⟨sb, 0, none⟩) hsame).trans h.c0
  have c1 : w'.cell? ⟨sb, 1, none⟩ = some (.slice B xs.length d) := (World.cell?_of_block (a := ⟨sb, 1, none⟩) hsame).trans h.c1
  have f0 : w'.frozen? ⟨sb, 0, none⟩ = false := (World.frozen?_of_block (a := ⟨sb, 0, none⟩) hsame).trans h.f0
  have f1 : w'.frozen? ⟨sb, 1, none⟩ = false := (World.frozen?_of_block (a := ⟨sb, 1, none⟩) hsame).trans h.f1
  have n2' : ∀ a, A' = some a → a.block ≠ sb := by
    rintro a rfl
    have hl := h.lt
    rcases hv with hv | hv
    · cases B with
      | none => simp [Value.ownBlock] at hv
      | some b => simp [Value.ownBlock] at hv; rw [hv]; exact h.n2 b rfl
    · simp [Value.ownBlock] at hv; omega
  have n3' : ∀ a b, A = some a → A' = some b → a.block ≠ b.block := by
    rintro a b rfl rfl
    have hl := (h.o1.lt a.block rfl).2
    rcases hv with hv | hv
    · cases B with
      | none => simp [Value.ownBlock] at hv
      | some e => simp [Value.ownBlock] at hv; rw [hv]; exact h.n3 a e rfl rfl
    · simp [Value.ownBlock] at hv; omega
  have o1 : Own w' base 9 1 eS (.slice A ss.length c) ss := h.o1.grown hg (by
    cases A with
    | none => exact .inl rfl
    | some a =>
      cases B with
      | none => exact .inr (by simp [Value.ownBlock])
      | some b => exact .inr (by simp [Value.ownBlock]; exact h.n3 a b rfl rfl))
  have hs : w'.grownBy (w'.setCell ⟨sb, 1, none⟩ (.slice A' xs'.length c')) (some sb) := only_setCell ⟨rfl, rfl, rfl, Nat.le_refl _, fun _ _ _ => rfl⟩ (.inl rfl) _
  refine ⟨A, c, A', c', h.hb, (World.cell?_setCell_other _ _ _ _ (by simp)).trans c0, World.cell?_setCell_same _ _ _ c1, by simpa [go_sem] using f0, by simpa [go_sem] using f1, o1.grown hs ?_, o.grown hs ?_, h.n1, n2', n3'⟩
  · cases A with
    | none => exact .inl rfl
    | some a => exact .inr (by simp [Value.ownBlock]; exact h.n1 a rfl)
  · cases A' with
    | none => exact .inl rfl
    | some a => exact .inr (by simp [Value.ownBlock]; exact n2' a rfl)
/-- the box behind an append to a slice of it -/
theorem Bx.at0 {row : Option Nat} (h : Bx w base sb A c ss B d xs) (hg : w.grownBy w' row) (hr : some sb ≠ row) : w'.cell? ⟨sb, 0, none⟩ = some (.slice A ss.length c) ∧ w'.cell? ⟨sb, 1, none⟩ = some (.slice B xs.length d) ∧ w'.frozen? ⟨sb, 0, none⟩ = false ∧ w'.frozen? ⟨sb, 1, none⟩ = false := by
  have hsame : w'.heap[sb]? = w.heap[sb]? := hg.block sb h.lt hr
  exact ⟨(World.cell?_of_block (a := ⟨sb, 0, none⟩) hsame).trans h.c0, (World.cell?_of_block (a := ⟨sb, 1, none⟩) hsame).trans h.c1, (World.frozen?_of_block (a := ⟨sb, 0, none⟩) hsame).trans h.f0, (World.frozen?_of_block (a := ⟨sb, 1, none⟩) hsame).trans h.f1⟩
theorem Bx.row1 (h : Bx w base sb A c ss B d xs) : some sb ≠ (Value.slice A ss.length c).ownBlock := by
  cases A with
  | none => simp [Value.ownBlock]
  | some a => simp [Value.ownBlock]; exact (h.n1 a rfl).symm
theorem Bx.row2 (h : Bx w base sb A c ss B d xs) : some sb ≠ (Value.slice B xs.length d).ownBlock := by
  cases B with
  | none => simp [Value.ownBlock]
  | some a => simp [Value.ownBlock]; exact (h.n2 a rfl).symm
end
theorem below_al {w : World} {base : Nat} (h : base ≤ w.heap.size) (o : Obj) : Below base w (w.alloc o) := (Below.refl _ _).alloc h o

end Go.Proofs.YthplfodfilefjaaDoor
