/-
  Scripts: a later script: the plain law; a box whose acts are set.
-/
import Derived.Test.YtccddejbbdciiaaVb
import Derived.Test.YtccddejbbdciiaaVw
namespace Go.Proofs.Ytccddejbbdciiaa
open Go.RowKit Go.Deep Go.Joins

/-- an act that is later -/
def shA (b : Int) (x : AX) : AX := (x.1 + b, x.2.1, x.2.2.1, x.2.2.2)
noncomputable def ssCode (ss : List ByteArray) (xs : List AX) (b : Int) : Int := if vScr ss xs = false then 1 else if inB b 0 10000 = false then 2 else if vScr ss (xs.map (shA b)) = false then 5 else 0
noncomputable def ssS (ss : List ByteArray) (xs : List AX) (b : Int) : List ByteArray := if ssCode ss xs b = 0 then ss else []
noncomputable def ssA (ss : List ByteArray) (xs : List AX) (b : Int) : List AX := if ssCode ss xs b = 0 then xs.map (shA b) else []
theorem ssS_no {ss : List ByteArray} {xs : List AX} {b : Int} {k : Int} (h : ssCode ss xs b = k) (hk : k ≠ 0) : ssS ss xs b = [] := by rw [ssS, if_neg (by rw [h]; exact hk)]
theorem ssA_no {ss : List ByteArray} {xs : List AX} {b : Int} {k : Int} (h : ssCode ss xs b = k) (hk : k ≠ 0) : ssA ss xs b = [] := by rw [ssA, if_neg (by rw [h]; exact hk)]
theorem ssS_yes {ss : List ByteArray} {xs : List AX} {b : Int} (h : ssCode ss xs b = 0) : ssS ss xs b = ss := by rw [ssS, if_pos h]
theorem ssA_yes {ss : List ByteArray} {xs : List AX} {b : Int} (h : ssCode ss xs b = 0) : ssA ss xs b = xs.map (shA b) := by rw [ssA, if_pos h]
theorem ssS_len (ss : List ByteArray) (xs : List AX) (b : Int) : (ssS ss xs b).length ≤ ss.length := by unfold ssS; split <;> simp
theorem ssA_len (ss : List ByteArray) (xs : List AX) (b : Int) : (ssA ss xs b).length ≤ xs.length := by unfold ssA; split <;> simp
theorem map_step {xs : List AX} {k : Nat} {x : AX} (hx : xs[k]? = some x) (b : Int) : (xs.take (k + 1)).map (shA b) = (xs.take k).map (shA b) ++ [shA b x] := by
  rw [take_snoc hx, List.map_append]; rfl
/-- the first k acts are later -/
def mixA (b : Int) (xs : List AX) (k : Nat) : List AX := (xs.take k).map (shA b) ++ xs.drop k
theorem mixA_len (b : Int) (xs : List AX) (k : Nat) : (mixA b xs k).length = xs.length := by
  rw [mixA, List.length_append, List.length_map, ← List.length_append, List.take_append_drop]
theorem mixA_zero (b : Int) (xs : List AX) : mixA b xs 0 = xs := by simp [mixA]
theorem mixA_all (b : Int) (xs : List AX) : mixA b xs xs.length = xs.map (shA b) := by simp [mixA]
theorem mixA_get {b : Int} {xs : List AX} {k : Nat} {x : AX} (hx : xs[k]? = some x) : (mixA b xs k)[k]? = some x := by
  have hk := (List.getElem?_eq_some_iff.1 hx).1
  rw [mixA, List.getElem?_append_right (by simp; omega), List.length_map, List.length_take, Nat.min_eq_left (Nat.le_of_lt hk), Nat.sub_self, List.getElem?_drop, Nat.add_zero, hx]
theorem mixA_step {b : Int} {xs : List AX} {k : Nat} {x : AX} (hx : xs[k]? = some x) : (mixA b xs k).set k (shA b x) = mixA b xs (k + 1) := by
  have hk := (List.getElem?_eq_some_iff.1 hx).1
  have hl : ((xs.take k).map (shA b)).length = k := by rw [List.length_map, List.length_take, Nat.min_eq_left (Nat.le_of_lt hk)]
  have hd : xs.drop k = x :: xs.drop (k + 1) := by
    obtain ⟨_, he⟩ := List.getElem?_eq_some_iff.1 hx
    rw [List.drop_eq_getElem_cons hk, he]
  rw [mixA, mixA, map_step hx, List.set_append_right _ _ (by omega), hl, Nat.sub_self, hd, List.set_cons_zero, List.append_assoc]
  rfl

/-- a script of the call's own, and a code -/
def RetScr (ss : List ByteArray) (xs : List AX) (code : Int) (w : World) (e : Ending) (w' : World) : Prop :=
  ∃ A c B d, e = .returned (.tuple #[.agg #[.slice A ss.length c, .slice B xs.length d], .int .i64 code]) ∧ Own w' w.heap.size 9 1 eS (.slice A ss.length c) ss ∧ Own w' w.heap.size 47 4 eAct (.slice B xs.length d) xs ∧ (∀ a b, A = some a → B = some b → a.block ≠ b.block) ∧ Below w.heap.size w w'
theorem Bx.own_far {base : Nat} {α : Type} {enc : α → List Value} {w : World} {T : TypeId} {k n c : Nat} {A : Option Addr} {xs : List α} (h : Own w base T k enc (.slice A n c) xs) (p : Addr) (hne : ∀ a, A = some a → a.block ≠ p.block) (u : Value) : Own (w.setCell p u) base T k enc (.slice A n c) xs :=
  h.grown (only_setCell (World.grownBy.refl w (some p.block)) (.inl rfl) u) (by
    cases A with
    | none => exact .inl rfl
    | some a => exact .inr (by simp [Value.ownBlock]; exact hne a rfl))
theorem rowAct_0 (ys : List AX) (i : Nat) (x : AX) (a : Int) (h : ys[i]? = some x) : (ys.flatMap eAct).set (i * 4) (.int .i64 a) = (ys.set i (a, x.2.1, x.2.2.1, x.2.2.2)).flatMap eAct := by
  induction ys generalizing i with
  | nil => simp at h
  | cons y ys ih =>
    cases i with
    | zero => simp at h; subst h; simp [List.flatMap_cons, eAct]
    | succ i =>
      have h' : ys[i]? = some x := by simpa using h
      rw [show (i + 1) * 4 = (i * 4) + 1 + 1 + 1 + 1 from by omega]
      simp only [List.flatMap_cons, eAct, List.set_cons_succ, List.cons_append, List.nil_append]
      have := ih i h'
      try simp only [eAct] at this
      rw [this]
theorem Own.setAct0 {w : World} {base : Nat} {e : TypeId} {g n cap : Nat} {ys : List AX} (h : Own w base e 4 eAct (.slice (some ⟨g, 0, none⟩) n cap) ys) (i : Nat) (x : AX) (a : Int) (hx : ys[i]? = some x) :
    Own (w.setCell ⟨g, i * 4, none⟩ (.int .i64 a)) base e 4 eAct (.slice (some ⟨g, 0, none⟩) n cap) (ys.set i (a, x.2.1, x.2.2.1, x.2.2.2)) := by
  obtain ⟨A, c, hv, _⟩ := h.val
  injection hv with _ hn _
  subst hn
  have h1 := (World.ownsRow.stored h (i * 4) (.int .i64 a)).1
  exact Own.of_row h1 (by simp) (rowAct_0 ys i x a hx)
theorem Bx.set0 {w : World} {base sb g : Nat} {A : Option Addr} {c d : Nat} {ss : List ByteArray} {ys : List AX} (h : Bx w base sb A c ss (some ⟨g, 0, none⟩) d ys) (i : Nat) (x : AX) (b : Int) (hx : ys[i]? = some x) :
    Bx (w.setCell ⟨g, i * 4, none⟩ (.int .i64 (x.1 + b))) base sb A c ss (some ⟨g, 0, none⟩) d (ys.set i (shA b x)) := by
  have hne := h.n2 _ rfl
  have hl : (ys.set i (shA b x)).length = ys.length := List.length_set
  have o2 := h.o2.setAct0 i x (x.1 + b) hx
  refine ⟨h.hb, (World.cell?_setCell_other _ _ _ _ (by intro e; injection e with e1; first | exact hne e1 | exact hne e1.symm)).trans h.c0, ?_, by simpa [go_sem] using h.f0, by simpa [go_sem] using h.f1, Bx.own_far h.o1 ⟨g, i * 4, none⟩ (fun a ha => by have := h.n3 a _ ha rfl; exact this) _, ?_, h.n1, h.n2, h.n3⟩
  · rw [hl]; exact (World.cell?_setCell_other _ _ _ _ (by intro e; injection e with e1; first | exact hne e1 | exact hne e1.symm)).trans h.c1
  · rw [hl]; exact o2
theorem carry_cell {W W' : World} {p : Addr} {v : Value} (hb : Below W.heap.size W W') (h : W.cell? p = some v) : W'.cell? p = some v := (hb.cell (World.block_lt_of_cell? _ _ h)).trans h
theorem carry_frozen {W W' : World} {p : Addr} {v : Value} {b : Bool} (hb : Below W.heap.size W W') (h : W.cell? p = some v) (hf : W.frozen? p = b) : W'.frozen? p = b := (hb.frozen (World.block_lt_of_cell? _ _ h)).trans hf
theorem bx_c0 (W : World) (a b : Value) (T : TypeId) : (W.alloc (.cells #[a, b] T)).cell? ⟨W.heap.size, 0, none⟩ = some a := by simp [go_sem]
theorem bx_c1 (W : World) (a b : Value) (T : TypeId) : (W.alloc (.cells #[a, b] T)).cell? ⟨W.heap.size, 1, none⟩ = some b := by simp [go_sem]
theorem bx_f0 (W : World) (a b : Value) (T : TypeId) : (W.alloc (.cells #[a, b] T)).frozen? ⟨W.heap.size, 0, none⟩ = false := by simp [go_sem]
theorem bx_f1 (W : World) (a b : Value) (T : TypeId) : (W.alloc (.cells #[a, b] T)).frozen? ⟨W.heap.size, 1, none⟩ = false := by simp [go_sem]
/-- what two makers of rows have left, whichever came first -/
structure JJ (w2 X : World) (base : Nat) (A : Option Addr) (c : Nat) (ss : List ByteArray) (B : Option Addr) (d : Nat) (xs : List AX) : Prop where
  o1 : Own X base 9 1 eS (.slice A ss.length c) ss
  o2 : Own X base 47 4 eAct (.slice B xs.length d) xs
  n3 : ∀ a b, A = some a → B = some b → a.block ≠ b.block
  hb : Below base w2 X
theorem JJ.mk1 {w2 X : World} {base : Nat} {A : Option Addr} {c : Nat} {ss : List ByteArray} {B : Option Addr} {d : Nat} {xs : List AX} (h : JJ w2 X base A c ss B d xs) (hB : base ≤ w2.heap.size) (T : TypeId) :
    BX (X.alloc (.cells #[.slice A ss.length c, .slice B xs.length d] T)) base X.heap.size ss xs ∧ Below base w2 (X.alloc (.cells #[.slice A ss.length c, .slice B xs.length d] T)) := by
  have l1 := h.o1.lt
  have l2 := h.o2.lt
  have hs := Nat.le_trans hB h.hb.size
  exact ⟨⟨A, c, B, d, hs, bx_c0 .., bx_c1 .., bx_f0 .., bx_f1 .., h.o1.alloc _, h.o2.alloc _, fun a ha => by have := (l1 a.block (by rw [ha]; rfl)).2; omega, fun a ha => by have := (l2 a.block (by rw [ha]; rfl)).2; omega, h.n3⟩, h.hb.alloc hs _⟩
theorem JJ.mk2 {w2 X : World} {base g : Nat} {A : Option Addr} {c : Nat} {ss : List ByteArray} {B : Option Addr} {d : Nat} {xs : List AX} {u v : Value} (h : JJ w2 X base A c ss B d xs) (hg : base ≤ g) (z0 : X.cell? ⟨g, 0, none⟩ = some u) (z1 : X.cell? ⟨g, 1, none⟩ = some v) (f0 : X.frozen? ⟨g, 0, none⟩ = false) (f1 : X.frozen? ⟨g, 1, none⟩ = false)
    (n1 : ∀ a, A = some a → a.block ≠ g) (n2 : ∀ a, B = some a → a.block ≠ g) :
    BX ((X.setCell ⟨g, 0, none⟩ (.slice A ss.length c)).setCell ⟨g, 1, none⟩ (.slice B xs.length d)) base g ss xs ∧ Below base w2 ((X.setCell ⟨g, 0, none⟩ (.slice A ss.length c)).setCell ⟨g, 1, none⟩ (.slice B xs.length d)) :=
  ⟨⟨A, c, B, d, hg, (World.cell?_setCell_other _ _ _ _ (by simp)).trans (World.cell?_setCell_same _ _ _ z0), World.cell?_setCell_same _ _ _ ((World.cell?_setCell_other _ _ _ _ (by simp)).trans z1), by simpa [go_sem] using f0, by simpa [go_sem] using f1,
    Bx.own_far (Bx.own_far h.o1 ⟨g, 0, none⟩ n1 _) ⟨g, 1, none⟩ n1 _, Bx.own_far (Bx.own_far h.o2 ⟨g, 0, none⟩ n2 _) ⟨g, 1, none⟩ n2 _, n1, n2, h.n3⟩, (h.hb.setCell hg _).setCell hg _⟩
theorem kk0 {w2 X : World} {base : Nat} (hB : base ≤ w2.heap.size) (h : Below w2.drew.heap.size w2.drew X) : Below base w2 X := ((Below.refl base w2).drew).trans (h.mono hB)
theorem kk1 {w2 X : World} {o : Obj} {base : Nat} (hB : base ≤ w2.heap.size) (h : Below (w2.drew.alloc o).heap.size (w2.drew.alloc o) X) : Below base w2 X :=
  (((Below.refl base w2).drew).alloc hB o).trans (h.mono (Nat.le_trans hB (below_alloc w2.drew o).size))
theorem kk2 {w2 X Y : World} {base : Nat} (hB : base ≤ w2.heap.size) (k : Below base w2 Y) (h : Below Y.heap.size Y X) : Below base w2 X := k.trans (h.mono (Nat.le_trans hB k.size))
theorem kk3 {w2 X Y : World} {o : Obj} {base : Nat} (hB : base ≤ w2.heap.size) (k : Below base w2 Y) (h : Below (Y.alloc o).heap.size (Y.alloc o) X) : Below base w2 X :=
  (k.alloc (Nat.le_trans hB k.size) o).trans (h.mono (Nat.le_trans (Nat.le_trans hB k.size) (below_alloc Y o).size))
theorem bb1 {w2 : World} {base : Nat} {o : Obj} (hB : base ≤ w2.heap.size) : base ≤ (w2.alloc o).heap.size := Nat.le_trans hB (below_alloc w2 o).size
theorem lt1 (W : World) (o : Obj) : W.heap.size < (W.alloc o).heap.size := by simp
theorem nn_ {α β : Type} {wa wb : World} {b1 b2 : Nat} {T1 T2 : TypeId} {k1 k2 : Nat} {E1 : α → List Value} {E2 : β → List Value} {A B : Option Addr} {n c m d : Nat} {xs : List α} {ys : List β} (o1 : Own wa b1 T1 k1 E1 (.slice A n c) xs) (o2 : Own wb b2 T2 k2 E2 (.slice B m d) ys) (h : wa.heap.size ≤ b2) : ∀ a b, A = some a → B = some b → a.block ≠ b.block := by
  rintro a b rfl rfl
  have := (o1.lt a.block rfl).2
  have := (o2.lt b.block rfl).1
  omega
theorem ng_ {α : Type} {X : World} {b g : Nat} {T : TypeId} {k : Nat} {E : α → List Value} {A : Option Addr} {n c : Nat} {xs : List α} (o : Own X b T k E (.slice A n c) xs) (h : g < b) : ∀ a, A = some a → a.block ≠ g := by
  rintro a rfl
  have := (o.lt a.block rfl).1
  omega
theorem nl_ {α : Type} {X : World} {b g : Nat} {T : TypeId} {k : Nat} {E : α → List Value} {A : Option Addr} {n c : Nat} {xs : List α} (o : Own X b T k E (.slice A n c) xs) (h : X.heap.size ≤ g) : ∀ a, A = some a → a.block ≠ g := by
  rintro a rfl
  have := (o.lt a.block rfl).2
  omega
theorem held_al {W X : World} {p q : Addr} {a b : Value} {o : Obj} (h : Below W.heap.size W X ∧ X.cell? p = some a ∧ X.cell? q = some b) : Below W.heap.size W (X.alloc o) ∧ (X.alloc o).cell? p = some a ∧ (X.alloc o).cell? q = some b := ⟨h.1.alloc h.1.size _, cell_al h.2.1 _, cell_al h.2.2 _⟩
theorem held_two {W W1 W2 : World} {p q : Addr} {a b : Value} (h1 : Below W.drew.heap.size W.drew W1) (h2 : Below W1.heap.size W1 W2) (x0 : W.cell? p = some a) (x1 : W.cell? q = some b) : Below W.heap.size W W2 ∧ W2.cell? p = some a ∧ W2.cell? q = some b := by
  have l0 := World.block_lt_of_cell? _ _ x0
  have l1 := World.block_lt_of_cell? _ _ x1
  have hs : W.heap.size ≤ W1.heap.size := h1.size
  exact ⟨below_mid (below_mid (Below.refl W.heap.size W).drew h1 (Nat.le_refl _)) h2 hs, (h2.cell (Nat.lt_of_lt_of_le l0 hs)).trans ((h1.cell l0).trans x0), (h2.cell (Nat.lt_of_lt_of_le l1 hs)).trans ((h1.cell l1).trans x1)⟩
/-- the acts of a box that has some lie in a block -/
theorem Bx.some2 {w : World} {base sb : Nat} {A B : Option Addr} {c d : Nat} {ss : List ByteArray} {ys : List AX} (h : Bx w base sb A c ss B d ys) (hp : 0 < ys.length) : ∃ g, B = some ⟨g, 0, none⟩ ∧ g < w.heap.size ∧ base ≤ g := by
  obtain ⟨A', c', hv, _, _, hg⟩ := h.o2.val
  injection hv with hA _ _
  obtain ⟨g, hA', h1, h2⟩ := hg hp
  exact ⟨g, hA.trans hA', h2, h1⟩
end Go.Proofs.Ytccddejbbdciiaa
