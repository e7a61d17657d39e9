/-
  Contracts of the functions on slides in lanterns: a slide moved.
-/
import Derived.Test.YtajmobibpfgkmaaShA
import Derived.Test.YtajmobibpfgkmaaW2
import Derived.Lib.SliceRun
namespace Go.Proofs.Ytajmobibpfgkmaa
open Go.RowKit

theorem row3_01 (ys : List (Int × Int × Int)) (i : Nat) (x : Int × Int × Int) (a b : Int) (h : ys[i]? = some x) : ((ys.flatMap e3).set (i * 3) (.int .i64 a)).set (i * 3 + 1) (.int .i64 b) = (ys.set i (a, b, x.2.2)).flatMap e3 := by
  induction ys generalizing i with
  | nil => simp at h
  | cons y ys ih =>
    cases i with
    | zero => simp at h; subst h; simp [List.flatMap_cons, e3]
    | succ i =>
      have h' : ys[i]? = some x := by simpa using h
      rw [show (i + 1) * 3 = (i * 3) + 1 + 1 + 1 from by omega, show i * 3 + 1 + 1 + 1 + 1 = (i * 3 + 1) + 1 + 1 + 1 from by omega]
      simp only [List.flatMap_cons, e3, List.set_cons_succ, List.cons_append, List.nil_append]
      have := ih i h'
      try simp only [e3] at this
      rw [this]
theorem Own.set3_01 {w : World} {base : Nat} {e : TypeId} {g n cap : Nat} {ys : List (Int × Int × Int)} (h : Own w base e 3 e3 (.slice (some ⟨g, 0, none⟩) n cap) ys) (i : Nat) (x : Int × Int × Int) (a b : Int) (hx : ys[i]? = some x) :
    Own ((w.setCell ⟨g, i * 3, none⟩ (.int .i64 a)).setCell ⟨g, i * 3 + 1, none⟩ (.int .i64 b)) base e 3 e3 (.slice (some ⟨g, 0, none⟩) n cap) (ys.set i (a, b, x.2.2)) := by
  obtain ⟨A, c, hv, _⟩ := h.val
  injection hv with _ hn _
  subst hn
  have h1 := (World.ownsRow.stored h (i * 3) (.int .i64 a)).1
  have h2 := (World.ownsRow.stored h1 (i * 3 + 1) (.int .i64 b)).1
  exact Own.of_row h2 (by simp) (row3_01 ys i x a b hx)
/-- a slide moved -/
def mvL (xs : List (Int × Int × Int)) (k : Nat) (b : Int) : List (Int × Int × Int) := match xs[k]? with
  | some x => xs.set k (x.1 + b, x.2.1 + b, x.2.2)
  | none => xs
theorem mvL_at {xs : List (Int × Int × Int)} {k : Nat} {x : Int × Int × Int} (h : xs[k]? = some x) (b : Int) : mvL xs k b = xs.set k (x.1 + b, x.2.1 + b, x.2.2) := by rw [mvL, h]
theorem mvL_len (xs : List (Int × Int × Int)) (k : Nat) (b : Int) : (mvL xs k b).length = xs.length := by
  unfold mvL; split <;> simp
def mvIn (xs : List (Int × Int × Int)) (k b : Int) : Bool := inB k 0 ((xs.length : Int) - 1) && inB b 0 10000
def mvCode (xs : List (Int × Int × Int)) (k b : Int) : Int := if shOk xs then (if mvIn xs k b then (if shOk (mvL xs k.toNat b) then 0 else 5) else 2) else 1
def mvVal (xs : List (Int × Int × Int)) (k b : Int) : List (Int × Int × Int) := if mvCode xs k b = 0 then mvL xs k.toNat b else []
theorem mvVal_no {xs : List (Int × Int × Int)} {k b : Int} (h : mvCode xs k b ≠ 0) : mvVal xs k b = [] := by rw [mvVal, if_neg h]
theorem mvVal_len (xs : List (Int × Int × Int)) (k b : Int) : (mvVal xs k b).length ≤ 1048577 := by
  unfold mvVal
  split
  · rename_i h
    rw [mvL_len]
    have : shOk xs = true := by
      cases hq : shOk xs
      · rw [mvCode, hq] at h; cases h
      · rfl
    have := (shOk_iff.1 this).len
    omega
  · simp

theorem CloneShown_any (A : Option Addr) (n c : Nat) (xs : List (Int × Int × Int)) (w : World) (h : Sl w 3 e3 A n xs) (hn : n ≤ 1048577) :
    Calls Try.prog 22 #[.slice A n c] w (RetOwn 40 3 e3 xs w) := by
  obtain ⟨i0, hi0, hz0, hz1, hz2⟩ := info_parts infoShown
  have q22 : ∀ (w : World) (a : Option Addr) (n c n' c' : Nat), (binOp .eql 24 (.slice a n c) (.slice none n' c')).run Try.prog w = .ok (.bool a.isNone) w := fun w a n c n' c' => Lib.run_eql_slice_nil w _ _ a n c n' c' Try.underlying24
  cases A with
  | none =>
    have hx : xs = [] := by
      rcases Nat.eq_zero_or_pos n with h0 | h0
      · exact List.eq_nil_of_length_eq_zero (by rw [h.1, h0])
      · obtain ⟨b, off, e, _⟩ := h.2 h0; cases e
    subst hx
    go_enter Try.func22, Try.ntmps22
    go_wp2
    go_ret
    exact RetOwn.mk Own.none_ (Below.refl _ _)
  | some a =>
    have hst : Own (w.alloc (.cells #[] 40)) w.heap.size 40 3 e3 (.slice (some ⟨w.heap.size, 0, none⟩) 0 0) ([] : List (Int × Int × Int)) := Own.lit w _ _ [] 0 (Nat.le_refl _) rfl (by simp [maxLen]) e3_len rfl
    go_enter Try.func22, Try.ntmps22
    go_wp2_with (at_builtin; refine wpList_appS rfl (.tmp 5) (.tmp 6) 24 40 rfl w.heap.size i0 _ 3 24 Try.underlying24 hi0 hz0 hz1 hz2 rfl (by decide) e3 e3_len e3_one _ ([] : List (Int × Int × Int)) rfl hst (some a) n c xs rfl (fun h => by cases h) (h.alloc _) (by simp; omega) (by simp [maxLen]; omega) (by simp) ?_; intro v9 w9 ho9 hb9 hg9 hn9)
    go_ret
    exact RetOwn.mk (by simpa using ho9) ((below_alloc _ _).trans hb9)

theorem implMoveShown_any (A : Option Addr) (n c : Nat) (xs : List (Int × Int × Int)) (k b : Int) (w : World) (h : Sl w 3 e3 A n xs) (hn : n ≤ 1048577) (_hk : In64 k) (_hb : In64 b) :
    Calls Try.prog 8 #[.slice A n c, .int .i64 k, .int .i64 b] w (RetOwnC 40 3 e3 (mvVal xs k b) (mvCode xs k b) w) := by
  obtain ⟨i0, hi0, hz0, hz1, hz2⟩ := info_parts infoShown
  have hl := h.1
  cases hok : shOk xs
  · have H1 : Hid (mvCode xs k b = 1) := by rw [Hid, mvCode, hok]; rfl
    have H2 : Hid (mvVal xs k b = []) := mvVal_no (by rw [H1.out]; decide)
    go_enter Try.func8, Try.ntmps8
    go_wp2_with fail
    refine (implValidShown_any A n c xs _ h hn).mono ?_
    rintro e w2 ⟨rfl, hb2⟩
    rw [hok]
    go_wp2_with fail
    go_ret2
    rw [H1.out, H2.out]
    exact RetOwnC.none_ hb2
  · have ok := shOk_iff.1 hok
    have hr1 : IntKind.i64.wrap ((n : Int) - 1) = (n : Int) - 1 := wr64 (by omega)
    have hn12 : n ≤ 12 := by rw [← hl]; exact ok.len
    cases h1 : inB k 0 ((n : Int) - 1)
    · have H1 : Hid (mvCode xs k b = 2) := by rw [Hid, mvCode, hok, mvIn, hl]; simp [h1]
      have H2 : Hid (mvVal xs k b = []) := mvVal_no (by rw [H1.out]; decide)
      go_enter Try.func8, Try.ntmps8
      go_wp2_with fail
      refine (implValidShown_any A n c xs _ h hn).mono ?_
      rintro e w2 ⟨rfl, hb2⟩
      rw [hok]
      go_wp2_with (go_at_call 21; refine (within_any _ _ _ _).mono ?_; rintro e w' ⟨rfl, rfl⟩)
      go_ret2
      rw [H1.out, H2.out]
      exact RetOwnC.none_ hb2
    · cases h2 : inB b 0 10000
      · have H1 : Hid (mvCode xs k b = 2) := by rw [Hid, mvCode, hok, mvIn, hl]; simp [h1, h2]
        have H2 : Hid (mvVal xs k b = []) := mvVal_no (by rw [H1.out]; decide)
        go_enter Try.func8, Try.ntmps8
        go_wp2_with fail
        refine (implValidShown_any A n c xs _ h hn).mono ?_
        rintro e w2 ⟨rfl, hb2⟩
        rw [hok]
        go_wp2_with (go_at_call 21; refine (within_any _ _ _ _).mono ?_; rintro e w' ⟨rfl, rfl⟩)
        go_ret2
        rw [H1.out, H2.out]
        exact RetOwnC.none_ hb2
      · have b1 := inB_true.1 h1
        have b2 := inB_true.1 h2
        obtain ⟨K, rfl⟩ := Int.eq_ofNat_of_zero_le b1.1
        obtain ⟨bb, off, x, rfl, hx, hm, _⟩ := h.at3 (i := K) (by omega)
        have hx1 := ok.one x hm
        have HC : Hid (mvCode xs (K : Int) b = if shOk (mvL xs K b) then 0 else 5) := by rw [Hid, mvCode, hok, mvIn, hl, h1, h2]; simp
        have HM := Lib.hid (mvL_at hx b)
        have r1 : IntKind.i64.wrap (x.1 + b) = x.1 + b := wr64 (by omega)
        have r2 : IntKind.i64.wrap (x.2.1 + b) = x.2.1 + b := wr64 (by omega)
        have HL := Lib.hid (mvL_len xs K b)
        have HX := Lib.hid hx
        clear hx
        go_enter Try.func8, Try.ntmps8
        go_wp2_with fail
        refine (implValidShown_any _ n c xs _ h hn).mono ?_
        rintro e w2 ⟨rfl, hb2⟩
        rw [hok]
        go_wp2_with (go_at_call 21; refine (within_any _ _ _ _).mono ?_; rintro e w' ⟨rfl, rfl⟩)
        refine (CloneShown_any _ n c xs _ (h.below hb2) hn).mono ?_
        rintro e w3 ⟨A3, n3, c3, rfl, ho, hb3⟩
        have hbb := below_step hb2 hb3
        have ho := ho.mono (base' := w.heap.size) hb2.size
        have hn3 : n3 = n := by rw [← (ho.sl e3_len).1, hl]
        subst hn3
        obtain ⟨g, rfl⟩ : ∃ g, A3 = some ⟨g, 0, none⟩ := by
          rcases ho.form with ⟨_, h0, _⟩ | hg
          · omega
          · exact hg
        have hg1 := ho.blt.1
        have hx := HX.out
        have d0 : w3.cell? ⟨g, K * 3, none⟩ = some (.int .i64 x.1) := ho.cell e3_len hx (j := 0) rfl
        have d1 : w3.cell? ⟨g, K * 3 + 1, none⟩ = some (.int .i64 x.2.1) := ho.cell e3_len hx (j := 1) rfl
        have f0 := ho.free (K * 3)
        have f1 := ho.free (K * 3 + 1)
        have q1 : (0 : Int) ≤ (K : Int) := by omega
        have q2 : (K : Int) < (n3 : Int) := by omega
        have ho2 := ho.set3_01 K x (x.1 + b) (x.2.1 + b) hx
        have hbs : Below w.heap.size w (World.setCell (World.setCell w3 (⟨g, K * 3, none⟩ : Addr) (.int .i64 (x.1 + b))) (⟨g, K * 3 + 1, none⟩ : Addr) (.int .i64 (x.2.1 + b))) := (hbb.setCell (by exact hg1) _).setCell (by exact hg1) _
        rw [← HM.out] at ho2
        clear hx ho
        go_wp2_with fail
        generalize World.setCell (World.setCell w3 (⟨g, K * 3, none⟩ : Addr) (.int .i64 (x.1 + b))) (⟨g, K * 3 + 1, none⟩ : Addr) (.int .i64 (x.2.1 + b)) = w4 at ho2 hbs ⊢
        refine (implValidShown_any _ n3 c3 (mvL xs K b) _ (ho2.sl e3_len) hn).mono ?_
        rintro e w5 ⟨rfl, hb5⟩
        skip
        cases hv : shOk (mvL xs K b)
        · have H1 : Hid (mvCode xs (K : Int) b = 5) := by rw [Hid, HC.out, hv]; rfl
          have H2 : Hid (mvVal xs (K : Int) b = []) := mvVal_no (by rw [H1.out]; decide)
          go_wp2_with fail
          go_ret2
          rw [H1.out, H2.out]
          exact RetOwnC.none_ (below_mid hbs hb5 hbs.size)
        · have H1 : Hid (mvCode xs (K : Int) b = 0) := by rw [Hid, HC.out, hv]; rfl
          have H2 : Hid (mvVal xs (K : Int) b = mvL xs K b) := by rw [Hid, mvVal, if_pos H1.out]; rfl
          go_wp2_with fail
          go_ret2
          rw [H1.out, H2.out]
          exact RetOwnC.mk (ho2.below hb5) (below_mid hbs hb5 hbs.size)

theorem specMoveShown_any (A : Option Addr) (n c : Nat) (xs : List (Int × Int × Int)) (k b : Int) (w : World) (h : Sl w 3 e3 A n xs) (hn : n ≤ 1048577) (_hk : In64 k) (_hb : In64 b) :
    Calls Try.prog 6 #[.slice A n c, .int .i64 k, .int .i64 b] w (RetOwnC 40 3 e3 (mvVal xs k b) (mvCode xs k b) w) := by
  obtain ⟨i0, hi0, hz0, hz1, hz2⟩ := info_parts infoShown
  have hl := h.1
  cases hok : shOk xs
  · have H1 : Hid (mvCode xs k b = 1) := by rw [Hid, mvCode, hok]; rfl
    have H2 : Hid (mvVal xs k b = []) := mvVal_no (by rw [H1.out]; decide)
    go_enter Try.func6, Try.ntmps6
    go_wp2_with fail
    refine (l15Ok_any A n c xs _ h hn).mono ?_
    rintro e w2 ⟨rfl, hb2⟩
    rw [hok]
    go_wp2_with fail
    go_ret2
    rw [H1.out, H2.out]
    exact RetOwnC.none_ hb2
  · have ok := shOk_iff.1 hok
    have hr1 : IntKind.i64.wrap ((n : Int) - 1) = (n : Int) - 1 := wr64 (by omega)
    have hn12 : n ≤ 12 := by rw [← hl]; exact ok.len
    cases h1 : inB k 0 ((n : Int) - 1)
    · have H1 : Hid (mvCode xs k b = 2) := by rw [Hid, mvCode, hok, mvIn, hl]; simp [h1]
      have H2 : Hid (mvVal xs k b = []) := mvVal_no (by rw [H1.out]; decide)
      go_enter Try.func6, Try.ntmps6
      go_wp2_with fail
      refine (l15Ok_any A n c xs _ h hn).mono ?_
      rintro e w2 ⟨rfl, hb2⟩
      rw [hok]
      go_wp2_with (go_at_call 18; refine (l00In_any _ _ _ _).mono ?_; rintro e w' ⟨rfl, rfl⟩)
      go_ret2
      rw [H1.out, H2.out]
      exact RetOwnC.none_ hb2
    · cases h2 : inB b 0 10000
      · have H1 : Hid (mvCode xs k b = 2) := by rw [Hid, mvCode, hok, mvIn, hl]; simp [h1, h2]
        have H2 : Hid (mvVal xs k b = []) := mvVal_no (by rw [H1.out]; decide)
        go_enter Try.func6, Try.ntmps6
        go_wp2_with fail
        refine (l15Ok_any A n c xs _ h hn).mono ?_
        rintro e w2 ⟨rfl, hb2⟩
        rw [hok]
        go_wp2_with (go_at_call 18; refine (l00In_any _ _ _ _).mono ?_; rintro e w' ⟨rfl, rfl⟩)
        go_ret2
        rw [H1.out, H2.out]
        exact RetOwnC.none_ hb2
      · have b1 := inB_true.1 h1
        have b2 := inB_true.1 h2
        obtain ⟨K, rfl⟩ := Int.eq_ofNat_of_zero_le b1.1
        obtain ⟨bb, off, x, rfl, hx, hm, _⟩ := h.at3 (i := K) (by omega)
        have hx1 := ok.one x hm
        have HC : Hid (mvCode xs (K : Int) b = if shOk (mvL xs K b) then 0 else 5) := by rw [Hid, mvCode, hok, mvIn, hl, h1, h2]; simp
        have HM := Lib.hid (mvL_at hx b)
        have r1 : IntKind.i64.wrap (x.1 + b) = x.1 + b := wr64 (by omega)
        have r2 : IntKind.i64.wrap (x.2.1 + b) = x.2.1 + b := wr64 (by omega)
        have HL := Lib.hid (mvL_len xs K b)
        have HX := Lib.hid hx
        clear hx
        go_enter Try.func6, Try.ntmps6
        go_wp2_with fail
        refine (l15Ok_any _ n c xs _ h hn).mono ?_
        rintro e w2 ⟨rfl, hb2⟩
        rw [hok]
        have hst : Own (w2.alloc (.cells #[] 40)) w.heap.size 40 3 e3 (.slice (some ⟨w2.heap.size, 0, none⟩) 0 0) ([] : List (Int × Int × Int)) := Own.lit w2 _ _ [] 0 hb2.size rfl (by simp [maxLen]) e3_len rfl
        have hend : ∀ (A3 : Option Addr) (n3 c3 : Nat) (w3 : World), Own w3 w.heap.size 40 3 e3 (.slice A3 n3 c3) xs → Below w.heap.size w w3 → True := fun _ _ _ _ _ _ => trivial
        go_wp2_with (first | (go_at_call 18; refine (l00In_any _ _ _ _).mono ?_; rintro e w' ⟨rfl, rfl⟩) | (at_builtin; go_loud (refine wpList_appS rfl (.tmp 23) (.tmp 24) 24 40 rfl w.heap.size i0 _ 3 24 Try.underlying24 hi0 hz0 hz1 hz2 rfl (by decide) e3 e3_len e3_one _ ([] : List (Int × Int × Int)) rfl hst _ n c xs rfl (fun h => by cases h) ((h.below hb2).alloc _) (by simp; omega) (by simp [maxLen]; omega) (hb2.alloc hb2.size _).size ?_; intro v3 w3 ho hb3 _ _; rw [List.nil_append] at ho; have hbb := (hb2.alloc hb2.size _).trans hb3; have hn3 := (show n = n from rfl); obtain ⟨A3, c3, rfl, hcc, _, hgg⟩ := ho.val; obtain ⟨g, rfl, hg1, hg2⟩ := hgg (by omega); rw [hl] at ho ⊢; have hx := HX.out; have d0 : w3.cell? ⟨g, K * 3, none⟩ = some (.int .i64 x.1) := ho.cell e3_len hx (j := 0) rfl; have d1 : w3.cell? ⟨g, K * 3 + 1, none⟩ = some (.int .i64 x.2.1) := ho.cell e3_len hx (j := 1) rfl; have f0 := ho.free (K * 3); have f1 := ho.free (K * 3 + 1); have q1 : (0 : Int) ≤ (K : Int) := (by omega); have q2 : (K : Int) < (n : Int) := (by omega); have ho2 := ho.set3_01 K x (x.1 + b) (x.2.1 + b) hx; have hbs : Below w.heap.size w (World.setCell (World.setCell w3 (⟨g, K * 3, none⟩ : Addr) (.int .i64 (x.1 + b))) (⟨g, K * 3 + 1, none⟩ : Addr) (.int .i64 (x.2.1 + b))) := (hbb.setCell (by exact hg1) _).setCell (by exact hg1) _; rw [← HM.out] at ho2; clear hx ho))) 
        generalize World.setCell (World.setCell w3 (⟨g, K * 3, none⟩ : Addr) (.int .i64 (x.1 + b))) (⟨g, K * 3 + 1, none⟩ : Addr) (.int .i64 (x.2.1 + b)) = w4 at ho2 hbs ⊢
        refine (l15Ok_any _ n c3 (mvL xs K b) _ (ho2.sl e3_len) hn).mono ?_
        rintro e w5 ⟨rfl, hb5⟩
        skip
        cases hv : shOk (mvL xs K b)
        · have H1 : Hid (mvCode xs (K : Int) b = 5) := by rw [Hid, HC.out, hv]; rfl
          have H2 : Hid (mvVal xs (K : Int) b = []) := mvVal_no (by rw [H1.out]; decide)
          go_wp2_with fail
          go_ret2
          rw [H1.out, H2.out]
          exact RetOwnC.none_ (below_mid hbs hb5 hbs.size)
        · have H1 : Hid (mvCode xs (K : Int) b = 0) := by rw [Hid, HC.out, hv]; rfl
          have H2 : Hid (mvVal xs (K : Int) b = mvL xs K b) := by rw [Hid, mvVal, if_pos H1.out]; rfl
          go_wp2_with fail
          go_ret2
          rw [H1.out, H2.out]
          exact RetOwnC.mk (ho2.below hb5) (below_mid hbs hb5 hbs.size)

end Go.Proofs.Ytajmobibpfgkmaa
