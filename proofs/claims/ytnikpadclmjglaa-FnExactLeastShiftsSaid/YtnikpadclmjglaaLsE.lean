/-
  The least shifts, the reference's walk through all shifts.
-/
import Derived.Test.YtnikpadclmjglaaLsB
import Derived.Deep.DeepCutAuto
import Derived.Deep.RegionHeld3
import Derived.BigQuiet
namespace Go.Proofs.Ytnikpadclmjglaa
set_option maxRecDepth 100000
open Go.RowKit

theorem zS_take (xs : List Cu) : ∀ (s : List Int), zS (xs.take s.length) s = zS xs s := by
  intro s
  rw [zS, zS]
  induction s generalizing xs with
  | nil => simp
  | cons b s ih => cases xs with
    | nil => rfl
    | cons x xs => simp [ih]
theorem zS_snoc {xs : List Cu} {s : List Int} {x : Cu} (b : Int) (hx : xs[s.length]? = some x) : zS xs (s ++ [b]) = zS xs s ++ [shF x b] := by
  induction s generalizing xs with
  | nil => cases xs with
    | nil => simp at hx
    | cons y ys => simp at hx; subst hx; simp [zS, shG, shF]
  | cons a s ih => cases xs with
    | nil => simp at hx
    | cons y ys =>
      have := ih (xs := ys) (by simpa using hx)
      simp only [zS, List.cons_append, List.zipWith_cons_cons] at this ⊢
      rw [this]
theorem Own.none0 {α : Type} {w : World} {base : Nat} {e : TypeId} {k : Nat} {enc : α → List Value} {n c : Nat} {xs : List α} {A : Option Addr} (h : Own w base e k enc (.slice A n c) xs) : A = none → c = 0 := by
  rintro rfl
  rcases h.2 with ⟨h1, _⟩ | ⟨g, cap, cur, hv, _⟩
  · injection h1
  · injection hv with h1; cases h1
/-- what the reference's walk holds: a struct -/
structure IvW (B0 : Nat) (L : Option Addr) (n c gw : Nat) (h : Int) (st : List Int × Int) (w : World) : Prop where
  c0 : w.cell? ⟨gw, 0, none⟩ = some (.slice L n c)
  c1 : w.cell? ⟨gw, 1, none⟩ = some (.int .i64 h)
  c2 : ∃ v, w.cell? ⟨gw, 2, none⟩ = some v ∧ Own w B0 2 1 e1 v st.1 ∧ ∀ g, v.ownBlock = some g → g ≠ gw
  c3 : w.cell? ⟨gw, 3, none⟩ = some (.int .i64 st.2)
  f2 : w.frozen? ⟨gw, 2, none⟩ = false
  f3 : w.frozen? ⟨gw, 3, none⟩ = false
theorem IvW.below {B0 : Nat} {L : Option Addr} {n c gw : Nat} {h : Int} {st : List Int × Int} {w w' : World} (hh : IvW B0 L n c gw h st w) (hb : Below w.heap.size w w') : IvW B0 L n c gw h st w' := by
  obtain ⟨v, hv, ho, hg⟩ := hh.c2
  have l3 : gw < w.heap.size := World.block_lt_of_cell? _ _ hh.c3
  exact ⟨(hb.cell l3).trans hh.c0, (hb.cell l3).trans hh.c1, ⟨v, (hb.cell l3).trans hv, ho.below hb, hg⟩, (hb.cell l3).trans hh.c3, (hb.frozen l3).trans hh.f2, (hb.frozen l3).trans hh.f3⟩
theorem IvW.put {B0 : Nat} {L : Option Addr} {n c gw : Nat} {h : Int} {st : List Int × Int} {w : World} (hh : IvW B0 L n c gw h st w) {v : Value} {s : List Int} {m : Int} (ho : Own w B0 2 1 e1 v s) (hg : ∀ g, v.ownBlock = some g → g ≠ gw) :
    IvW B0 L n c gw h (s, m) ((w.setCell ⟨gw, 2, none⟩ v).setCell ⟨gw, 3, none⟩ (.int .i64 m)) := by
  obtain ⟨v0, hv0, _, _⟩ := hh.c2
  have a3 : (w.setCell ⟨gw, 2, none⟩ v).cell? ⟨gw, 3, none⟩ = some (.int .i64 st.2) := (World.cell?_setCell_other _ _ _ _ (by intro e; injection e with _ e1; cases e1)).trans hh.c3
  refine ⟨?_, ?_, ⟨v, ?_, (ho.kp (S := fun k => k = gw) ((Kp.refl (fun k => k = gw) w).setCell (p := ⟨gw, 2, none⟩) rfl v) fun g hg' e => hg g hg' e).kp (S := fun k => k = gw) ((Kp.refl (fun k => k = gw) _).setCell (p := ⟨gw, 3, none⟩) rfl _) fun g hg' e => hg g hg' e, hg⟩, World.cell?_setCell_same _ _ _ a3, ?_, ?_⟩
  · exact ((World.cell?_setCell_other _ _ _ _ (by intro e; injection e with _ e1; cases e1)).trans (World.cell?_setCell_other _ _ _ _ (by intro e; injection e with _ e1; cases e1))).trans hh.c0
  · exact ((World.cell?_setCell_other _ _ _ _ (by intro e; injection e with _ e1; cases e1)).trans (World.cell?_setCell_other _ _ _ _ (by intro e; injection e with _ e1; cases e1))).trans hh.c1
  · exact (World.cell?_setCell_other _ _ _ _ (by intro e; injection e with _ e1; cases e1)).trans (World.cell?_setCell_same _ _ _ hv0)
  · rw [World.frozen?_setCell, World.frozen?_setCell]; exact hh.f2
  · rw [World.frozen?_setCell, World.frozen?_setCell]; exact hh.f3

theorem l00Own_any (A : Option Addr) (n c : Nat) (xs : List Int) (w : World) (h : Sl w 1 e1 A n xs) (hA : A = none → c = 0) (hn : n ≤ 1048577) :
    Calls Try.prog 62 #[.slice A n c] w (RetOwn 2 1 e1 xs w) := by
  obtain ⟨i0, hi0, hz0, hz1, hz2⟩ := info_parts infoI64
  have hst : Own (w.alloc (.cells #[] 2)) w.heap.size 2 1 e1 (.slice (some ⟨w.heap.size, 0, none⟩) 0 0) ([] : List Int) := Own.lit w _ _ [] 0 (Nat.le_refl _) rfl (by simp [maxLen]) e1_len rfl
  go_enter Try.func62, Try.ntmps62
  go_wp2_with (at_builtin; refine wpList_appS rfl (.tmp 3) (.tmp 4) 30 2 rfl w.heap.size i0 _ 1 8 Try.underlying30 hi0 hz0 hz1 hz2 rfl (by decide) e1 e1_len e1_one _ ([] : List Int) rfl hst A n c xs rfl hA (h.alloc _) (by simp; omega) (by simp [maxLen]; omega) (by simp) ?_; intro v9 w9 ho9 hb9 hg9 hn9)
  go_ret
  exact RetOwn.mk (by simpa using ho9) ((below_alloc _ _).trans hb9)

/-- what the walk does, r cues being left -/
def WalkC (B0 : Nat) (L : Option Addr) (n c : Nat) (xs : List Cu) (gw : Nat) (h : Int) (r : Nat) : Prop :=
    ∀ (done : List Int) (B : Option Addr) (m dq : Nat) (A : Option Addr) (d : Nat) (st : List Int × Int) (w : World), m + r = n → B0 ≤ w.heap.size → IvW B0 L n c gw h st w → Sl w 4 e4 L n xs → Own w B0 49 4 e4 (.slice B m dq) (zS xs done) → (∀ g, (Value.slice B m dq).ownBlock = some g → g ≠ gw) → Own w B0 2 1 e1 (.slice A m d) done → (∀ g, (Value.slice A m d).ownBlock = some g → g ≠ gw) → ShB xs done → done.length = m →
      Calls Try.prog 55 #[.pointer (some ⟨gw, 0, none⟩), .slice B m dq, .slice A m d, .int .i64 (sumL done)] w fun e w' => e = .returned (.tuple #[]) ∧ IvW B0 L n c gw h (foldS (lsStep xs h) done (allS (xs.drop m)) st) w' ∧ Kp (fun k => k = gw) w w'

set_option maxHeartbeats 4000000 in
theorem l17Walk_step (B0 : Nat) (L : Option Addr) (n c : Nat) (xs : List Cu) (ok : CuOk xs) (hxl : Hid (xs.length = n)) (gw : Nat) (hLS : 0 < n → ∀ a, L = some a → a.block ≠ gw) (h : Int) (r : Nat) (ih : ∀ r', r = r' + 1 → WalkC B0 L n c xs gw h r') : WalkC B0 L n c xs gw h r := by
  obtain ⟨i0, hi0, hz0, hz1, hz2⟩ := info_parts infoI64
  obtain ⟨j0, hj0, hy0, hy1, hy2⟩ := info_parts infoCue
  have hn6 : n ≤ 6 := by rw [← hxl.out]; exact ok.len
  have HLS := Lib.hid hLS
  have HIH := Lib.hid ih
  clear hLS ih
  intro done B m dq A d st w hmr hB0 hI hL hC hCg hs hSg hsb hdl
  have HCg := Lib.hid hCg
  have HSg := Lib.hid hSg
  have HS := Lib.hid hs
  have HL := Lib.hid hL
  clear hCg hSg hs hL
  have okw : CuW (zS xs done) := zS_w ok hsb
  have hmb : 0 ≤ most (zS xs done) ∧ most (zS xs done) ≤ 24 := okw.mostK_bd _
  have hsum := sumL_le (hsb.bd ok)
  have c1 : w.drew.cell? ⟨gw, 1, none⟩ = some (.int .i64 h) := hI.c1
  have c3 : w.drew.cell? ⟨gw, 3, none⟩ = some (.int .i64 st.2) := hI.c3
  have hb : Below w.heap.size w w.drew := (Below.refl _ _).drew
  have HC := Lib.hid hC
  have HI := Lib.hid hI
  have HDL := Lib.hid hdl
  have HSB := Lib.hid hsb
  clear hI hC hsb
  go_enter Try.func55, Try.ntmps55
  go_upto_region 0 with fail
  go_cut [32] (fun v wx => v = .bool (decide ((0 ≤ st.2 ∧ st.2 ≤ sumL done) ∨ h < most (zS xs done))) ∧ Below w.heap.size w wx)
  case first =>
    have hcase : (decide (0 ≤ st.2) = true ∧ decide (st.2 ≤ sumL done) = true ∨ decide (0 ≤ st.2) = true ∧ decide (st.2 ≤ sumL done) = false ∧ decide (h < most (zS xs done)) = true ∨ decide (0 ≤ st.2) = true ∧ decide (st.2 ≤ sumL done) = false ∧ decide (h < most (zS xs done)) = false) ∨ (decide (0 ≤ st.2) = false ∧ decide (h < most (zS xs done)) = true ∨ decide (0 ≤ st.2) = false ∧ decide (h < most (zS xs done)) = false) := by
      simp only [decide_eq_true_eq, decide_eq_false_iff_not]; omega
    rcases hcase with (⟨t1, t2⟩ | ⟨t1, t2, t3⟩ | ⟨t1, t2, t3⟩) | (⟨t1, t3⟩ | ⟨t1, t3⟩)
    · clear c1 c3
      have c3 : w.cell? ⟨gw, 3, none⟩ = some (.int .i64 st.2) := HI.out.c3
      go_quiet (fail)
      go_wp2_with fail
      go_meet
      simp only [decide_eq_true_eq] at t1 t2
      exact ⟨congrArg Value.bool (decide_eq_true (Or.inl ⟨t1, t2⟩)).symm, below_drewN (Below.refl _ _) _⟩
    iterate 2
      · first | (go_region_held3 (fun w' => w'.cell? ⟨gw, 1, none⟩ = some (.int .i64 h) ∧ w'.cell? ⟨gw, 3, none⟩ = some (.int .i64 st.2)) (exact ⟨c1, c3⟩) (first
        | (go_at_call 69; refine (l17Most_any B m dq _ _ (HC.out.drew.sl e4_len) okw).mono ?_; rintro e wa ⟨rfl, hbA⟩; replace c1 := (hbA.cell (World.block_lt_of_cell? _ _ c1)).trans c1; replace c3 := (hbA.cell (World.block_lt_of_cell? _ _ c3)).trans c3; replace hb := below_mid hb hbA hb.size))) | fail "region"
        all_goals go_wp2_with fail
        all_goals go_meet
        all_goals (
          simp only [decide_eq_true_eq, decide_eq_false_iff_not] at t1 t2 t3
          refine ⟨congrArg Value.bool ?_, hb⟩
          first | exact (decide_eq_true (Or.inr t3)).symm | exact (decide_eq_false (fun e => e.elim (fun e => t2 e.2) t3)).symm)
    iterate 2
      · first | (go_region_with (first
        | (go_at_call 69; refine (l17Most_any B m dq _ _ (HC.out.drew.sl e4_len) okw).mono ?_; rintro e wa ⟨rfl, hbA⟩; replace c1 := (hbA.cell (World.block_lt_of_cell? _ _ c1)).trans c1; replace c3 := (hbA.cell (World.block_lt_of_cell? _ _ c3)).trans c3; replace hb := below_mid hb hbA hb.size))) | fail "region"
        all_goals go_wp2_with fail
        all_goals go_meet
        all_goals (
          simp only [decide_eq_true_eq, decide_eq_false_iff_not] at t1 t3
          refine ⟨congrArg Value.bool ?_, hb⟩
          first | exact (decide_eq_true (Or.inr t3)).symm | exact (decide_eq_false (fun e => e.elim (fun e => t1 e.1) t3)).symm)
  case rest =>
    obtain ⟨rfl, hbx⟩ := hcut
    clear c1 c3 hb
    by_cases hp : (0 ≤ st.2 ∧ st.2 ≤ sumL done) ∨ h < most (zS xs done)
    · rw [decide_eq_true hp]
      have e := ls_prune ok (by rw [HDL.out, hxl.out]; omega) (st := st) (h := h) (done := done) (by rw [zS_take]; exact hp)
      rw [HDL.out] at e
      have HE := Lib.hid e
      clear e
      go_wp2_with fail
      refine bodyPost_ret (results_none rfl _ _ _) rfl ?_
      exact ⟨rfl, by rw [HE.out]; exact HI.out.below hbx, Kp.of_below hbx⟩
    · rw [decide_eq_false hp]
      have hI := HI.out.below hbx
      have HI1 := Lib.hid hI
      have c0 := hI.c0
      have hk0 := Kp.of_below (S := fun k => k = gw) hbx
      cases r with
      | zero =>
        obtain rfl : m = n := by omega
        have HE : Hid (foldS (lsStep xs h) done (allS (xs.drop m)) st = (done, sumL done)) := by
          rw [Hid, List.drop_of_length_le (by rw [hxl.out]; exact Nat.le_refl _), foldS_leaf, lsStep, if_pos (by omega)]
        have f2 := hI.f2
        have f3 := hI.f3
        have c3 := hI.c3
        obtain ⟨v2, c2, _, _⟩ := hI.c2
        have c3' := (World.cell?_setCell_other _ ⟨gw, 2, none⟩ ⟨gw, 3, none⟩ (.slice A m d) (by intro e; injection e with _ e1; cases e1)).trans c3
        have f3' := (World.frozen?_setCell _ ⟨gw, 2, none⟩ ⟨gw, 3, none⟩ (.slice A m d)).trans f3
        clear hI
        go_wp2_with fail
        first | go_end0 | refine bodyPost_ret (results_none rfl _ _ _) rfl ?_
        exact ⟨rfl, by rw [HE.out]; exact HI1.out.put (HS.out.below hbx) HSg.out, (hk0.setCell rfl _).setCell rfl _⟩
      | succ r =>
        have HIH2 := Lib.hid (HIH.out r rfl)
        clear HIH hI
        have hlt : m < n := by omega
        obtain ⟨x, hx⟩ : ∃ x, xs[m]? = some x := ⟨_, List.getElem?_eq_getElem (by rw [hxl.out]; exact hlt)⟩
        have HX := Lib.hid hx
        have hxb := ok.one x (List.mem_of_getElem? hx)
        have HD : Hid (allS (xs.drop m) = allP (xs.drop (m + 1)) (x.2.2.2.toNat + 1)) := by
          obtain ⟨h1, h2⟩ := List.getElem?_eq_some_iff.1 hx
          rw [Hid, List.drop_eq_getElem_cons h1, h2, allS_cons]
        clear hx
        have hzl : Hid ((zS xs done).length = m) := by rw [Hid, zS, List.length_zipWith, HDL.out, hxl.out]; omega
        have hne : ((m : Int) == (n : Int)) = false := by rw [beq_eq_false_iff_ne]; omega
        have g1 : (0 : Int) ≤ (m : Int) := by omega
        have g2 : (m : Int) < (n : Int) := by omega
        have hsm : sumL done ≤ 36 := by have := hsum.2; have := HDL.out; omega
        go_wp2_with fail
        clear c0
        go_loopw [9] (fun i wr => ∃ b : Nat, b ≤ x.2.2.2.toNat + 1 ∧ i = .int .i64 b ∧ Hid (IvW B0 L n c gw h (foldS (lsStep xs h) done (allP (xs.drop (m + 1)) b) st) wr) ∧ Kp (fun k => k = gw) w wr) (fun i _ => x.2.2.2.toNat + 1 - (intOf i).toNat)
        case atStart => exact ⟨0, by omega, rfl, HI1, hk0⟩
        case round =>
          obtain ⟨b, hb, rfl, HIb, hk⟩ := hrel
          have hLr := HL.out.kp hk (fun hp a ha => HLS.out hp a ha)
          have hCr := HC.out.kp hk (fun g hg e => HCg.out g hg e)
          have hSr := HS.out.kp hk (fun g hg e => HSg.out g hg e)
          have hBr := Nat.le_trans hB0 hk.size
          have c0 := HIb.out.c0
          have lgw : gw < wr.heap.size := World.block_lt_of_cell? _ _ c0
          obtain ⟨bl, off, x', rfl, hx', _, d0, d1, d2, d3⟩ := hLr.at4 hlt
          obtain rfl : x' = x := by have := HX.out; rw [hx'] at this; exact Option.some.inj this
          clear hx'
          have lbl : bl < wr.heap.size := World.block_lt_of_cell? _ _ d0
          by_cases hle : (b : Int) ≤ x'.2.2.2
          · have hst : Own (wr.alloc (.cells #[] 49)) wr.heap.size 49 4 e4 (.slice (some ⟨wr.heap.size, 0, none⟩) 0 0) ([] : List Cu) := Own.lit wr _ _ [] 0 (Nat.le_refl _) rfl (by simp [maxLen]) e4_len rfl
            have HCr := Lib.hid hCr
            have HSr := Lib.hid hSr
            have HLr := Lib.hid hLr
            clear hCr hSr hLr
            go_wp2_with (at_builtin; refine wpList_appS rfl (.tmp 62) (.tmp 63) 26 49 rfl wr.heap.size j0 _ 4 32 Try.underlying26 hj0 hy0 hy1 hy2 rfl (by decide) e4 e4_len e4_one _ ([] : List Cu) rfl hst B m dq (zS xs done) rfl HCr.out.none0 ((HCr.out.sl e4_len).alloc _) (by simp; omega) (by simp [maxLen]; omega) (by simp) ?_; intro v3 w3 ho3 hb3 _ _; rw [List.nil_append] at ho3; have hbA := (below_alloc wr _).trans hb3; replace c0 := (hbA.cell (p := ⟨gw, 0, none⟩) lgw).trans c0; replace d0 := (hbA.cell lbl).trans d0; replace d1 := (hbA.cell lbl).trans d1; replace d2 := (hbA.cell lbl).trans d2; replace d3 := (hbA.cell lbl).trans d3)
            refine (l17Shift_any x' b _ (by omega) (by omega) (by omega)).mono ?_
            rintro e w4 ⟨rfl, hb4⟩
            have ho4 := ho3.below hb4
            have hbB := below_mid hbA hb4 hbA.size
            go_wp2_with (at_builtin; refine wpList_app1x rfl (.tmp 66) (.tmp 76) 26 49 rfl wr.heap.size j0 _ 4 32 Try.underlying26 hj0 hy0 hy1 hy2 rfl (by decide) e4 e4_len e4_one v3 (zS xs done) rfl (ho4.alloc _) (shF x' b) _ _ rfl (newcell _ _ _ _ rfl) (by rw [hzl.out]; omega) (by rw [hzl.out]; unfold maxLen; omega) (Nat.le_trans hbB.size (below_alloc _ _).size) ?_; intro v5 w5 ho5 hb5 _ _; rw [← zS_snoc (b : Int) (by rw [HDL.out]; exact HX.out)] at ho5; obtain ⟨A5, c5, hv5, _, _, hu5⟩ := ho5.val; clear hu5; rw [show (zS xs (done ++ [(b : Int)])).length = m + 1 by rw [zS, List.length_zipWith, List.length_append, HDL.out, hxl.out]; simp; omega] at hv5; subst hv5)
            have hbC := (hbB.alloc hbB.size _).trans hb5
            refine (l00Own_any A m d done _ ((HSr.out.below hbC).sl e1_len) HSr.out.none0 (by omega)).mono ?_
            rintro e w6 ⟨A6, n6, c6, rfl, ho6, hb6⟩
            obtain rfl : n6 = m := by rw [← (ho6.sl e1_len).1]; exact HDL.out
            go_wp2_with (at_builtin; refine wpList_app1x rfl (.tmp 79) (.tmp 81) 30 2 rfl w5.heap.size i0 _ 1 8 Try.underlying30 hi0 hz0 hz1 hz2 rfl (by decide) e1 e1_len e1_one (.slice A6 n6 c6) done rfl (ho6.alloc _) (b : Int) _ _ rfl (newcell _ _ _ _ rfl) (by rw [HDL.out]; omega) (by rw [HDL.out]; unfold maxLen; omega) (Nat.le_trans hb6.size (below_alloc _ _).size) ?_; intro v7 w7 ho7 hb7 _ _; obtain ⟨A7, c7, hv7, _, _, hu7⟩ := ho7.val; clear hu7; rw [show (done ++ [(b : Int)]).length = n6 + 1 by rw [List.length_append, HDL.out]; rfl] at hv7; subst hv7)
            have hb57 := (hb6.alloc hb6.size _).trans hb7
            have hbr7 := hbC.trans (hb57.mono hbC.size)
            have hrec := HIH2.out (done ++ [(b : Int)]) A5 (n6 + 1) c5 A7 c7 _ w7 (by omega) (Nat.le_trans hBr hbr7.size) (HIb.out.below hbr7) (HLr.out.below hbr7) ((ho5.below hb57).mono hBr) (fun g hg => by have := (ho5.lt g hg).1; omega) (ho7.mono (Nat.le_trans hBr hbC.size)) (fun g hg => by have := (ho7.lt g hg).1; have := hbC.size; omega) (HSB.out.snoc (by rw [HDL.out]; exact HX.out) (by omega) hle) (by rw [List.length_append, HDL.out]; rfl)
            rw [sumL_snoc] at hrec
            refine hrec.mono ?_
            rintro e w10 ⟨rfl, hI10, hk10⟩
            have HI10 := Lib.hid hI10
            clear hI10
            go_wp2_with fail
            go_roundw
            case rel => exact ⟨b + 1, by omega, by go_num, by rw [Hid, foldS_succ]; exact HI10.out, (hk.trans (Kp.of_below hbr7)).trans hk10⟩
            case measure => simp [intOf]; omega
          · have HBE : Hid (x'.2.2.2.toNat + 1 = b) := by rw [Hid]; omega
            go_wp2_with fail
            go_end0
            exact ⟨rfl, by rw [HD.out, HBE.out]; exact HIb.out, hk⟩

end Go.Proofs.Ytnikpadclmjglaa
