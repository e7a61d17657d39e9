/-
  Contracts of the functions on cues: cues after shifts.
-/
import Derived.Test.YtnikpadclmjglaaCuB
import Derived.Test.YtnikpadclmjglaaW2
import Derived.Test.YtnikpadclmjglaaBToI
import Derived.Lib.SliceRun
import Derived.Deep.RegionLaw
namespace Go.Proofs.Ytnikpadclmjglaa
set_option maxRecDepth 100000
open Go.RowKit

theorem row4_03 (ys : List (Int × Int × Int × Int)) (i : Nat) (x : Int × Int × Int × Int) (a b : Int) (h : ys[i]? = some x) : ((ys.flatMap e4).set (i * 4) (.int .i64 a)).set (i * 4 + 3) (.int .i64 b) = (ys.set i (a, x.2.1, x.2.2.1, b)).flatMap e4 := by
  induction ys generalizing i with
  | nil => simp at h
  | cons y ys ih =>
    cases i with
    | zero => simp at h; subst h; simp [List.flatMap_cons, e4]
    | succ i =>
      have h' : ys[i]? = some x := by simpa using h
      rw [show (i + 1) * 4 = (i * 4) + 1 + 1 + 1 + 1 from by omega, show i * 4 + 1 + 1 + 1 + 1 + 3 = (i * 4 + 3) + 1 + 1 + 1 + 1 from by omega]
      simp only [List.flatMap_cons, e4, List.set_cons_succ, List.cons_append, List.nil_append]
      have := ih i h'
      try simp only [e4] at this
      rw [this]
theorem Own.set4_03 {w : World} {base : Nat} {e : TypeId} {g n cap : Nat} {ys : List (Int × Int × Int × Int)} (h : Own w base e 4 e4 (.slice (some ⟨g, 0, none⟩) n cap) ys) (i : Nat) (x : Int × Int × Int × Int) (a b : Int) (hx : ys[i]? = some x) :
    Own ((w.setCell ⟨g, i * 4, none⟩ (.int .i64 a)).setCell ⟨g, i * 4 + 3, none⟩ (.int .i64 b)) base e 4 e4 (.slice (some ⟨g, 0, none⟩) n cap) (ys.set i (a, x.2.1, x.2.2.1, b)) := by
  obtain ⟨A, c, hv, _⟩ := h.val
  injection hv with _ hn _
  subst hn
  have h1 := (World.ownsRow.stored h (i * 4) (.int .i64 a)).1
  have h2 := (World.ownsRow.stored h1 (i * 4 + 3) (.int .i64 b)).1
  exact Own.of_row h2 (by simp) (row4_03 ys i x a b hx)
/-- a cue after a shift; cues after shifts -/
def shF (x : Int × Int × Int × Int) (b : Int) : Int × Int × Int × Int := (x.1 + b, x.2.1, x.2.2.1, x.2.2.2 - b)
def scL (xs : List (Int × Int × Int × Int)) (ss : List Int) : List (Int × Int × Int × Int) := List.zipWith shF xs ss
theorem scL_len {xs : List (Int × Int × Int × Int)} {ss : List Int} {n : Nat} (h : xs.length = n) (h' : ss.length = n) : (scL xs ss).length = n := by
  rw [scL, List.length_zipWith, h, h', Nat.min_self]
theorem scL_get {xs : List (Int × Int × Int × Int)} {ss : List Int} {k : Nat} {x : Int × Int × Int × Int} {s : Int} (h : xs[k]? = some x) (h' : ss[k]? = some s) : (scL xs ss)[k]? = some (shF x s) := by
  rw [scL, List.getElem?_zipWith, h, h']
theorem scL_take {xs : List (Int × Int × Int × Int)} {ss : List Int} {k : Nat} {x : Int × Int × Int × Int} {s : Int} (h : xs[k]? = some x) (h' : ss[k]? = some s) : (scL xs ss).take (k + 1) = (scL xs ss).take k ++ [shF x s] := by
  rw [List.take_add_one, scL_get h h']; rfl
def scP (p : (Int × Int × Int × Int) × Int) : Bool := inB p.2 0 p.1.2.2.2
def scAll (xs : List (Int × Int × Int × Int)) (ss : List Int) : Bool := (xs.zip ss).all scP
theorem zip_get {xs : List (Int × Int × Int × Int)} {ss : List Int} {k : Nat} {x : Int × Int × Int × Int} {s : Int} (h : xs[k]? = some x) (h' : ss[k]? = some s) : (xs.zip ss)[k]? = some (x, s) := by
  rw [List.getElem?_zip_eq_some]; exact ⟨h, h'⟩
theorem scAll_miss {xs : List (Int × Int × Int × Int)} {ss : List Int} {k : Nat} {x : Int × Int × Int × Int} {s : Int} (h : xs[k]? = some x) (h' : ss[k]? = some s) (hq : inB s 0 x.2.2.2 = false) : scAll xs ss = false := by
  cases ha : scAll xs ss
  · rfl
  · rw [scAll, List.all_eq_true] at ha
    have := ha (x, s) (List.mem_of_getElem? (zip_get h h'))
    rw [scP] at this
    rw [this] at hq; cases hq
theorem scAll_get {xs : List (Int × Int × Int × Int)} {ss : List Int} (ha : scAll xs ss = true) {k : Nat} {x : Int × Int × Int × Int} {s : Int} (h : xs[k]? = some x) (h' : ss[k]? = some s) : 0 ≤ s ∧ s ≤ x.2.2.2 := by
  rw [scAll, List.all_eq_true] at ha
  exact inB_true.1 (ha (x, s) (List.mem_of_getElem? (zip_get h h')))
theorem zip_len {xs : List (Int × Int × Int × Int)} {ss : List Int} {n : Nat} (h : xs.length = n) (h' : ss.length = n) : (xs.zip ss).length = n := by
  rw [List.length_zip, h, h', Nat.min_self]
def scCode (xs : List (Int × Int × Int × Int)) (ss : List Int) : Int := if cueOk xs then (if ss.length = xs.length then (if scAll xs ss then (if cueOk (scL xs ss) then 0 else 5) else 2) else 2) else 1
def scVal (xs : List (Int × Int × Int × Int)) (ss : List Int) : List (Int × Int × Int × Int) := if scCode xs ss = 0 then scL xs ss else []
theorem scVal_no {xs : List (Int × Int × Int × Int)} {ss : List Int} (h : scCode xs ss ≠ 0) : scVal xs ss = [] := by rw [scVal, if_neg h]
theorem scVal_len (xs : List (Int × Int × Int × Int)) (ss : List Int) : (scVal xs ss).length ≤ 1048577 := by
  unfold scVal
  split
  · rename_i h
    have hok : cueOk xs = true := by
      cases hq : cueOk xs
      · rw [scCode, hq] at h; cases h
      · rfl
    have := (cueOk_iff.1 hok).len
    rw [scL, List.length_zipWith]; omega
  · simp

theorem CloneCue_any (A : Option Addr) (n c : Nat) (xs : List (Int × Int × Int × Int)) (w : World) (h : Sl w 4 e4 A n xs) (hn : n ≤ 1048577) :
    Calls Try.prog 60 #[.slice A n c] w (RetOwn 49 4 e4 xs w) := by
  obtain ⟨i0, hi0, hz0, hz1, hz2⟩ := info_parts infoCue
  have q22 : ∀ (w : World) (a : Option Addr) (n c n' c' : Nat), (binOp .eql 26 (.slice a n c) (.slice none n' c')).run Try.prog w = .ok (.bool a.isNone) w := fun w a n c n' c' => Lib.run_eql_slice_nil w _ _ a n c n' c' Try.underlying26
  cases A with
  | none =>
    have hx : xs = [] := by
      rcases Nat.eq_zero_or_pos n with h0 | h0
      · exact List.eq_nil_of_length_eq_zero (by rw [h.1, h0])
      · obtain ⟨b, off, e, _⟩ := h.2 h0; cases e
    subst hx
    go_enter Try.func60, Try.ntmps60
    go_wp2
    go_ret
    exact RetOwn.mk Own.none_ (Below.refl _ _)
  | some a =>
    have hst : Own (w.alloc (.cells #[] 49)) w.heap.size 49 4 e4 (.slice (some ⟨w.heap.size, 0, none⟩) 0 0) ([] : List (Int × Int × Int × Int)) := Own.lit w _ _ [] 0 (Nat.le_refl _) rfl (by simp [maxLen]) e4_len rfl
    go_enter Try.func60, Try.ntmps60
    go_wp2_with (at_builtin; refine wpList_appS rfl (.tmp 5) (.tmp 6) 26 49 rfl w.heap.size i0 _ 4 32 Try.underlying26 hi0 hz0 hz1 hz2 rfl (by decide) e4 e4_len e4_one _ ([] : List (Int × Int × Int × Int)) rfl hst (some a) n c xs rfl (fun h => by cases h) (h.alloc _) (by simp; omega) (by simp [maxLen]; omega) (by simp) ?_; intro v9 w9 ho9 hb9 hg9 hn9)
    go_ret
    exact RetOwn.mk (by simpa using ho9) ((below_alloc _ _).trans hb9)

theorem l17Shift_any (x : Int × Int × Int × Int) (b : Int) (w : World) (hx : -1000000 ≤ x.1 ∧ x.1 ≤ 1000000) (hx2 : -1000000 ≤ x.2.2.2 ∧ x.2.2.2 ≤ 1000000) (hb : -1000000 ≤ b ∧ b ≤ 1000000) :
    Calls Try.prog 70 #[.agg #[.int .i64 x.1, .int .i64 x.2.1, .int .i64 x.2.2.1, .int .i64 x.2.2.2], .int .i64 b] w fun e w' => e = .returned (.agg #[.int .i64 (shF x b).1, .int .i64 (shF x b).2.1, .int .i64 (shF x b).2.2.1, .int .i64 (shF x b).2.2.2]) ∧ Below w.heap.size w w' := by
  have HQ : Hid (shF x b = (x.1 + b, x.2.1, x.2.2.1, x.2.2.2 - b)) := rfl
  go_enter Try.func70, Try.ntmps70
  go_wp2
  exact bodyPost_ret (v := .agg #[.int .i64 (x.1 + b), .int .i64 x.2.1, .int .i64 x.2.2.1, .int .i64 (x.2.2.2 - b)]) (by simp [results, Try.results70, go_sem]) rfl ⟨by rw [HQ.out], (below_alloc _ _).alloc (by simp) _⟩

set_option maxHeartbeats 400000 in
theorem shiftCues_any (A : Option Addr) (n c : Nat) (xs : List (Int × Int × Int × Int)) (B : Option Addr) (m d : Nat) (ss : List Int) (w : World) (h : Sl w 4 e4 A n xs) (ok : CuOk xs) (hs : Sl w 1 e1 B m ss) (hm : m = n) (hin : scAll xs ss = true) :
    Calls Try.prog 33 #[.slice A n c, .slice B m d] w (RetOwn 49 4 e4 (scL xs ss) w) := by
  have hl := h.1
  have hl2 := hs.1
  have hn6 : n ≤ 6 := by rw [← hl]; exact ok.len
  go_enter Try.func33, Try.ntmps33
  go_wp2_with fail
  refine (CloneCue_any A n c xs _ h (by omega)).mono ?_
  rintro e w3 ⟨A3, n3, c3, rfl, ho, hb3⟩
  have hn3 : n3 = n := by rw [← (ho.sl e4_len).1, hl]
  subst hn3
  go_wp2_with fail
  go_loopw [12] (fun i wr => ∃ k : Nat, k ≤ m ∧ i = .int .i64 k ∧ Own wr w.heap.size 49 4 e4 (.slice A3 n3 c3) (overK (scL xs ss) xs k) ∧ Below w.heap.size w wr) (fun i _ => m - (intOf i).toNat)
  case atStart => exact ⟨0, by omega, rfl, by rw [overK_zero]; exact ho, hb3⟩
  case round =>
    obtain ⟨k, hk, rfl, ho, hb⟩ := hrel
    by_cases hlt : k < m
    · obtain ⟨bs, offs, s, rfl, hs0, hms, c0⟩ := (hs.below hb).at1 hlt
      obtain ⟨x, hx, hox⟩ := overK_get (scL_len (xs := xs) (ss := ss) (n := n3) hl (by omega)) hl (show k < n3 by omega)
      have hx1 := ok.one x (List.mem_of_getElem? hx)
      have hs1 := scAll_get hin hx hs0
      obtain ⟨g, rfl⟩ : ∃ g, A3 = some ⟨g, 0, none⟩ := by
        rcases ho.form with ⟨_, h0, _⟩ | hg
        · omega
        · exact hg
      have hg1 := ho.blt.1
      have d0 : wr.cell? ⟨g, k * 4, none⟩ = some (.int .i64 x.1) := ho.cell e4_len hox (j := 0) rfl
      have d3 : wr.cell? ⟨g, k * 4 + 3, none⟩ = some (.int .i64 x.2.2.2) := ho.cell e4_len hox (j := 3) rfl
      have f0 := ho.free (k * 4)
      have f3 := ho.free (k * 4 + 3)
      have q1 : (0 : Int) ≤ (k : Int) := by omega
      have q2 : (k : Int) < (n3 : Int) := by omega
      have ho2 := ho.set4_03 k x (x.1 + s) (x.2.2.2 - s) hox
      have hbs : Below w.heap.size w (World.setCell (World.setCell wr (⟨g, k * 4, none⟩ : Addr) (.int .i64 (x.1 + s))) (⟨g, k * 4 + 3, none⟩ : Addr) (.int .i64 (x.2.2.2 - s))) := (hb.setCell (by exact hg1) _).setCell (by exact hg1) _
      have HO := Lib.hid (overK_set (scL_len (xs := xs) (ss := ss) (n := n3) hl (by omega)) hl (scL_get hx hs0))
      have ho3 : Own (World.setCell (World.setCell wr (⟨g, k * 4, none⟩ : Addr) (.int .i64 (x.1 + s))) (⟨g, k * 4 + 3, none⟩ : Addr) (.int .i64 (x.2.2.2 - s))) w.heap.size 49 4 e4 (.slice (some ⟨g, 0, none⟩) n3 c3) (overK (scL xs ss) xs (k + 1)) := by rw [← HO.out]; exact ho2
      clear hx hs0 hox ho ho2
      go_wp2_with fail
      go_roundw
      case rel => exact ⟨k + 1, by omega, by go_num, ho3, hbs⟩
      case measure => simp [intOf]; omega
    · have : k = m := by omega
      subst this
      have HA : Hid (overK (scL xs ss) xs k = scL xs ss) := overK_all (n := k) (scL_len (n := k) (by omega) hl2) (by omega)
      go_wp2_with fail
      go_ret
      rw [← HA.out]
      exact RetOwn.mk ho hb

end Go.Proofs.Ytnikpadclmjglaa
