/-
  AssignLanterns of the reference.
-/
import Derived.Test.YtcfbnlkkoifiiaaAsD
import Derived.Test.YtcfbnlkkoifiiaaW2
import Derived.Deep.OwnRows
namespace Go.Proofs.Ytcfbnlkkoifiiaa
open Go.RowKit

theorem Own.none0 {α : Type} {w : World} {base : Nat} {e : TypeId} {k : Nat} {enc : α → List Value} {n c : Nat} {xs : List α} {A : Option Addr} (h : Own w base e k enc (.slice A n c) xs) : A = none → c = 0 := by
  intro hA
  rcases h.form with ⟨_, _, hc, _⟩ | ⟨g, hg⟩
  · exact hc
  · rw [hA] at hg; cases hg
theorem l00Own_any (A : Option Addr) (n c : Nat) (xs : List Int) (w : World) (h : Sl w 1 e1 A n xs) (hA : A = none → c = 0) (hn : n ≤ 1048577) :
    Calls Try.prog 31 #[.slice A n c] w (RetOwn 2 1 e1 xs w) := by
  obtain ⟨i0, hi0, hz0, hz1, hz2⟩ := info_parts infoI64
  have hst : Own (w.alloc (.cells #[] 2)) w.heap.size 2 1 e1 (.slice (some ⟨w.heap.size, 0, none⟩) 0 0) ([] : List Int) := Own.lit w _ _ [] 0 (Nat.le_refl _) rfl (by simp [maxLen]) e1_len rfl
  go_enter Try.func31, Try.ntmps31
  go_wp2_with (at_builtin; refine wpList_appS rfl (.tmp 3) (.tmp 4) 24 2 rfl w.heap.size i0 _ 1 8 Try.underlying24 hi0 hz0 hz1 hz2 rfl (by decide) e1 e1_len e1_one _ ([] : List Int) rfl hst A n c xs rfl hA (h.alloc _) (by simp; omega) (by simp [maxLen]; omega) (by simp) ?_; intro v9 w9 ho9 hb9 hg9 hn9)
  go_ret
  exact RetOwn.mk (by simpa using ho9) ((below_alloc _ _).trans hb9)

theorem toZ_at {l : List Nat} {q y : Nat} (h : l[q]? = some y) : (toZ l)[q]? = some (y : Int) := by rw [toZ, List.getElem?_map, h]; rfl
theorem ordI_len (f : Nat → Int) (i : Nat) : (ordL f (List.range i)).length = i := by rw [ordL_len]; simp
theorem ordI_lt (f : Nat → Int) {i q y : Nat} (h : (ordL f (List.range i))[q]? = some y) : y < i := List.mem_range.1 (ordL_mem (List.mem_of_getElem? h))
theorem insPos_go {α : Type} {f : α → Int} {l : List α} {v : Int} {k : Nat} {y : α} (h : l[k]? = some y) (hv : v < f y) : insPos f l v (k + 1) = insPos f l v k := by rw [insPos, h]; simp [hv]
theorem insPos_stop {α : Type} {f : α → Int} {l : List α} {v : Int} {k : Nat} {y : α} (h : l[k]? = some y) (hv : ¬ v < f y) : insPos f l v (k + 1) = k + 1 := by rw [insPos, h]; simp [hv]
theorem toZ_ins (f : Nat → Int) (i q : Nat) (hq : insPos f (ordL f (List.range i)) (f i) i = q) :
    toZ (ordL f (List.range (i + 1))) = (toZ (ordL f (List.range i))).take q ++ [(i : Int)] ++ (toZ (ordL f (List.range i))).drop q := by
  rw [List.range_succ, ordL_snoc, insE, ordI_len, hq]
  simp [toZ]
theorem Sl.nilc {α : Type} {w : World} {k n : Nat} {enc : α → List Value} {A : Option Addr} {xs : List α} (h : xs.length = n) (hn : n = 0) : Sl w k enc A n xs := ⟨h, fun h0 => by omega⟩
theorem Sl.dropc {α : Type} {w : World} {k n q b off : Nat} {enc : α → List Value} {xs : List α} (h : Sl w k enc (some ⟨b, off, none⟩) n xs) : Sl w k enc (some ⟨b, off + q * k, none⟩) (n - q) (xs.drop q) := by
  refine ⟨by rw [List.length_drop, h.1], fun hn => ?_⟩
  obtain ⟨b2, off2, e, hb, hc⟩ := h.2 (by omega)
  cases e
  refine ⟨b, off + q * k, rfl, hb, fun i x hx j u hu => ?_⟩
  rw [List.getElem?_drop] at hx
  have := hc (q + i) x hx j u hu
  rw [show off + q * k + i * k + j = off + (q + i) * k + j by rw [Nat.add_mul]; omega]
  exact this

set_option maxHeartbeats 1600000 in
theorem l15Order_any (A : Option Addr) (n c : Nat) (xs : List (Int × Int × Int)) (w : World) (h : Sl w 3 e3 A n xs) (hn : n ≤ 12) :
    Calls Try.prog 17 #[.slice A n c] w (RetOwn 2 1 e1 (toZ (ordL (onI xs) (List.range n))) w) := by
  obtain ⟨i0, hi0, hz0, hz1, hz2⟩ := info_parts infoI64
  have hst : Own (w.alloc (.cells #[] 2)) w.heap.size 2 1 e1 (.slice (some ⟨w.heap.size, 0, none⟩) 0 0) (toZ (ordL (onI xs) (List.range 0))) := Own.lit w _ _ [] 0 (Nat.le_refl _) rfl (by simp [maxLen]) e1_len rfl
  have HS0 := Lib.hid hst
  clear hst
  go_enter Try.func17, Try.ntmps17
  go_wp2
  go_loopw [3, 4] (fun v i wr => ∃ k : Nat, k ≤ n ∧ i = .int .i64 k ∧ Hid (v ≠ .slice none 0 0) ∧ Own wr w.heap.size 2 1 e1 v (toZ (ordL (onI xs) (List.range k))) ∧ Below w.heap.size w wr) (fun _ i _ => n - (intOf i).toNat)
  case atStart => exact ⟨0, by omega, rfl, (fun e => by cases e), HS0.out, below_alloc _ _⟩
  case round =>
    obtain ⟨k, hk, rfl, hne, ho, hb⟩ := hrel
    by_cases hlt : k < n
    · obtain ⟨A3, c3, hv, hkc, _, hu⟩ := ho.val
      rw [toZ_len, ordI_len] at hv hkc
      subst hv
      clear hu
      obtain ⟨g3, rfl⟩ : ∃ g3, A3 = some ⟨g3, 0, none⟩ := by
        rcases ho.form with ⟨h1, h2, h3, _⟩ | h1
        · rw [h1, h2, h3] at hne; exact absurd rfl hne.out
        · exact h1
      have hk12 : k ≤ 12 := by omega
      clear hne
      obtain ⟨bl, off, x, hA, hx, _, d0, _, _⟩ := (h.below hb).at3 hlt
      subst hA
      have HON : Hid (onI xs k = x.1) := onI_get hx
      have HX := Lib.hid hx
      clear hx d0
      have g1 : (0 : Int) ≤ (k : Int) := by omega
      have g2 : (k : Int) < (n : Int) := by omega
      go_wp2_with fail
      go_loopw [5] (fun v wx => ∃ q : Nat, q ≤ k ∧ v = .int .i64 q ∧ Hid (insPos (onI xs) (ordL (onI xs) (List.range k)) (onI xs k) k = insPos (onI xs) (ordL (onI xs) (List.range k)) (onI xs k) q) ∧ Own wx w.heap.size 2 1 e1 (.slice (some ⟨g3, 0, none⟩) k c3) (toZ (ordL (onI xs) (List.range k))) ∧ Below w.heap.size w wx) (fun v _ => (intOf v).toNat)
      case atStart => exact ⟨k, by omega, rfl, rfl, ho, hb⟩
      case round =>
        obtain ⟨q, hq, rfl, hp, hox, hbx⟩ := hrel
        have HP := Lib.hid hp
        clear hp
        by_cases hq0 : q = 0
        · subst hq0
          have gq : decide ((0 : Int) < ((0 : Nat) : Int)) = false := rfl
          have HQ : Hid (insPos (onI xs) (ordL (onI xs) (List.range k)) (onI xs k) k = 0) := HP.out
          go_wp2_with fail
          go_quiet (fail)
          generalize hW : wr.drewN nq = w3
          have ho3 : Own w3 w.heap.size 2 1 e1 (.slice (some ⟨g3, 0, none⟩) k c3) (toZ (ordL (onI xs) (List.range k))) := by rw [← hW]; exact hox.drewN _
          have hb3 : Below w.heap.size w w3 := by rw [← hW]; exact below_drewN hbx _
          have HG3 := Lib.hid ho3.blt
          clear hW hox hbx
          go_wp2_with fail
          refine (l00Own_any (some ⟨g3, 0, none⟩) 0 c3 _ _ ((ho3.sl e1_len).take (by omega)) (fun e => by cases e) (by omega)).mono ?_
          rintro e w4 ⟨A4, n4, c4, rfl, ho4, hb4⟩
          obtain rfl : n4 = 0 := by rw [← (ho4.sl e1_len).1, List.length_take, toZ_len, ordI_len]; omega
          have HSD : Hid (Sl w3 1 e1 (some ⟨g3, 0, none⟩) (k - 0) ((toZ (ordL (onI xs) (List.range k))).drop 0)) := by
            have := (ho3.sl e1_len).dropc (q := 0)
            rwa [show 0 + 0 * 1 = 0 by omega] at this
          have HLEN : Hid (((toZ (ordL (onI xs) (List.range k))).take 0).length = 0) := by rw [Hid, List.length_take, toZ_len, ordI_len]; omega
          generalize hl1 : (toZ (ordL (onI xs) (List.range k))).take 0 = l1 at ho4 HLEN
          generalize hl2 : (toZ (ordL (onI xs) (List.range k))).drop 0 = l2 at HSD
          have HL12 : Hid (toZ (ordL (onI xs) (List.range (k + 1))) = l1 ++ [(k : Int)] ++ l2) := by rw [Hid, toZ_ins _ _ _ HQ.out, hl1, hl2]
          have HLEN2 : Hid (l2.length = k - 0) := HSD.out.1
          clear hl1 hl2
          go_wp2_with (at_builtin; first | (refine wpList_app1x rfl (.tmp 40) (.tmp 42) 24 2 rfl w3.heap.size i0 _ 1 8 Try.underlying24 hi0 hz0 hz1 hz2 rfl (by decide) e1 e1_len e1_one (.slice A4 0 c4) l1 rfl (ho4.alloc _) (k : Int) _ _ rfl (newcell _ _ _ _ rfl) (by rw [HLEN.out]; omega) (by rw [HLEN.out]; unfold maxLen; omega) (Nat.le_trans hb4.size (below_alloc _ _).size) ?_; intro v7 w7 ho7 hb7 _ _; have hb37 := (hb4.alloc hb4.size _).trans hb7; have HS7 := Lib.hid (HSD.out.below hb37); obtain ⟨A7, c7, hv7, _, _, hu7⟩ := ho7.val; clear hu7; rw [show (l1 ++ [(k : Int)]).length = 0 + 1 by rw [List.length_append, HLEN.out]; rfl] at hv7; subst hv7) | (refine wpList_appS rfl (.tmp 44) (.tmp 47) 24 2 rfl w3.heap.size i0 _ 1 8 Try.underlying24 hi0 hz0 hz1 hz2 rfl (by decide) e1 e1_len e1_one (.slice A7 (0 + 1) c7) (l1 ++ [(k : Int)]) rfl ho7 _ _ _ l2 rfl (fun e => by cases e) HS7.out (by rw [List.length_append, HLEN.out, List.length_singleton]; omega) (by rw [List.length_append, HLEN.out, List.length_singleton]; unfold maxLen; omega) hb37.size ?_; intro v9 w9 ho9 hb9 _ hn9) | (refine wpList_appS rfl (.tmp 44) (.tmp 47) 24 2 rfl w3.heap.size i0 _ 1 8 Try.underlying24 hi0 hz0 hz1 hz2 rfl (by decide) e1 e1_len e1_one (.slice A7 (0 + 1) c7) (l1 ++ [(k : Int)]) rfl ho7 _ _ _ l2 rfl (fun e => by split at e <;> cases e) (by split <;> first | exact HS7.out | exact Sl.nilc HLEN2.out (by omega)) (by rw [List.length_append, HLEN.out, List.length_singleton]; omega) (by rw [List.length_append, HLEN.out, List.length_singleton]; unfold maxLen; omega) hb37.size ?_; intro v9 w9 ho9 hb9 _ hn9))
          have HN9 : Hid (v9 ≠ .slice none 0 0) := fun e => by have := (hn9.1 e).1; injection this with _ h _; omega
          have ho9' : Own w9 w.heap.size 2 1 e1 v9 (toZ (ordL (onI xs) (List.range (k + 1)))) := by rw [HL12.out]; exact ho9.mono hb3.size
          have hb9' : Below w.heap.size w w9 := hb3.trans ((hb37.trans hb9).mono hb3.size)
          clear hn9 ho9 hb9 hb37 ho7 hb7 ho4 hb4 ho3
          go_roundw
          case rel => exact ⟨k + 1, by omega, by go_num, HN9, ho9', hb9'⟩
          case measure => simp [intOf]; omega
        · obtain ⟨q', rfl⟩ : ∃ q', q = q' + 1 := ⟨q - 1, by omega⟩
          have gq : decide ((0 : Int) < ((q' + 1 : Nat) : Int)) = true := decide_eq_true (by omega)
          obtain ⟨y, hy⟩ : ∃ y, (ordL (onI xs) (List.range k))[q']? = some y := ⟨_, List.getElem?_eq_getElem (by rw [ordI_len]; omega)⟩
          have hyk : y < k := ordI_lt _ hy
          have r1 : IntKind.i64.wrap (((q' + 1 : Nat) : Int) - 1) = (q' : Int) := by rw [show ((q' + 1 : Nat) : Int) - 1 = (q' : Int) by omega]; exact wr64 (by omega)
          have d5 := (hox.sl e1_len).get1 (toZ_at hy)
          simp only [Nat.zero_add] at d5
          obtain ⟨z, hz⟩ : ∃ z, xs[y]? = some z := ⟨_, List.getElem?_eq_getElem (by rw [h.1]; omega)⟩
          have HON2 : Hid (onI xs y = z.1) := onI_get hz
          obtain ⟨d0, _, _⟩ := (h.below hbx).get3 hz
          obtain ⟨d1, _, _⟩ := (h.below hbx).get3 HX.out
          have HY := Lib.hid hy
          have g5 : (0 : Int) ≤ (q' : Int) := by omega
          have g6 : (q' : Int) < (k : Int) := by omega
          have g7 : (0 : Int) ≤ (y : Int) := by omega
          have g8 : (y : Int) < (n : Int) := by omega
          clear hy hz
          cases hg : decide (x.1 < z.1)
          · have HQ : Hid (insPos (onI xs) (ordL (onI xs) (List.range k)) (onI xs k) k = q' + 1) := by rw [Hid, HP.out, insPos_stop HY.out (by rw [HON.out, HON2.out]; simpa using hg)]
            go_wp2_with fail
            go_quiet (fail)
            generalize hW : wr.drewN nq = w3
            have ho3 : Own w3 w.heap.size 2 1 e1 (.slice (some ⟨g3, 0, none⟩) k c3) (toZ (ordL (onI xs) (List.range k))) := by rw [← hW]; exact hox.drewN _
            have hb3 : Below w.heap.size w w3 := by rw [← hW]; exact below_drewN hbx _
            have HG3 := Lib.hid ho3.blt
            clear hW hox hbx
            go_wp2_with fail
            refine (l00Own_any (some ⟨g3, 0, none⟩) (q' + 1) c3 _ _ ((ho3.sl e1_len).take (by omega)) (fun e => by cases e) (by omega)).mono ?_
            rintro e w4 ⟨A4, n4, c4, rfl, ho4, hb4⟩
            obtain rfl : n4 = (q' + 1) := by rw [← (ho4.sl e1_len).1, List.length_take, toZ_len, ordI_len]; omega
            have HSD : Hid (Sl w3 1 e1 (some ⟨g3, (q' + 1), none⟩) (k - (q' + 1)) ((toZ (ordL (onI xs) (List.range k))).drop (q' + 1))) := by
              have := (ho3.sl e1_len).dropc (q := (q' + 1))
              rwa [show 0 + (q' + 1) * 1 = (q' + 1) by omega] at this
            have HLEN : Hid (((toZ (ordL (onI xs) (List.range k))).take (q' + 1)).length = (q' + 1)) := by rw [Hid, List.length_take, toZ_len, ordI_len]; omega
            generalize hl1 : (toZ (ordL (onI xs) (List.range k))).take (q' + 1) = l1 at ho4 HLEN
            generalize hl2 : (toZ (ordL (onI xs) (List.range k))).drop (q' + 1) = l2 at HSD
            have HL12 : Hid (toZ (ordL (onI xs) (List.range (k + 1))) = l1 ++ [(k : Int)] ++ l2) := by rw [Hid, toZ_ins _ _ _ HQ.out, hl1, hl2]
            have HLEN2 : Hid (l2.length = k - (q' + 1)) := HSD.out.1
            clear hl1 hl2
            go_wp2_with (at_builtin; first | (refine wpList_app1x rfl (.tmp 40) (.tmp 42) 24 2 rfl w3.heap.size i0 _ 1 8 Try.underlying24 hi0 hz0 hz1 hz2 rfl (by decide) e1 e1_len e1_one (.slice A4 (q' + 1) c4) l1 rfl (ho4.alloc _) (k : Int) _ _ rfl (newcell _ _ _ _ rfl) (by rw [HLEN.out]; omega) (by rw [HLEN.out]; unfold maxLen; omega) (Nat.le_trans hb4.size (below_alloc _ _).size) ?_; intro v7 w7 ho7 hb7 _ _; have hb37 := (hb4.alloc hb4.size _).trans hb7; have HS7 := Lib.hid (HSD.out.below hb37); obtain ⟨A7, c7, hv7, _, _, hu7⟩ := ho7.val; clear hu7; rw [show (l1 ++ [(k : Int)]).length = (q' + 1) + 1 by rw [List.length_append, HLEN.out]; rfl] at hv7; subst hv7) | (refine wpList_appS rfl (.tmp 44) (.tmp 47) 24 2 rfl w3.heap.size i0 _ 1 8 Try.underlying24 hi0 hz0 hz1 hz2 rfl (by decide) e1 e1_len e1_one (.slice A7 ((q' + 1) + 1) c7) (l1 ++ [(k : Int)]) rfl ho7 _ _ _ l2 rfl (fun e => by cases e) HS7.out (by rw [List.length_append, HLEN.out, List.length_singleton]; omega) (by rw [List.length_append, HLEN.out, List.length_singleton]; unfold maxLen; omega) hb37.size ?_; intro v9 w9 ho9 hb9 _ hn9) | (refine wpList_appS rfl (.tmp 44) (.tmp 47) 24 2 rfl w3.heap.size i0 _ 1 8 Try.underlying24 hi0 hz0 hz1 hz2 rfl (by decide) e1 e1_len e1_one (.slice A7 ((q' + 1) + 1) c7) (l1 ++ [(k : Int)]) rfl ho7 _ _ _ l2 rfl (fun e => by split at e <;> cases e) (by split <;> first | exact HS7.out | exact Sl.nilc HLEN2.out (by omega)) (by rw [List.length_append, HLEN.out, List.length_singleton]; omega) (by rw [List.length_append, HLEN.out, List.length_singleton]; unfold maxLen; omega) hb37.size ?_; intro v9 w9 ho9 hb9 _ hn9))
            have HN9 : Hid (v9 ≠ .slice none 0 0) := fun e => by have := (hn9.1 e).1; injection this with _ h _; omega
            have ho9' : Own w9 w.heap.size 2 1 e1 v9 (toZ (ordL (onI xs) (List.range (k + 1)))) := by rw [HL12.out]; exact ho9.mono hb3.size
            have hb9' : Below w.heap.size w w9 := hb3.trans ((hb37.trans hb9).mono hb3.size)
            clear hn9 ho9 hb9 hb37 ho7 hb7 ho4 hb4 ho3
            go_roundw
            case rel => exact ⟨k + 1, by omega, by go_num, HN9, ho9', hb9'⟩
            case measure => simp [intOf]; omega
          · have HQ : Hid (insPos (onI xs) (ordL (onI xs) (List.range k)) (onI xs k) k = insPos (onI xs) (ordL (onI xs) (List.range k)) (onI xs k) q') := by rw [Hid, HP.out, insPos_go HY.out (by rw [HON.out, HON2.out]; simpa using hg)]
            go_wp2_with fail
            go_quiet (fail)
            generalize hW : wr.drewN nq = w3
            have ho3 : Own w3 w.heap.size 2 1 e1 (.slice (some ⟨g3, 0, none⟩) k c3) (toZ (ordL (onI xs) (List.range k))) := by rw [← hW]; exact hox.drewN _
            have hb3 : Below w.heap.size w w3 := by rw [← hW]; exact below_drewN hbx _
            clear hW hox hbx d0 d1 d5
            have r2 : IntKind.i64.wrap (((q' + 1 : Nat) : Int) - 1) = (q' : Int) := r1
            go_wp2_with fail
            go_roundw
            case rel => exact ⟨q', by omega, by go_num, HQ.out, ho3, hb3⟩
            case measure => simp [intOf]
    · obtain rfl : k = n := by omega
      go_wp2_with fail
      go_ret
      exact RetOwn.mk ho hb

end Go.Proofs.Ytcfbnlkkoifiiaa
