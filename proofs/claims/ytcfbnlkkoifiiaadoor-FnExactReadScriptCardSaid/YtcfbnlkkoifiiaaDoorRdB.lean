/-
  ReadScript of the program.
-/
import Derived.Test.YtcfbnlkkoifiiaaDoorRdA
import Derived.Test.YtcfbnlkkoifiiaaDoorRwA
import Derived.Test.YtcfbnlkkoifiiaaDoorBRmk
namespace Go.Proofs.YtcfbnlkkoifiiaaDoor
set_option maxRecDepth 100000
open Go.RowKit

theorem own_away {base : Nat} {α : Type} {enc : α → List Value} {w : World} {T : TypeId} {k n c : Nat} {A : Option Addr} {xs : List α} (h : Own w base T k enc (.slice A n c) xs) (p : Addr) (hne : ∀ a, A = some a → a.block ≠ p.block) (u : Value) : Own (w.setCell p u) base T k enc (.slice A n c) xs :=
  h.grown (only_setCell (World.grownBy.refl w (some p.block)) (.inl rfl) u) (by
    cases A with
    | none => exact .inl rfl
    | some a => exact .inr (by simp [Value.ownBlock]; exact hne a rfl))
set_option maxHeartbeats 6400000 in
theorem implReadScript_any (s : ByteArray) (w : World) (hs : s.size ≤ 1048576) (hM : Mx w) (hT : Tab w) (hS : Sent w) :
    Calls Tryd.prog 5 #[.string s] w fun e w' => RetRd (rdAll s) (rdCode s) w e w' := by
  obtain ⟨i0, hi0, hz0, hz1, hz2⟩ := info_parts infoRemark
  by_cases h3 : s.size ≤ 3000
  · have hsz : (((w.alloc (.cells #[.slice none 0 0, .slice none 0 0] 25)).alloc (.cells #[] 39)).alloc (.cells #[.slice none 0 0, .slice none 0 0] 25)).heap.size = w.heap.size + 3 := by simp
    have g0 : (((w.alloc (.cells #[.slice none 0 0, .slice none 0 0] 25)).alloc (.cells #[] 39)).alloc (.cells #[.slice none 0 0, .slice none 0 0] 25)).cell? ⟨w.heap.size, 0, none⟩ = some (.slice none 0 0) := by simp [go_sem]
    have g1 : (((w.alloc (.cells #[.slice none 0 0, .slice none 0 0] 25)).alloc (.cells #[] 39)).alloc (.cells #[.slice none 0 0, .slice none 0 0] 25)).cell? ⟨w.heap.size, 1, none⟩ = some (.slice none 0 0) := by simp [go_sem]
    have q0 : (((w.alloc (.cells #[.slice none 0 0, .slice none 0 0] 25)).alloc (.cells #[] 39)).alloc (.cells #[.slice none 0 0, .slice none 0 0] 25)).frozen? ⟨w.heap.size, 0, none⟩ = false := by simp [go_sem]
    have q1 : (((w.alloc (.cells #[.slice none 0 0, .slice none 0 0] 25)).alloc (.cells #[] 39)).alloc (.cells #[.slice none 0 0, .slice none 0 0] 25)).frozen? ⟨w.heap.size, 1, none⟩ = false := by simp [go_sem]
    have x0 : (((w.alloc (.cells #[.slice none 0 0, .slice none 0 0] 25)).alloc (.cells #[] 39)).alloc (.cells #[.slice none 0 0, .slice none 0 0] 25)).cell? ⟨w.heap.size + 1 + 1, 0, none⟩ = some (.slice none 0 0) := by simp [go_sem]
    have x1 : (((w.alloc (.cells #[.slice none 0 0, .slice none 0 0] 25)).alloc (.cells #[] 39)).alloc (.cells #[.slice none 0 0, .slice none 0 0] 25)).cell? ⟨w.heap.size + 1 + 1, 1, none⟩ = some (.slice none 0 0) := by simp [go_sem]
    have f0 : (((w.alloc (.cells #[.slice none 0 0, .slice none 0 0] 25)).alloc (.cells #[] 39)).alloc (.cells #[.slice none 0 0, .slice none 0 0] 25)).frozen? ⟨w.heap.size + 1 + 1, 0, none⟩ = false := by simp [go_sem]
    have f1 : (((w.alloc (.cells #[.slice none 0 0, .slice none 0 0] 25)).alloc (.cells #[] 39)).alloc (.cells #[.slice none 0 0, .slice none 0 0] 25)).frozen? ⟨w.heap.size + 1 + 1, 1, none⟩ = false := by simp [go_sem]
    have hoR : Own (((w.alloc (.cells #[.slice none 0 0, .slice none 0 0] 25)).alloc (.cells #[] 39)).alloc (.cells #[.slice none 0 0, .slice none 0 0] 25)) (w.heap.size + 1) 39 2 e2 (.slice (some ⟨w.heap.size + 1, 0, none⟩) 0 0) ([] : List (Int × Int)) := by
      have h1 := Own.lit (enc := e2) (k := 2) (w.alloc (.cells #[.slice none 0 0, .slice none 0 0] 25)) #[] 39 [] 0 (base := w.heap.size + 1) (by simp) rfl (by unfold maxLen; omega) e2_len rfl
      rw [show (w.alloc (.cells #[.slice none 0 0, .slice none 0 0] 25)).heap.size = w.heap.size + 1 from by simp] at h1
      exact h1.alloc _
    have hW : Below w.heap.size w (((w.alloc (.cells #[.slice none 0 0, .slice none 0 0] 25)).alloc (.cells #[] 39)).alloc (.cells #[.slice none 0 0, .slice none 0 0] 25)) := ((below_alloc w _).alloc (by simp) _).alloc (by simp <;> omega) _
    go_enter Tryd.func5, Tryd.ntmps5
    go_wp2_with fail
    generalize (((w.alloc (.cells #[.slice none 0 0, .slice none 0 0] 25)).alloc (.cells #[] 39)).alloc (.cells #[.slice none 0 0, .slice none 0 0] 25)) = w0 at hsz g0 g1 q0 q1 x0 x1 f0 f1 hoR hW ⊢
    refine (Split_any 10 s _ (by omega) (hM.below hW)).mono ?_
    rintro e w3 ⟨A, n, c, rfl, hSp, hb3⟩
    have hpos := splitS_pos 10 s
    have hlen := splitS_len 10 s
    obtain ⟨rows, hrows⟩ : ∃ rows, Hid (rows = splitS 10 s) := ⟨_, Lib.hid rfl⟩
    have HROWS := hrows
    rw [← hrows.out] at hSp hpos hlen
    clear hrows
    have hnl : rows.length = n := (hSp.sl eS_len).1
    have HLEN := Lib.hid hnl
    have hnn : n ≤ 3001 := by omega
    have hb03 := below_step hW hb3
    have hs3 : w.heap.size + 1 ≤ w3.heap.size := by have := hb3.size; omega
    have G0 := Lib.hid ((hb3.cell (p := ⟨w.heap.size, 0, none⟩) (by show w.heap.size < _; omega)).trans g0)
    have G1 := Lib.hid ((hb3.cell (p := ⟨w.heap.size, 1, none⟩) (by show w.heap.size < _; omega)).trans g1)
    have Q0 := Lib.hid ((hb3.frozen (p := ⟨w.heap.size, 0, none⟩) (by show w.heap.size < _; omega)).trans q0)
    have Q1 := Lib.hid ((hb3.frozen (p := ⟨w.heap.size, 1, none⟩) (by show w.heap.size < _; omega)).trans q1)
    have HBX0 : Hid (BX ⟨.slice (some ⟨w.heap.size + 1, 0, none⟩) 0 0, (rdK rows 0).2.2, A, n, rows⟩ w3 (w.heap.size + 1) (w.heap.size + 1 + 1) (rdK rows 0).1 (rdK rows 0).2.1) :=
      ⟨none, 0, none, 0, ⟨Nat.le_succ _, (hb3.cell (p := ⟨w.heap.size + 1 + 1, 0, none⟩) (by show w.heap.size + 1 + 1 < _; omega)).trans x0, (hb3.cell (p := ⟨w.heap.size + 1 + 1, 1, none⟩) (by show w.heap.size + 1 + 1 < _; omega)).trans x1, (hb3.frozen (p := ⟨w.heap.size + 1 + 1, 0, none⟩) (by show w.heap.size + 1 + 1 < _; omega)).trans f0, (hb3.frozen (p := ⟨w.heap.size + 1 + 1, 1, none⟩) (by show w.heap.size + 1 + 1 < _; omega)).trans f1, Own.none_, Own.none_, (fun a h => by cases h), (fun a h => by cases h), (fun a b h => by cases h), hoR.below hb3,
        (fun e => by have h1 : w.heap.size + 1 = w.heap.size + 1 + 1 := Option.some.inj e; omega), (fun a h => by cases h), (fun a h => by cases h), hSp.sl eS_len, (by show 0 < n; omega), (fun r hr e => by have := (hSp.lt r.block (by rw [show A = some r from hr]; rfl)).1; omega), (fun a r h => by cases h), (fun a r h => by cases h), (fun r hr e => by
          have h1 : w.heap.size + 1 = r.block := Option.some.inj e
          have := (hSp.lt r.block (by rw [show A = some r from hr]; rfl)).1
          omega)⟩⟩
    obtain ⟨sb, hsb⟩ : ∃ sb, sb = w.heap.size + 1 + 1 := ⟨_, rfl⟩
    rw [← hsb] at HBX0 ⊢
    clear hsb g0 g1 q0 q1 x0 x1 f0 f1 hoR hSp hnl hpos
    go_wp2_with fail
    go_loopw [6, 19] (fun v6 vk wr => ∃ (k : Nat) (rv : Value), k ≤ n ∧ v6 = rv ∧ vk = .int .i64 k ∧ BX ⟨rv, (rdK rows k).2.2, A, n, rows⟩ wr (w.heap.size + 1) sb (rdK rows k).1 (rdK rows k).2.1 ∧ Below (w.heap.size + 1) w3 wr) (fun v6 vk _ => n - (intOf vk).toNat)
    case atStart => exact ⟨0, _, by omega, rfl, rfl, HBX0.out, Below.refl _ _⟩
    case round =>
      obtain ⟨k, rv, hk, rfl, rfl, hB, hbr⟩ := hrel
      obtain ⟨l1, l2, l3⟩ := rdK_len rows k
      by_cases hlt : k < n
      · have HB0 := Lib.hid hB
        have hwk : IntKind.i64.wrap ((k : Int) + 1) = (k : Int) + 1 := wr64 (by omega)
        obtain ⟨A1, c1, B1, d1, hbx⟩ := hB
        obtain ⟨b, off, x, hA, hx, hxm, d0⟩ := hbx.o4.atS hlt
        subst hA
        obtain ⟨R, cr, hrv, _, _, _⟩ := hbx.o3.val
        dsimp only at hrv
        subst hrv
        have hstep := rdK_step hx
        have hxs : x.size ≤ s.size := by rw [HROWS.out] at hxm; exact splitS_size hxm
        have hbw : Below w.heap.size w wr := hb03.trans (hbr.mono (Nat.le_succ _))
        clear hbx hx
        generalize rdK rows k = st at hstep l1 l2 l3 HB0 ⊢
        obtain ⟨ss, xs, rs⟩ := st
        have HST := Lib.hid hstep
        clear hstep
        go_wp2_with fail
        refine (addRow_any _ (w.heap.size + 1) sb ss xs x _ HB0.out l1 l2 (by omega) (hM.below hbw) (hT.below hbw) (hS.below hbw)).mono ?_
        rintro e w4 ⟨rfl, hB4, hb4⟩
        have hrd : Hid (rdStep (ss, xs, rs) k x = ((rowF ss xs (wordsS x)).1, (rowF ss xs (wordsS x)).2.1, if (rowF ss xs (wordsS x)).2.2 ≠ 0 ∧ rs.length < 20 then rs ++ [((k : Int) + 1, (rowF ss xs (wordsS x)).2.2)] else rs)) := rfl
        generalize rowF ss xs (wordsS x) = r at hB4 hrd ⊢
        obtain ⟨ss', xs', kd⟩ := r
        have hb34 := hbr.trans hb4
        have HB4 := Lib.hid hB4
        clear hB4 HB0 hbw d0
        by_cases hkd : kd = 0
        · have HN : Hid (rdK rows (k + 1) = (ss', xs', rs)) := by rw [Hid, HST.out, hrd.out, if_neg (fun e => e.1 hkd)]
          have hk2 : (kd == 0) = true := by rw [hkd]; rfl
          have hk3 : (kd != 0) = false := by rw [hkd]; rfl
          clear hkd
          go_wp2_with fail
          go_roundw
          case rel => exact ⟨k + 1, _, by omega, rfl, by go_num, by rw [HN.out]; exact HB4.out, hb34⟩
          case measure => simp [intOf]; omega
        · have hk2 : (kd == 0) = false := by rw [beq_eq_false_iff_ne]; exact hkd
          have hk3 : (kd != 0) = true := by rw [bne, hk2]; rfl
          by_cases h20 : rs.length < 20
          · have HN : Hid (rdK rows (k + 1) = (ss', xs', rs ++ [((k : Int) + 1, kd)])) := by rw [Hid, HST.out, hrd.out, if_pos ⟨hkd, h20⟩]
            have gq : decide ((rs.length : Int) < 20) = true := decide_eq_true (by omega)
            have gqN : decide (rs.length < 20) = true := decide_eq_true h20
            clear hkd
            have hsz4 : w.heap.size + 1 ≤ w4.heap.size := Nat.le_trans hs3 hb34.size
            obtain ⟨A2, c2, B2, d2, hbx4⟩ := HB4.out
            have ho4 := Lib.hid hbx4.o3
            clear hbx4
            go_wp2_with (at_builtin; refine wpList_app1x rfl (.tmp 33) (.tmp 38) 26 39 rfl (w.heap.size + 1) i0 _ 2 16 Tryd.underlying26 hi0 hz0 hz1 hz2 rfl (by decide) e2 e2_len e2_one (.slice R rs.length cr) rs rfl (ho4.out.alloc _) ((k : Int) + 1, kd) _ _ rfl (newcell _ _ _ _ rfl) (by omega) (by unfold maxLen; omega) (Nat.le_trans hsz4 (below_alloc _ _).size) ?_; intro v9 w9 ho9 hb9 hg9 hv9)
            have HB9 := (HB4.out.below (below_alloc w4 (.cells #[.int .i64 ((k : Int) + 1), .int .i64 kd] 39))).pass ho9 hg9 hv9
            have hb39 := (hb34.trans (below_al hsz4 _)).trans hb9
            clear ho9 hg9 hv9 hb9
            go_roundw
            case rel => exact ⟨k + 1, _, by omega, rfl, by go_num, by rw [HN.out]; exact HB9, hb39⟩
            case measure => simp [intOf]; omega
          · have HN : Hid (rdK rows (k + 1) = (ss', xs', rs)) := by rw [Hid, HST.out, hrd.out, if_neg (fun e => h20 e.2)]
            have gq : decide ((rs.length : Int) < 20) = false := decide_eq_false (by omega)
            have gqN : decide (rs.length < 20) = false := decide_eq_false h20
            clear hkd
            go_wp2_with fail
            go_roundw
            case rel => exact ⟨k + 1, _, by omega, rfl, by go_num, by rw [HN.out]; exact HB4.out, hb34⟩
            case measure => simp [intOf]; omega
      · obtain rfl : k = n := by omega
        have HA : Hid (rdAll s = rdK rows k) := by rw [Hid, rdAll, if_pos h3, ← HROWS.out, HLEN.out]
        have HC : Hid (rdCode s = 0) := by rw [Hid, rdCode, if_pos h3]
        generalize rdK rows k = st at hB l1 l2 l3 HA ⊢
        obtain ⟨ss, xs, rs⟩ := st
        obtain ⟨A1, c1, B1, d1, hbx⟩ := hB
        obtain ⟨R, cr, hrv, _, _, _⟩ := hbx.o3.val
        dsimp only at hrv
        subst hrv
        have b0 := hbx.c0
        have b1 := hbx.c1
        have g0 := (hbr.cell (p := ⟨w.heap.size, 0, none⟩) (Nat.lt_succ_self _)).trans G0.out
        have g1 := (hbr.cell (p := ⟨w.heap.size, 1, none⟩) (Nat.lt_succ_self _)).trans G1.out
        have q0 := (hbr.frozen (p := ⟨w.heap.size, 0, none⟩) (Nat.lt_succ_self _)).trans Q0.out
        have q1 := (hbr.frozen (p := ⟨w.heap.size, 1, none⟩) (Nat.lt_succ_self _)).trans Q1.out
        have HX := Lib.hid hbx
        clear hbx
        go_wp2_with fail
        have y1 : (wr.setCell ⟨w.heap.size, 0, none⟩ (.slice A1 ss.length c1)).cell? ⟨w.heap.size, 1, none⟩ = some (.slice none 0 0) := (World.cell?_setCell_other _ _ _ _ (by simp)).trans g1
        have z0 : ((wr.setCell ⟨w.heap.size, 0, none⟩ (.slice A1 ss.length c1)).setCell ⟨w.heap.size, 1, none⟩ (.slice B1 xs.length d1)).cell? ⟨w.heap.size, 0, none⟩ = some (.slice A1 ss.length c1) := (World.cell?_setCell_other _ _ _ _ (by simp)).trans (World.cell?_setCell_same _ _ _ g0)
        have z1 : ((wr.setCell ⟨w.heap.size, 0, none⟩ (.slice A1 ss.length c1)).setCell ⟨w.heap.size, 1, none⟩ (.slice B1 xs.length d1)).cell? ⟨w.heap.size, 1, none⟩ = some (.slice B1 xs.length d1) := World.cell?_setCell_same _ _ _ y1
        have hbx := HX.out
        have lA : ∀ a, A1 = some a → a.block ≠ w.heap.size := fun a ha => by have := (hbx.o1.lt a.block (by rw [ha]; rfl)).1; omega
        have lB : ∀ a, B1 = some a → a.block ≠ w.heap.size := fun a ha => by have := (hbx.o2.lt a.block (by rw [ha]; rfl)).1; omega
        have lR : ∀ a, R = some a → a.block ≠ w.heap.size := fun a ha => by have := (hbx.o3.lt a.block (by show (Value.slice R rs.length cr).ownBlock = _; rw [ha]; rfl)).1; omega
        have hbw : Below w.heap.size w ((wr.setCell ⟨w.heap.size, 0, none⟩ (.slice A1 ss.length c1)).setCell ⟨w.heap.size, 1, none⟩ (.slice B1 xs.length d1)) := ((hb03.trans (hbr.mono (Nat.le_succ _))).setCell (Nat.le_refl _) _).setCell (Nat.le_refl _) _
        exact bodyPost_ret (v := .tuple #[.agg #[.slice A1 ss.length c1, .slice B1 xs.length d1], .slice R rs.length cr, .int .i64 0]) (by simp [results, Tryd.results5, go_sem, z0, z1]) rfl (by
          rw [HA.out, HC.out]
          exact ⟨A1, c1, B1, d1, R, cr, rfl, (own_away (own_away hbx.o1 _ lA _) _ lA _).mono (Nat.le_succ _), (own_away (own_away hbx.o2 _ lB _) _ lB _).mono (Nat.le_succ _), (own_away (own_away (show Own wr (w.heap.size + 1) 39 2 e2 (.slice R rs.length cr) rs from hbx.o3) _ lR _) _ lR _).mono (Nat.le_succ _), hbx.n3, (fun a r ha hr e => hbx.n5 a ha (by show (Value.slice R rs.length cr).ownBlock = _; rw [hr, ← e]; rfl)), (fun a r ha hr e => hbx.n6 a ha (by show (Value.slice R rs.length cr).ownBlock = _; rw [hr, ← e]; rfl)), hbw⟩)
  · go_enter Tryd.func5, Tryd.ntmps5
    have HA : Hid (rdAll s = ([], [], [])) := by rw [Hid, rdAll, if_neg h3]
    have HC : Hid (rdCode s = 2) := by rw [Hid, rdCode, if_neg h3]
    go_wp2_with fail
    exact bodyPost_ret (v := .tuple #[.agg #[.slice none 0 0, .slice none 0 0], .slice none 0 0, .int .i64 2]) (by simp [results, Tryd.results5, go_sem]) rfl (by rw [HA.out, HC.out]; exact ⟨none, 0, none, 0, none, 0, rfl, Own.none_, Own.none_, Own.none_, (fun a b h => by cases h), (fun a b h => by cases h), (fun a b h => by cases h), below_alloc _ _⟩)
end Go.Proofs.YtcfbnlkkoifiiaaDoor
