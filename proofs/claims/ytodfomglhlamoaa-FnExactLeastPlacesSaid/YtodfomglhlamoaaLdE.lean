/-
  Contracts of the functions on showings: the best plan (the reference).
-/
import Derived.Test.YtodfomglhlamoaaLdD
import Derived.Test.YtodfomglhlamoaaLm
namespace Go.Proofs.Ytodfomglhlamoaa
open Go.RowKit

theorem byte_z (y : UInt8) : (((y.toNat : Nat) : Int) != 0) = !(y == 0) := by
  have := byte_ne y 0
  simpa using this
def fiI (m : List UInt8) (c : UInt8) : Int := if findB m c < m.length then (findB m c : Int) else -1
theorem Index_any (A : Option Addr) (n cp : Nat) (m : List UInt8) (c : UInt8) (w : World) (h : Sl w 1 eB A n m) (hn : n ≤ 1048577) :
    Calls Try.prog 54 #[.slice A n cp, .int .u8 (c.toNat : Int)] w fun e w' => e = .returned (.int .i64 (fiI m c)) ∧ w = w' := by
  have hl := h.1
  have HL := Lib.hid hl
  go_enter Try.func54, Try.ntmps54
  go_wp2
  go_loop [8] (fun i => ∃ k : Nat, k ≤ n ∧ i = .int .i64 k ∧ Hid (∀ j, j < k → ∀ x, m[j]? = some x → x ≠ c)) (fun i => n - (intOf i).toNat)
  case atStart => exact ⟨0, by omega, rfl, by intro j hj; omega⟩
  case round =>
    obtain ⟨k, hk, rfl, he⟩ := hrel
    by_cases hlt : k < n
    · obtain ⟨b, off, x, rfl, hx, hm, c0⟩ := h.atB hlt
      cases q : (c == x)
      · have q2 : (((c.toNat : Nat) : Int) == ((x.toNat : Nat) : Int)) = false := by rw [byte_eq, q]
        have HS : Hid (∀ j, j < k + 1 → ∀ y, m[j]? = some y → y ≠ c) := by
          intro j hj y hy
          by_cases h1 : j < k
          · exact he.out j h1 y hy
          · have : j = k := by omega
            subst this
            rw [hx] at hy; injection hy with hy; subst hy
            intro h2; subst h2; simp at q
        go_wp2_with fail
        go_round
        case rel => exact ⟨k + 1, by omega, by go_num, HS⟩
        case measure => simp [intOf]; omega
      · have q2 : (((c.toNat : Nat) : Int) == ((x.toNat : Nat) : Int)) = true := by rw [byte_eq, q]
        have HR : Hid (fiI m c = k) := by
          have h1 := beq_iff_eq.1 q; subst h1
          have h2 := findB_first hx he.out
          rw [Hid, fiI, if_pos (by rw [h2]; omega), h2]
        go_wp2_with fail
        go_ret
        exact ⟨ret_int HR.out.symm, rfl⟩
    · have : k = n := by omega
      subst this
      have HR : Hid (fiI m c = -1) := by
        rw [Hid, fiI, if_neg]
        intro h1
        exact he.out _ (by have := HL.out; omega) c (findB_lt h1) rfl
      go_wp2_with fail
      go_ret
      exact ⟨ret_int HR.out.symm, rfl⟩
theorem fiI_yes {m : List UInt8} {c : UInt8} (h : findB m c < m.length) : fiI m c = findB m c := by rw [fiI, if_pos h]
theorem fiI_no {m : List UInt8} {c : UInt8} (h : ¬ findB m c < m.length) : fiI m c = -1 := by rw [fiI, if_neg h]

set_option maxHeartbeats 800000 in
theorem l20Best_any (s : ByteArray) (P : Nat) (w : World) (hs : s.size ≤ 40) (hok : ldOk s.data.toList = true) (hP1 : 1 ≤ P) (hP : P ≤ 6) :
    Calls Try.prog 48 #[.string s, .int .i64 P] w (RetOwn 2 1 e1 (bsPlan s.data.toList P) w) := by
  obtain ⟨i0, hi0, hz0, hz1, hz2⟩ := info_parts infoU8
  obtain ⟨i1, hi1, hy0, hy1, hy2⟩ := info_parts infoI64
  have HNZ := Lib.hid (ldOk_nz hok)
  have HPL : Hid (bsPlan s.data.toList P = (bsK s.data.toList P s.size).2) := by rw [Hid, bsPlan, lenB]
  have ap7 : ∀ {W : World} (v : Value) {xs : List Int}, Own W (w.heap.size + 1) 2 1 e1 v xs → v.ownBlock = none ∨ v.ownBlock ≠ some w.heap.size := by
    intro W v xs ho
    cases hv : v.ownBlock with
    | none => exact .inl rfl
    | some g => exact .inr (by intro h; injection h with h; have := (ho.lt g hv).1; omega)
  have ap9 : ∀ {W : World} (v : Value) {xs : List Int}, Own W (w.heap.size + 1) 2 1 e1 v xs → (Value.slice (some ⟨w.heap.size, 0, none⟩) P P).ownBlock = none ∨ (Value.slice (some ⟨w.heap.size, 0, none⟩) P P).ownBlock ≠ v.ownBlock := by
    intro W v xs ho
    refine .inr fun h => ?_
    have := (ho.lt w.heap.size h.symm).1
    omega
  clear hok
  go_enter Try.func48, Try.ntmps48
  go_wp2_with (with_reducible refine wpList_make_full _ rfl (.tmp 13) (.tmp 13) 45 rfl w.heap.size 5 i0 _ 1 Try.underlying45 hi0 hz0 hz1 .i64 .i64 P P P rfl rfl rfl rfl (by rw [hz2]; omega) (by unfold maxLen; omega) (Nat.le_refl _) ?_; intro w1 hown1 hg1)
  have hm1 : Own w1 w.heap.size 5 1 eB (.slice (some ⟨w.heap.size, 0, none⟩) P P) (bsK s.data.toList P 0).1 :=
    Own.of_row hown1 (by simp [bsK]) (madeK eB_len (by omega) (0 : UInt8) P)
  have hb1 : Below w.heap.size w w1 := (Below.refl _ _).grown hg1 (Nat.le_refl _) (by simp)
  have hlt1 := hm1.blt.2
  have ho1 : Own (w1.alloc (.cells #[] 2)) (w.heap.size + 1) 2 1 e1 (.slice (some ⟨w1.heap.size, 0, none⟩) 0 0) (bsK s.data.toList P 0).2 := Own.lit w1 _ _ [] 0 hlt1 rfl (by simp [maxLen]) e1_len rfl
  go_loopw [6, 7] (fun v i wr => ∃ k : Nat, k ≤ s.size ∧ i = .int .i64 k ∧ Own wr w.heap.size 5 1 eB (.slice (some ⟨w.heap.size, 0, none⟩) P P) (bsK s.data.toList P k).1 ∧ Own wr (w.heap.size + 1) 2 1 e1 v (bsK s.data.toList P k).2 ∧ Below w.heap.size w wr) (fun _ i _ => s.size - (intOf i).toNat)
  case atStart => exact ⟨0, by omega, rfl, hm1.alloc _, ho1, hb1.alloc hb1.size _⟩
  case round =>
    obtain ⟨k, hk, rfl, hom, hoo, hb⟩ := hrel
    by_cases hlt : k < s.size
    · have hc := Lib.hid (snocB s k hlt)
      have hml := (bsK_len s.data.toList P k).1
      have HML := Lib.hid hml
      have HD := Lib.hid (bsK_dist (l := s.data.toList) (p := P) (k := k) (by rw [lenB]; omega) hP1)
      have HST := Lib.hid (bsK_step (p := P) hc.out)
      have HCZ : Hid (s[k] ≠ 0) := HNZ.out _ (List.mem_of_getElem? hc.out)
      have hrng := pickB_rng (l := s.data.toList) (m := (bsK s.data.toList P k).1) (i := k) (c := s[k]) (by rw [lenB]; omega) (by rw [hml]; exact hP1)
      obtain ⟨bn, HBN0⟩ := Int.eq_ofNat_of_zero_le hrng.1
      have HBN : Hid ((pickB s.data.toList (bsK s.data.toList P k).1 k s[k]).toNat = bn ∧ pickB s.data.toList (bsK s.data.toList P k).1 k s[k] = (bn : Int)) := ⟨by rw [HBN0]; rfl, HBN0⟩
      have hbn : bn < P := by rw [hml] at hrng; omega
      clear hrng HBN0 hml
      obtain ⟨wo, hwo⟩ : ∃ wo, wo = wr := ⟨_, rfl⟩
      subst hwo
      go_wp2_with fail
      go_loopw [8, 9] (fun b j wr => ∃ t : Nat, t ≤ P ∧ j = .int .i64 t ∧ b = .int .i64 (lasK (bsK s.data.toList P k).1 s[k] t) ∧ Hid (∃ q, wr = wo.drewN q)) (fun _ j _ => P - (intOf j).toNat)
      case atStart => exact ⟨0, by omega, rfl, rfl, 0, rfl⟩
      case round =>
        obtain ⟨t, ht, rfl, rfl, hq⟩ := hrel
        have hom5 : Own wr w.heap.size 5 1 eB (.slice (some ⟨w.heap.size, 0, none⟩) P P) (bsK s.data.toList P k).1 := by obtain ⟨q, hq⟩ := hq.out; rw [hq]; exact hom.drewN _
        by_cases hlt2 : t < P
        · obtain ⟨y, hy⟩ : ∃ y, (bsK s.data.toList P k).1[t]? = some y := ⟨_, List.getElem?_eq_getElem (by rw [HML.out]; exact hlt2)⟩
          have d0 := hom5.cellB hy
          have g1 : (0 : Int) ≤ (k : Int) := by omega
          have g2 : (k : Int) < (s.size : Int) := by omega
          have g3 : (0 : Int) ≤ (t : Int) := by omega
          have g4 : (t : Int) < (P : Int) := by omega
          cases q : (y == s[k])
          · have HS := Lib.hid (lasK_no hy q)
            have q2 : (((y.toNat : Nat) : Int) == ((s[k].toNat : Nat) : Int)) = false := by rw [byte_eq, q]
            clear hy
            go_wp2_with fail
            go_quiet (fail)
            go_wp2_with fail
            go_roundw
            case rel => exact ⟨t + 1, by omega, by go_num, by rw [HS.out], by obtain ⟨q, hq⟩ := hq.out; exact ⟨q + nq, by rw [hq, World.drewN_drewN]⟩⟩
            case measure => simp [intOf]; omega
          · have HS := Lib.hid (lasK_yes hy q)
            have q2 : (((y.toNat : Nat) : Int) == ((s[k].toNat : Nat) : Int)) = true := by rw [byte_eq, q]
            clear hy
            go_wp2_with fail
            go_quiet (fail)
            go_wp2_with fail
            go_roundw
            case rel => exact ⟨t + 1, by omega, by go_num, by rw [HS.out], by obtain ⟨q, hq⟩ := hq.out; exact ⟨q + nq, by rw [hq, World.drewN_drewN]⟩⟩
            case measure => simp [intOf]; omega
        · have : t = P := by omega
          subst this
          have hb5 : Below w.heap.size w wr := by obtain ⟨q, hq⟩ := hq.out; rw [hq]; exact below_drewN hb _
          have hoo5 : Own wr (w.heap.size + 1) 2 1 e1 u6 (bsK s.data.toList t k).2 := by obtain ⟨q, hq⟩ := hq.out; rw [hq]; exact hoo.drewN _
          clear hom hoo hb hq
          by_cases hf : findB (bsK s.data.toList t k).1 s[k] < t
          · have HB1 : Hid (lasK (bsK s.data.toList t k).1 s[k] t = (bn : Int)) := by
              rw [Hid, lasK_some HD.out HCZ.out hf (by rw [HML.out]; exact hf), ← HBN.out.2, pickB, if_pos (by rw [HML.out]; exact hf)]
            have hom7 := hom5; have hoo7 := hoo5; have hb7 := hb5
            clear hf
            obtain ⟨dv, hdv⟩ : ∃ dv, (bsK s.data.toList t k).1[bn]? = some dv := ⟨_, List.getElem?_eq_getElem (by rw [(bsK_len s.data.toList t k).1]; exact hbn)⟩
            have d7 := hom7.cellB hdv
            have f7 := hom7.free bn
            have g3 : (bn : Int) < (t : Int) := by omega
            have hol := (bsK_len s.data.toList t k).2
            have HOL := Lib.hid hol
            clear hol hdv
            rw [HB1.out]
            go_wp2_with (at_builtin; refine wpList_app1x rfl (.tmp 71) (.tmp 73) 26 2 rfl (w.heap.size + 1) i1 _ 1 8 Try.underlying26 hi1 hy0 hy1 hy2 rfl (by decide) e1 e1_len e1_one _ (bsK s.data.toList t k).2 rfl ((hoo7.grown (only_setCell (World.grownBy.refl _ _) (.inl rfl) _) (ap7 _ hoo7)).alloc _) (bn : Int) _ _ rfl (newcell _ _ _ _ (by simp)) (by have := HOL.out; omega) (by have := HOL.out; unfold maxLen; omega) (by have := hb7.size; simp; omega) ?_; intro v9 w9 ho9 hb9 hg9 hat9)
            have hm9 := ((hom7.setB bn s[k]).alloc _).grown hg9 (ap9 _ hoo7)
            have hb10 := ((hb7.setCell (by simp) _).alloc (by have := hb7.size; simp; omega) _).trans (hb9.mono (by omega))
            go_roundw
            case rel => exact ⟨k + 1, by omega, by go_num, by rw [HST.out, HBN.out.1]; exact hm9, by rw [HST.out, HBN.out.2]; exact ho9, hb10⟩
            case measure => simp [intOf]; omega
          · have HF : Hid (findB (bsK s.data.toList t k).1 s[k] = (bsK s.data.toList t k).1.length) := by
              have := findB_le (bsK s.data.toList t k).1 s[k]
              rw [Hid]; rw [HML.out] at this ⊢; omega
            have HB0 : Hid (lasK (bsK s.data.toList t k).1 s[k] t = -1) := lasK_none HF.out
            have HBN2 : Hid ((amK (nxG s.data.toList (bsK s.data.toList t k).1 k) t).1 = (bn : Int)) := by
              have := HBN.out.2
              rw [pickB, if_neg (by rw [HF.out]; omega), HML.out] at this
              exact this
            clear hf
            rw [HB0.out]
            obtain ⟨w7, hw7⟩ : ∃ w7, w7 = wr := ⟨_, rfl⟩
            subst hw7
            go_wp2_with fail
            go_loopw [8, 10, 11] (fun b far j wr => ∃ u : Nat, u ≤ t ∧ j = .int .i64 u ∧ b = .int .i64 (amK (nxG s.data.toList (bsK s.data.toList t k).1 k) u).1 ∧ far = .int .i64 (amK (nxG s.data.toList (bsK s.data.toList t k).1 k) u).2 ∧ wr = w7) (fun _ _ j _ => t - (intOf j).toNat)
            case atStart => exact ⟨0, by omega, rfl, rfl, rfl, rfl⟩
            case round =>
              obtain ⟨u, hu, rfl, rfl, rfl, rfl⟩ := hrel
              by_cases hlt3 : u < t
              · obtain ⟨y, hy⟩ : ∃ y, (bsK s.data.toList t k).1[u]? = some y := ⟨_, List.getElem?_eq_getElem (by rw [HML.out]; exact hlt3)⟩
                have d0 := hom5.cellB hy
                cases q : (y == 0)
                · have q2 : (((y.toNat : Nat) : Int) != 0) = true := by rw [byte_z, q]; rfl
                  have HG : Hid (nxG s.data.toList (bsK s.data.toList t k).1 k u = ((k + findB (s.data.toList.drop k) y : Nat) : Int)) := by rw [Hid, nxG, getD_at hy, nxI, if_neg (by simpa using q)]
                  generalize hX : ((k + findB (s.data.toList.drop k) y : Nat) : Int) = X at HG
                  have HX := Lib.hid hX
                  clear hX hy
                  by_cases hgt : (amK (nxG s.data.toList (bsK s.data.toList t k).1 k) u).2 < X
                  · have HS := Lib.hid (amK_yes (g := nxG s.data.toList (bsK s.data.toList t k).1 k) (k := u) (by rw [HG.out]; exact hgt))
                    go_wp2_with fail
                    refine (l20Next_any s y k _ (by omega) (by omega)).mono ?_
                    rintro e w8 ⟨rfl, rfl⟩
                    rw [HX.out]
                    go_wp2_with fail
                    go_roundw
                    case rel => exact ⟨u + 1, by omega, by go_num, by rw [HS.out], by rw [HS.out, HG.out], trivial⟩
                    case measure => simp [intOf]; omega
                  · have HS := Lib.hid (amK_no (g := nxG s.data.toList (bsK s.data.toList t k).1 k) (k := u) (by rw [HG.out]; exact hgt))
                    go_wp2_with fail
                    refine (l20Next_any s y k _ (by omega) (by omega)).mono ?_
                    rintro e w8 ⟨rfl, rfl⟩
                    rw [HX.out]
                    go_wp2_with fail
                    go_roundw
                    case rel => exact ⟨u + 1, by omega, by go_num, by rw [HS.out], by rw [HS.out], trivial⟩
                    case measure => simp [intOf]; omega
                · have q2 : (((y.toNat : Nat) : Int) != 0) = false := by rw [byte_z, q]; rfl
                  have HG : Hid (nxG s.data.toList (bsK s.data.toList t k).1 k u = (s.size : Int) + 1) := by rw [Hid, nxG, getD_at hy, nxI, if_pos (by simpa using q), lenB]
                  clear hy
                  by_cases hgt : (amK (nxG s.data.toList (bsK s.data.toList t k).1 k) u).2 < (s.size : Int) + 1
                  · have HS := Lib.hid (amK_yes (g := nxG s.data.toList (bsK s.data.toList t k).1 k) (k := u) (by rw [HG.out]; exact hgt))
                    go_wp2_with fail
                    go_roundw
                    case rel => exact ⟨u + 1, by omega, by go_num, by rw [HS.out], by rw [HS.out, HG.out], trivial⟩
                    case measure => simp [intOf]; omega
                  · have HS := Lib.hid (amK_no (g := nxG s.data.toList (bsK s.data.toList t k).1 k) (k := u) (by rw [HG.out]; exact hgt))
                    go_wp2_with fail
                    go_roundw
                    case rel => exact ⟨u + 1, by omega, by go_num, by rw [HS.out], by rw [HS.out], trivial⟩
                    case measure => simp [intOf]; omega
              · have : u = t := by omega
                subst this
                have hom7 := hom5; have hoo7 := hoo5; have hb7 := hb5
                obtain ⟨dv, hdv⟩ : ∃ dv, (bsK s.data.toList u k).1[bn]? = some dv := ⟨_, List.getElem?_eq_getElem (by rw [(bsK_len s.data.toList u k).1]; exact hbn)⟩
                have d7 := hom7.cellB hdv
                have f7 := hom7.free bn
                have g3 : (bn : Int) < (u : Int) := by omega
                have hol := (bsK_len s.data.toList u k).2
                have HOL := Lib.hid hol
                clear hol hdv
                rw [HBN2.out]
                go_wp2_with (at_builtin; refine wpList_app1x rfl (.tmp 71) (.tmp 73) 26 2 rfl (w.heap.size + 1) i1 _ 1 8 Try.underlying26 hi1 hy0 hy1 hy2 rfl (by decide) e1 e1_len e1_one _ (bsK s.data.toList u k).2 rfl ((hoo7.grown (only_setCell (World.grownBy.refl _ _) (.inl rfl) _) (ap7 _ hoo7)).alloc _) (bn : Int) _ _ rfl (newcell _ _ _ _ (by simp)) (by have := HOL.out; omega) (by have := HOL.out; unfold maxLen; omega) (by have := hb7.size; simp; omega) ?_; intro v9 w9 ho9 hb9 hg9 hat9)
                have hm9 := ((hom7.setB bn s[k]).alloc _).grown hg9 (ap9 _ hoo7)
                have hb10 := ((hb7.setCell (by simp) _).alloc (by have := hb7.size; simp; omega) _).trans (hb9.mono (by omega))
                go_roundw
                case rel => exact ⟨k + 1, by omega, by go_num, by rw [HST.out, HBN.out.1]; exact hm9, by rw [HST.out, HBN.out.2]; exact ho9, hb10⟩
                case measure => simp [intOf]; omega
    · have : k = s.size := by omega
      subst this
      go_wp2_with fail
      go_ret
      rw [HPL.out]
      exact RetOwn.mk (hoo.mono (by omega)) hb

end Go.Proofs.Ytodfomglhlamoaa
