/-
  Contracts of the functions on pieces: the beats nearest to seconds.
-/
import Derived.Test.YtoehlgfjfdfnfaaTmF
import Derived.Test.YtoehlgfjfdfnfaaBToI
namespace Go.Proofs.Ytoehlgfjfdfnfaa
open Go.RowKit

def fcK (xs : List (Int × Int × Int)) (ss : List Int) (k : Nat) : List Int := (ss.take k).map (fcOne xs)
theorem fcK_zero (xs : List (Int × Int × Int)) (ss : List Int) : fcK xs ss 0 = [] := by simp [fcK]
theorem fcK_step (xs : List (Int × Int × Int)) {ss : List Int} {k : Nat} {s : Int} (h : ss[k]? = some s) : fcK xs ss (k + 1) = fcK xs ss k ++ [fcOne xs s] := by
  rw [fcK, List.take_add_one, h, List.map_append]; rfl
theorem fcK_len {xs : List (Int × Int × Int)} {ss : List Int} {k m : Nat} (h : ss.length = m) (hk : k ≤ m) : (fcK xs ss k).length = k := by
  rw [fcK, List.length_map, List.length_take, h]; omega
theorem fcVal_no {xs : List (Int × Int × Int)} {ss : List Int} (h : fcCode xs ss ≠ 0) : fcVal xs ss = [] := by rw [fcVal, if_neg h]
theorem fcVal_len (xs : List (Int × Int × Int)) (ss : List Int) : (fcVal xs ss).length ≤ 1048577 := by
  unfold fcVal
  split
  · rename_i h
    have h2 := (tiCode_0 h).2.1
    unfold fcIn at h2
    simp at h2
    rw [List.length_map]; omega
  · simp
theorem fcIn_true {ss : List Int} (h : fcIn ss = true) : ss.length ≤ 20 ∧ ∀ s ∈ ss, 0 ≤ s ∧ s ≤ 100000 := by
  unfold fcIn at h
  rw [Bool.and_eq_true, List.all_eq_true, decide_eq_true_iff] at h
  exact ⟨h.2, fun s hs => inB_true.1 (h.1 s hs)⟩
theorem fcIn_long {ss : List Int} (h : 20 < ss.length) : fcIn ss = false := by
  cases hq : fcIn ss
  · rfl
  · have := (fcIn_true hq).1; omega
theorem fcIn_miss {ss : List Int} {k : Nat} {s : Int} (h : ss[k]? = some s) (hs : inB s 0 100000 = false) : fcIn ss = false := by
  cases hq : fcIn ss
  · rfl
  · have := (fcIn_true hq).2 s (List.mem_of_getElem? h)
    rw [inB_true.2 this] at hs; cases hs
theorem fcOne_at {xs : List (Int × Int × Int)} {s a : Int} (ok : UnOk (partsI xs) xs) (h1 : 0 < btI xs) (h : BtAt (partsI xs) xs (s * partsI xs) a) :
    fcOne xs s = if a + 1 < btI xs ∧ unI (partsI xs) xs (a + 1) - s * partsI xs < s * partsI xs - unI (partsI xs) xs a then a + 1 else a := amGo_eq ok h1 h
theorem apart_any (a b : Int) (w : World) (ha : 0 ≤ a ∧ a ≤ 100000000000000) (hb : 0 ≤ b ∧ b ≤ 100000000000000) :
    Calls Try.prog 43 #[.int .i64 a, .int .i64 b] w fun e w' => e = .returned (.int .i64 (apI a b)) ∧ w = w' := by
  have H : Hid (max (a - b) (b - a) = apI a b) := by rw [Hid, apI]; split <;> omega
  have r1 : IntKind.i64.wrap (a - b) = a - b := wr64 (by omega)
  have r2 : IntKind.i64.wrap (b - a) = b - a := wr64 (by omega)
  go_enter Try.func43, Try.ntmps43
  go_wp2
  all_goals go_ret
  all_goals exact ⟨ret_int (by have := H.out; omega), rfl⟩

set_option maxHeartbeats 800000 in
theorem implFitCues_any (A : Option Addr) (n c : Nat) (xs : List (Int × Int × Int)) (B : Option Addr) (m d : Nat) (ss : List Int) (w : World) (h : Sl w 3 e3 A n xs) (hn : n ≤ 1048577) (hs : Sl w 1 e1 B m ss) (hm : m ≤ 1048577) :
    Calls Try.prog 19 #[.slice A n c, .slice B m d] w (RetOwnC 2 1 e1 (fcVal xs ss) (fcCode xs ss) w) := by
  obtain ⟨i0, hi0, hz0, hz1, hz2⟩ := info_parts infoI64
  have hl2 := h.1
  have hlm := hs.1
  by_cases hz : tiCode xs (fcIn ss) = 0
  · obtain ⟨ok, hr, hp⟩ := tiCode_0 hz
    have HT := Lib.hid hz
    have H1 : Hid (fcCode xs ss = 0) := hz
    have H2 : Hid (fcVal xs ss = ss.map (fcOne xs)) := by rw [Hid, fcVal, if_pos H1.out]
    obtain ⟨h20, hin⟩ := fcIn_true hr
    have hpb := parts_bd ok.b hp
    have hbt := ok.b.bt_bd
    have hbt1 := ok.bt1
    have hU : 1 ≤ partsI xs ∧ partsI xs ≤ 100000000 := ⟨hpb.1, hpb.2.1⟩
    have HLB := Lib.hid (bgL_len xs (partsI xs))
    obtain ⟨K, hK⟩ := Int.eq_ofNat_of_zero_le hbt.1
    have HNK : Hid ((btI xs).toNat = K) := by rw [Hid, hK, Int.toNat_natCast]
    clear hz hp hr hpb
    go_enter Try.func19, Try.ntmps19
    go_wp2_with fail
    have hW : Below w.heap.size w (w.alloc (.cells #[.slice B m d] 37)) := below_alloc w (.cells #[.slice B m d] 37)
    have cs : (w.alloc (.cells #[.slice B m d] 37)).cell? ⟨w.heap.size, 0, none⟩ = some (.slice B m d) := by simp [go_sem]
    generalize w.alloc (.cells #[.slice B m d] 37) = W3 at hW cs ⊢
    refine (timesOfF_yes A n c xs _ B m d ss W3 (h.below hW) hn (hs.below hW) hm cs HT.out).mono ?_
    rintro e w2 ⟨Ba, ma, da, rfl, ho, hb2⟩
    have hWb := below_step hW hb2
    have hmm : ma = K + 1 := by have := (ho.sl e1_len).1; rw [HLB.out, HNK.out] at this; omega
    obtain ⟨gb, hB⟩ : ∃ g, Ba = some ⟨g, 0, none⟩ := by
      rcases ho.form with ⟨_, h0, _⟩ | hg
      · omega
      · exact hg
    subst hB
    subst hmm
    have hsl := ho.sl e1_len
    have cs2 := (hb2.cell (World.block_lt_of_cell? _ _ cs)).trans cs
    have cs3 := cell_al cs2
    clear ho
    go_wp2_with fail
    have hst : Own (w2.alloc (.cells #[] 2)) w2.heap.size 2 1 e1 (.slice (some ⟨w2.heap.size, 0, none⟩) 0 0) (fcK xs ss 0) := by rw [fcK_zero]; exact Own.lit w2 _ _ [] 0 (Nat.le_refl _) rfl (by simp [maxLen]) e1_len rfl
    have hm1 : IntKind.i64.wrap (((K + 1 : Nat) : Int) - 1) = (K : Int) := by rw [show ((K + 1 : Nat) : Int) - 1 = (K : Int) by omega]; exact wr64 (by omega)
    go_loopw [9, 27] (fun v i wr => ∃ k : Nat, k ≤ m ∧ i = .int .i64 k ∧ Own wr w2.heap.size 2 1 e1 v (fcK xs ss k) ∧ Below w2.heap.size w2 wr) (fun _ i _ => m - (intOf i).toNat)
    case atStart => exact ⟨0, by omega, rfl, hst, below_alloc _ _⟩
    case round =>
      obtain ⟨k, hk, rfl, ho, hb⟩ := hrel
      by_cases hlt : k < m
      · obtain ⟨bb, off, x, rfl, hx, hmx, c0⟩ := ((hs.below hWb).below hb).at1 hlt
        have hx1 := hin x hmx
        have hS := pr_bd hx1 hU
        have r2 : IntKind.i64.wrap (x * partsI xs) = x * partsI xs := wr64 (by omega)
        have HX := Lib.hid hx
        clear hx
        go_wp2_with fail
        clear c0
        go_loopw [12, 34] (fun bv i wr => ∃ q : Nat, q ≤ K ∧ i = .int .i64 q ∧ bv = .int .i64 (amGo (partsI xs) xs (x * partsI xs) q : Nat) ∧ Own wr w2.heap.size 2 1 e1 u9 (fcK xs ss k) ∧ Below w2.heap.size w2 wr) (fun _ i _ => K - (intOf i).toNat)
        case atStart => exact ⟨0, by omega, rfl, rfl, ho, hb⟩
        case round =>
          obtain ⟨q, hq, rfl, rfl, ho, hb⟩ := hrel
          by_cases hlt2 : q < K
          · have ham := (amGo_le (U := partsI xs) (xs := xs) (S := x * partsI xs) q)
            have HA0 : Hid (amGo (partsI xs) xs (x * partsI xs) (q + 1) = if apI (unI (partsI xs) xs q) (x * partsI xs) < apI (unI (partsI xs) xs (amGo (partsI xs) xs (x * partsI xs) q : Nat)) (x * partsI xs) then q else amGo (partsI xs) xs (x * partsI xs) q) := rfl
            have HG1 := Lib.hid (bgL_get (U := partsI xs) (xs := xs) (k := q) (by omega))
            have HG2 := Lib.hid (bgL_get (U := partsI xs) (xs := xs) (k := amGo (partsI xs) xs (x * partsI xs) q) (by omega))
            have c1 := (hsl.below hb).get1 HG1.out
            have c2 := (hsl.below hb).get1 HG2.out
            rw [Nat.zero_add] at c1 c2
            have hE1 := unI_le (U := partsI xs) (b := (q : Int)) ok.b hU (by omega)
            have hE2 := unI_le (U := partsI xs) (b := ((amGo (partsI xs) xs (x * partsI xs) q : Nat) : Int)) ok.b hU (by omega)
            generalize hBB : amGo (partsI xs) xs (x * partsI xs) q = b at ham HA0 HG2 c2 hE2 ⊢
            clear hBB
            generalize hV1 : unI (partsI xs) xs (q : Int) = V1 at HA0 c1 hE1 ⊢
            generalize hV2 : unI (partsI xs) xs (b : Int) = V2 at HA0 c2 hE2 ⊢
            clear hV1 hV2 HG1 HG2
            have g1 : (0 : Int) ≤ (q : Int) := by omega
            have g2 : (q : Int) < ((K + 1 : Nat) : Int) := by omega
            have g3 : (0 : Int) ≤ (b : Int) := by omega
            have g4 : (b : Int) < ((K + 1 : Nat) : Int) := by omega
            by_cases hcmp : apI V1 (x * partsI xs) < apI V2 (x * partsI xs)
            · have HA : Hid (amGo (partsI xs) xs (x * partsI xs) (q + 1) = q) := by rw [Hid, HA0.out, if_pos hcmp]
              go_wp2_with fail
              go_quiet ((go_at_call 43; exact quiet_left (apart_any _ _ _ (by omega) (by omega))))
              go_wp2_with fail
              go_roundw
              case rel => exact ⟨q + 1, by omega, by go_num, by rw [HA.out], ho.drewN _, below_drewN hb _⟩
              case measure => simp [intOf]; omega
            · have HA : Hid (amGo (partsI xs) xs (x * partsI xs) (q + 1) = b) := by rw [Hid, HA0.out, if_neg hcmp]
              go_wp2_with fail
              go_quiet ((go_at_call 43; exact quiet_left (apart_any _ _ _ (by omega) (by omega))))
              go_wp2_with fail
              go_roundw
              case rel => exact ⟨q + 1, by omega, by go_num, by rw [HA.out], ho.drewN _, below_drewN hb _⟩
              case measure => simp [intOf]; omega
          · have : q = K := by omega
            subst this
            have HV : Hid (((amGo (partsI xs) xs (x * partsI xs) q : Nat) : Int) = fcOne xs x) := by rw [Hid, fcOne, HNK.out]
            have HL := Lib.hid (fcK_len (xs := xs) hlm hk)
            generalize hBB : ((amGo (partsI xs) xs (x * partsI xs) q : Nat) : Int) = V at HV ⊢
            clear hBB
            go_wp2_with (at_builtin; refine wpList_app1 rfl (.tmp 56) (.tmp 58) 37 2 rfl w2.heap.size i0 _ 1 8 Try.underlying37 hi0 hz0 hz1 hz2 rfl (by decide) e1 e1_len e1_one _ (fcK xs ss k) rfl (ho.alloc _) V _ _ rfl (newcell _ _ _ _ (by simp)) (by rw [HL.out]; omega) (by rw [HL.out]; unfold maxLen; omega) (by have := hb.size; simp; omega) ?_; intro v9 w9 ho9 hb9)
            go_roundw
            case rel => exact ⟨k + 1, by omega, by go_num, by rw [fcK_step xs HX.out, ← HV.out]; exact ho9, (hb.alloc hb.size _).trans hb9⟩
            case measure => simp [intOf]; omega
      · have : k = m := by omega
        subst this
        have HM : Hid (fcK xs ss k = fcVal xs ss) := by rw [Hid, H2.out, fcK, List.take_of_length_le (by omega)]
        go_wp2_with fail
        go_ret2
        rw [H1.out, ← HM.out]
        exact RetOwnC.mk (ho.mono hWb.size) (below_mid hWb hb hWb.size)
  · have H1 : Hid (fcCode xs ss = tiCode xs (fcIn ss)) := rfl
    have H2 : Hid (fcVal xs ss = []) := fcVal_no hz
    have hz3 : (tiCode xs (fcIn ss) != 0) = true := by simp [hz]
    have HZ := Lib.hid hz
    clear hz
    go_enter Try.func19, Try.ntmps19
    go_wp2_with fail
    have hW : Below w.heap.size w (w.alloc (.cells #[.slice B m d] 37)) := below_alloc w (.cells #[.slice B m d] 37)
    have cs : (w.alloc (.cells #[.slice B m d] 37)).cell? ⟨w.heap.size, 0, none⟩ = some (.slice B m d) := by simp [go_sem]
    generalize w.alloc (.cells #[.slice B m d] 37) = W3 at hW cs ⊢
    refine (timesOfF_no A n c xs _ B m d ss W3 (h.below hW) hn (hs.below hW) hm cs HZ.out).mono ?_
    rintro e w2 ⟨rfl, hb2⟩
    have hWb := below_step hW hb2
    go_wp2_with fail
    go_ret2
    rw [H1.out, H2.out]
    exact RetOwnC.none_ hWb

end Go.Proofs.Ytoehlgfjfdfnfaa
