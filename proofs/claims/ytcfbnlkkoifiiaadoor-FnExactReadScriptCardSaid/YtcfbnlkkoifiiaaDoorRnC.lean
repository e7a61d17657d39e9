/-
  Numbers read: the reference.
-/
import Derived.Test.YtcfbnlkkoifiiaaDoorRnA
import Derived.Test.YtcfbnlkkoifiiaaDoorNm
import Derived.Deep.DeepCutAuto
namespace Go.Proofs.YtcfbnlkkoifiiaaDoor
set_option maxRecDepth 100000
open Go.RowKit

theorem numStep {t : List UInt8} {k : Nat} {c : UInt8} (h : t[k]? = some c) : digV 0 (t.take (k + 1)) = 10 * digV 0 (t.take k) + (c.toNat - 48) := by
  rw [List.take_add_one, h, Option.toList_some, digV_snoc]
theorem atB {s : ByteArray} {k : Nat} (h : k < s.size) : s.data.toList[k]? = some s[k] := by
  simp [h]
  rfl
theorem dg_same (c : UInt8) : dgB (c.toNat : Int) = digB c := by
  rw [dgB, digB]
  exact decide_eq_decide.2 (by omega)
set_option maxHeartbeats 1600000 in
theorem l01Number_any (s : ByteArray) (w : World) (hs : s.size ≤ 1048577) :
    Calls Tryd.prog 26 #[.string s] w fun e w' => e = .returned (.tuple #[.int .i64 (numF s).1, .bool (numF s).2]) ∧ Below w.heap.size w w' := by
  obtain ⟨t1, t2⟩ := tailB_size s
  by_cases h0 : s.size = 0
  · have hl : s.data.toList = [] := List.eq_nil_of_length_eq_zero (by rw [Array.length_toList]; have : s.size = s.data.size := rfl; omega)
    have hq : s.toList = [] := by rw [Lib.toList_data]; exact hl
    have HN : Hid (numF s = (0, false)) := numF_empty (by rw [tailB, hl])
    go_enter Tryd.func26, Tryd.ntmps26
    go_wp2_with fail
    go_ret2
    exact ⟨by rw [HN.out]; rfl, Below.refl _ _⟩
  · have hz : 0 < s.size := by omega
    have hne : s.data.toList ≠ [] := fun e => by
      have h1 : s.data.toList.length = 0 := by rw [e]; rfl
      rw [Array.length_toList] at h1
      have : s.size = s.data.size := rfl
      omega
    have hq : ¬ s.toList = [] := by rw [Lib.toList_data]; exact hne
    have hq1 : s.toList.isEmpty = false := by simpa using hq
    have hneg1 : (((s[0]'hz).toNat : Int) == 45) = negB s := by
      have h1 := atB hz
      have h2 : s.data.toList.head? = some (s[0]'hz) := by rw [List.head?_eq_getElem?]; exact h1
      rw [negB, h2]
      by_cases e : s[0]'hz = 45
      · rw [e]; rfl
      · have e2 : (s[0]'hz).toNat ≠ 45 := fun h => e (UInt8.toNat_inj.1 h)
        simp [e]
        omega
    cases hn : negB s
    · rw [hn] at hneg1
      have hneg : Hid (negB s = false) := hn
      obtain ⟨tl, htl⟩ : ∃ tl, tl = tailB s := ⟨_, rfl⟩
      have HTS : Hid (tl = tailB s) := htl
      have HTT : Hid (s.data.toList = tl) := by rw [Hid, htl, ← cutB_list, cutB, hn]; rfl
      have HTL : Hid (tl.length = s.size) := by rw [Hid, ← HTT.out, Array.length_toList]; rfl
      clear htl hn hne
      go_enter Tryd.func26, Tryd.ntmps26
      by_cases hl1 : s.size < 1
      · exfalso; omega
      · by_cases hl18 : 18 < s.size
        · have HN : Hid (numF s = (0, false)) := numF_long (by rw [← HTS.out, HTL.out]; exact hl18)
          go_wp2_with fail
          go_ret2
          exact ⟨by rw [HN.out]; rfl, Below.refl _ _⟩
        · go_wp2_with fail
          go_loopw [5, 6] (fun v5 v6 wr => ∃ k : Nat, k ≤ s.size ∧ v5 = .int .i64 (digV 0 (tl.take k)) ∧ v6 = .int .i64 k ∧ Hid (∀ c ∈ tl.take k, digB c = true) ∧ wr = w) (fun _ v _ => s.size - (intOf v).toNat)
          case atStart => exact ⟨0, by omega, rfl, rfl, (fun c hc => by cases hc), rfl⟩
          case round =>
            obtain ⟨k, hk, rfl, rfl, HD, rfl⟩ := hrel
            by_cases hlt : k < s.size
            · have hx : tl[k]? = some s[k] := by rw [← HTT.out]; exact atB hlt
              have hstep := numStep hx
              have hmem : s[k] ∈ tailB s := by rw [← HTS.out]; exact List.mem_of_getElem? hx
              have hbd := digV_bd (tl.take k) HD.out
              have hpw : (10 : Nat) ^ (tl.take k).length ≤ 100000000000000000 := by
                have := Nat.pow_le_pow_right (show 0 < 10 by decide) (show (tl.take k).length ≤ 17 by rw [List.length_take]; omega)
                have e : (10 : Nat) ^ 17 = 100000000000000000 := by decide
                omega
              have hdg : dgB (s[k].toNat : Int) = digB s[k] := dg_same _
              have hb1 : s[k].toNat < 256 := s[k].toNat_lt
              generalize digV 0 (tl.take k) = V at hstep hbd ⊢
              have HST := Lib.hid hstep
              have HX := Lib.hid hx
              clear hstep hx
              cases hd : digB s[k]
              · have HN : Hid (numF s = (0, false)) := numF_nodig hmem hd
                rw [hd] at hdg
                clear hd hmem
                go_wp2_with fail
                refine (l01Digit_any _ _).mono ?_
                rintro e w2 ⟨rfl, rfl⟩
                rw [hdg]
                go_wp2_with fail
                go_ret2
                exact ⟨by rw [HN.out]; rfl, Below.refl _ _⟩
              · have hc : 48 ≤ s[k].toNat ∧ s[k].toNat ≤ 57 := by simpa [digB] using hd
                have HD2 : Hid (∀ c ∈ tl.take (k + 1), digB c = true) := fun c hcc => by
                  rw [List.take_add_one, HX.out, Option.toList_some] at hcc
                  rcases List.mem_append.1 hcc with h | h
                  · exact HD.out c h
                  · rw [List.mem_singleton.1 h]; exact hd
                rw [hd] at hdg
                clear hd hmem
                have r1 : IntKind.i64.wrap (10 * (V : Int)) = 10 * (V : Int) := IntWalk.i64_in _ (by omega)
                have r2 : IntKind.u8.wrap ((s[k].toNat : Int) - 48) = (s[k].toNat : Int) - 48 := by
                  have : IntKind.u8.wrap ((s[k].toNat : Int) - 48) = ((s[k].toNat : Int) - 48) % 256 := by simp [IntKind.wrap, IntKind.bits, IntKind.signed]
                  omega
                have r3 : IntKind.i64.wrap ((s[k].toNat : Int) - 48) = (s[k].toNat : Int) - 48 := IntWalk.i64_in _ (by omega)
                have r4 : IntKind.i64.wrap (10 * (V : Int) + ((s[k].toNat : Int) - 48)) = 10 * (V : Int) + ((s[k].toNat : Int) - 48) := IntWalk.i64_in _ (by omega)
                go_wp2_with fail
                refine (l01Digit_any _ _).mono ?_
                rintro e w2 ⟨rfl, rfl⟩
                rw [hdg]
                go_wp2_with fail
                go_roundw
                case rel => exact ⟨k + 1, by omega, by rw [HST.out]; congr 1; omega, by go_num, HD2, trivial⟩
                case measure => simp [intOf]; omega
            · obtain rfl : k = s.size := by omega
              have hkl : tl.take s.size = tl := List.take_of_length_le (by rw [HTL.out]; exact Nat.le_refl _)
              rw [hkl]
              have hbd := digV_bd tl (fun c hc => by rw [← hkl] at hc; exact HD.out c hc)
              have hpw : (10 : Nat) ^ tl.length ≤ 1000000000000000000 := by
                have := Nat.pow_le_pow_right (show 0 < 10 by decide) (show tl.length ≤ 18 by rw [HTL.out]; omega)
                have e : (10 : Nat) ^ 18 = 1000000000000000000 := by decide
                omega
              clear hkl
              obtain ⟨V, hV⟩ : ∃ V : Nat, V = digV 0 tl := ⟨_, rfl⟩
              have HVV := Lib.hid hV
              rw [← hV] at hbd ⊢
              clear hV
              have HN : Hid (numF s = if decS ((V : Int)) = s then ((V : Int), true) else (0, false)) := by
                have h1 := numF_ref (s := s) (by rw [← HTS.out, HTL.out]; omega)
                rw [numV, hneg.out, ← HTS.out, ← HVV.out] at h1
                exact h1
              have r1 : IntKind.i64.wrap (-(V : Int)) = -(V : Int) := IntWalk.i64_in _ (by omega)
              go_wp2_with fail
              refine (l01Dec_any ((V : Int)) _ ⟨by omega, by omega⟩).mono ?_
              rintro e w4 ⟨rfl, hb4⟩
              by_cases hd : decS ((V : Int)) = s
              · have HN2 : Hid (numF s = ((V : Int), true)) := by rw [Hid, HN.out, if_pos hd]
                have hq : ((decS ((V : Int))).toList == s.toList) = true := by rw [hd]; simp
                have hq2 : ((decS ((V : Int))).toList != s.toList) = false := by rw [hd]; simp
                clear hd
                go_wp2_with fail
                go_ret2
                exact ⟨by rw [HN2.out]; rfl, hb4⟩
              · have HN2 : Hid (numF s = (0, false)) := by rw [Hid, HN.out, if_neg hd]
                have hne : (decS ((V : Int))).toList ≠ s.toList := fun e => hd (by rw [Lib.toList_data, Lib.toList_data] at e; exact WideShapes.bytes_inj e)
                have hq : ((decS ((V : Int))).toList == s.toList) = false := by simpa using hne
                have hq2 : ((decS ((V : Int))).toList != s.toList) = true := by simpa using hne
                clear hd hne
                go_wp2_with fail
                go_ret2
                exact ⟨by rw [HN2.out]; rfl, hb4⟩
    · rw [hn] at hneg1
      have hneg : Hid (negB s = true) := hn
      obtain ⟨tl, htl⟩ : ∃ tl, tl = tailB s := ⟨_, rfl⟩
      have HTS : Hid (tl = tailB s) := htl
      have hts : (s.extract 1 s.size).size = s.size - 1 := by simp
      have HTT0 : (s.extract 1 s.size).data.toList = tl := by rw [htl, ← cutB_list, cutB, hn]; rfl
      go_enter Tryd.func26, Tryd.ntmps26
      go_upto_region 4 with fail
      generalize s.extract 1 s.size = T at hts HTT0 ⊢
      have HTT : Hid (T.data.toList = tl) := HTT0
      have HTL : Hid (tl.length = T.size) := by rw [Hid, ← HTT.out, Array.length_toList]; rfl
      clear htl hn hne HTT0
      by_cases hl1 : T.size < 1
      · have HN : Hid (numF s = (0, false)) := numF_empty (by rw [← HTS.out]; exact List.eq_nil_of_length_eq_zero (by rw [HTL.out]; omega))
        go_wp2_with fail
        go_ret2
        exact ⟨by rw [HN.out]; rfl, Below.refl _ _⟩
      · by_cases hl18 : 18 < T.size
        · have HN : Hid (numF s = (0, false)) := numF_long (by rw [← HTS.out, HTL.out]; exact hl18)
          go_wp2_with fail
          go_ret2
          exact ⟨by rw [HN.out]; rfl, Below.refl _ _⟩
        · go_wp2_with fail
          go_loopw [5, 6] (fun v5 v6 wr => ∃ k : Nat, k ≤ T.size ∧ v5 = .int .i64 (digV 0 (tl.take k)) ∧ v6 = .int .i64 k ∧ Hid (∀ c ∈ tl.take k, digB c = true) ∧ wr = w) (fun _ v _ => T.size - (intOf v).toNat)
          case atStart => exact ⟨0, by omega, rfl, rfl, (fun c hc => by cases hc), rfl⟩
          case round =>
            obtain ⟨k, hk, rfl, rfl, HD, rfl⟩ := hrel
            by_cases hlt : k < T.size
            · have hx : tl[k]? = some T[k] := by rw [← HTT.out]; exact atB hlt
              have hstep := numStep hx
              have hmem : T[k] ∈ tailB s := by rw [← HTS.out]; exact List.mem_of_getElem? hx
              have hbd := digV_bd (tl.take k) HD.out
              have hpw : (10 : Nat) ^ (tl.take k).length ≤ 100000000000000000 := by
                have := Nat.pow_le_pow_right (show 0 < 10 by decide) (show (tl.take k).length ≤ 17 by rw [List.length_take]; omega)
                have e : (10 : Nat) ^ 17 = 100000000000000000 := by decide
                omega
              have hdg : dgB (T[k].toNat : Int) = digB T[k] := dg_same _
              have hb1 : T[k].toNat < 256 := T[k].toNat_lt
              generalize digV 0 (tl.take k) = V at hstep hbd ⊢
              have HST := Lib.hid hstep
              have HX := Lib.hid hx
              clear hstep hx
              cases hd : digB T[k]
              · have HN : Hid (numF s = (0, false)) := numF_nodig hmem hd
                rw [hd] at hdg
                clear hd hmem
                go_wp2_with fail
                refine (l01Digit_any _ _).mono ?_
                rintro e w2 ⟨rfl, rfl⟩
                rw [hdg]
                go_wp2_with fail
                go_ret2
                exact ⟨by rw [HN.out]; rfl, Below.refl _ _⟩
              · have hc : 48 ≤ T[k].toNat ∧ T[k].toNat ≤ 57 := by simpa [digB] using hd
                have HD2 : Hid (∀ c ∈ tl.take (k + 1), digB c = true) := fun c hcc => by
                  rw [List.take_add_one, HX.out, Option.toList_some] at hcc
                  rcases List.mem_append.1 hcc with h | h
                  · exact HD.out c h
                  · rw [List.mem_singleton.1 h]; exact hd
                rw [hd] at hdg
                clear hd hmem
                have r1 : IntKind.i64.wrap (10 * (V : Int)) = 10 * (V : Int) := IntWalk.i64_in _ (by omega)
                have r2 : IntKind.u8.wrap ((T[k].toNat : Int) - 48) = (T[k].toNat : Int) - 48 := by
                  have : IntKind.u8.wrap ((T[k].toNat : Int) - 48) = ((T[k].toNat : Int) - 48) % 256 := by simp [IntKind.wrap, IntKind.bits, IntKind.signed]
                  omega
                have r3 : IntKind.i64.wrap ((T[k].toNat : Int) - 48) = (T[k].toNat : Int) - 48 := IntWalk.i64_in _ (by omega)
                have r4 : IntKind.i64.wrap (10 * (V : Int) + ((T[k].toNat : Int) - 48)) = 10 * (V : Int) + ((T[k].toNat : Int) - 48) := IntWalk.i64_in _ (by omega)
                go_wp2_with fail
                refine (l01Digit_any _ _).mono ?_
                rintro e w2 ⟨rfl, rfl⟩
                rw [hdg]
                go_wp2_with fail
                go_roundw
                case rel => exact ⟨k + 1, by omega, by rw [HST.out]; congr 1; omega, by go_num, HD2, trivial⟩
                case measure => simp [intOf]; omega
            · obtain rfl : k = T.size := by omega
              have hkl : tl.take T.size = tl := List.take_of_length_le (by rw [HTL.out]; exact Nat.le_refl _)
              rw [hkl]
              have hbd := digV_bd tl (fun c hc => by rw [← hkl] at hc; exact HD.out c hc)
              have hpw : (10 : Nat) ^ tl.length ≤ 1000000000000000000 := by
                have := Nat.pow_le_pow_right (show 0 < 10 by decide) (show tl.length ≤ 18 by rw [HTL.out]; omega)
                have e : (10 : Nat) ^ 18 = 1000000000000000000 := by decide
                omega
              clear hkl
              obtain ⟨V, hV⟩ : ∃ V : Nat, V = digV 0 tl := ⟨_, rfl⟩
              have HVV := Lib.hid hV
              rw [← hV] at hbd ⊢
              clear hV
              have HN : Hid (numF s = if decS (-(V : Int)) = s then (-(V : Int), true) else (0, false)) := by
                have h1 := numF_ref (s := s) (by rw [← HTS.out, HTL.out]; omega)
                rw [numV, hneg.out, ← HTS.out, ← HVV.out] at h1
                exact h1
              have r1 : IntKind.i64.wrap (-(V : Int)) = -(V : Int) := IntWalk.i64_in _ (by omega)
              go_wp2_with fail
              refine (l01Dec_any (-(V : Int)) _ ⟨by omega, by omega⟩).mono ?_
              rintro e w4 ⟨rfl, hb4⟩
              by_cases hd : decS (-(V : Int)) = s
              · have HN2 : Hid (numF s = (-(V : Int), true)) := by rw [Hid, HN.out, if_pos hd]
                have hq : ((decS (-(V : Int))).toList == s.toList) = true := by rw [hd]; simp
                have hq2 : ((decS (-(V : Int))).toList != s.toList) = false := by rw [hd]; simp
                clear hd
                go_wp2_with fail
                go_ret2
                exact ⟨by rw [HN2.out]; rfl, hb4⟩
              · have HN2 : Hid (numF s = (0, false)) := by rw [Hid, HN.out, if_neg hd]
                have hne : (decS (-(V : Int))).toList ≠ s.toList := fun e => hd (by rw [Lib.toList_data, Lib.toList_data] at e; exact WideShapes.bytes_inj e)
                have hq : ((decS (-(V : Int))).toList == s.toList) = false := by simpa using hne
                have hq2 : ((decS (-(V : Int))).toList != s.toList) = true := by simpa using hne
                clear hd hne
                go_wp2_with fail
                go_ret2
                exact ⟨by rw [HN2.out]; rfl, hb4⟩
end Go.Proofs.YtcfbnlkkoifiiaaDoor
