/-
  SlidesIn of the program and of the reference.
-/
import Derived.Test.YtcfbnlkkoifiiaaQsI
import Derived.Lib.ConvBytes
import Derived.Lib.AtoiErrMem
namespace Go.Proofs.Ytcfbnlkkoifiiaa
open Go.RowKit Go.Sort Go.Lib

/-- the bytes of a text as numbers -/
def byI (s : ByteArray) : List Int := s.data.toList.map fun b => (b.toNat : Int)
def sdVal (s : ByteArray) : Int := if ldOk s.data.toList then (valN (byI s) 256 : Int) else 0
def sdCode (s : ByteArray) : Int := if ldOk s.data.toList then 0 else 1

theorem byI_len (s : ByteArray) : (byI s).length = s.size := by simp [byI]
theorem byI_bd (s : ByteArray) : ∀ x ∈ byI s, 0 ≤ x ∧ x < 256 := by
  intro x hx
  obtain ⟨b, _, rfl⟩ := List.mem_map.1 hx
  have := b.toNat_lt
  omega
theorem Hb.conv (w : World) (T : TypeId) (s : ByteArray) : Hb w.heap.size 0 (byI s).toArray (Lib.bytesWorld w T s) := by
  intro t ht
  have hts : t < s.size := by simpa [byI_len] using ht
  rw [Nat.zero_add]
  refine ⟨?_, ?_⟩
  · rw [Lib.bytesWorld_cell w T s t hts]
    simp [byI, List.getD, hts]
  · unfold World.frozen?
    rw [Lib.bytesWorld_at_new]
    simp [Lib.bytesCells]
    omega
theorem implSlidesIn_any (s : ByteArray) (w : World) (hs : s.size ≤ 1048576) :
    Calls Try.prog 15 #[.string s] w fun e w' => e = .returned (.tuple #[.int .i64 (sdVal s), .int .i64 (sdCode s)]) ∧ Below w.heap.size w w' := by
  cases hok : ldOk s.data.toList
  · have HV : Hid (sdVal s = 0) := by rw [Hid, sdVal, hok]; rfl
    have HC : Hid (sdCode s = 1) := by rw [Hid, sdCode, hok]; rfl
    go_enter Try.func15, Try.ntmps15
    go_wp2_with fail
    refine (ValidShowing_any s _ hs).mono ?_
    rintro e w2 ⟨rfl, rfl⟩
    rw [hok]
    go_wp2_with fail
    go_ret2
    rw [HV.out, HC.out]
    exact ⟨rfl, Below.refl _ _⟩
  · have HV : Hid (sdVal s = (valN (byI s) 256 : Int)) := by rw [Hid, sdVal, hok]; rfl
    have HC : Hid (sdCode s = 0) := by rw [Hid, sdCode, hok]; rfl
    go_enter Try.func15, Try.ntmps15
    go_wp2_with fail
    refine (ValidShowing_any s _ hs).mono ?_
    rintro e w2 ⟨rfl, rfl⟩
    rw [hok]
    have hcv := Lib.run_convert_string_bytes (P := Try.prog) w 9 50 5 s (u := .string) Try.underlying9 Try.underlying50 Try.underlying5
    have hH := Hb.conv w 5 s
    have hB := Lib.bytesWorld_below w 5 s
    have hsz := Lib.bytesWorld_size w 5 s
    generalize Lib.bytesWorld w 5 s = W1 at hcv hH hB hsz
    have hs40 : s.size ≤ 40 := by
      have h1 : s.data.toList.length ≤ 40 := by simp [ldOk] at hok; simpa using hok.2
      rwa [Array.length_toList] at h1
    have hcap := grownCap_ge w s.size 0 5
    generalize grownCap w s.size 0 5 = cap at hcv hcap
    have HB := Lib.hid hB
    clear hB
    go_wp2_with fail
    refine (SortBytes_any w.heap.size 0 cap s.size (byI s).toArray _ hH (by omega) (by simp [byI_len]) hs40).mono ?_
    rintro e w2 ⟨rfl, d', hp, hso, h2, k2⟩
    have hd : d'.size = s.size := by rw [hp.1]; simp [byI_len]
    have hpm : d'.toList.Perm (byI s) := by
      have h3 := hp.2.2
      rwa [show d'.extract 0 s.size = d' from by rw [← hd]; simp, show (byI s).toArray.extract 0 s.size = (byI s).toArray from by rw [← byI_len s]; simp] at h3
    have hval : Hid ((compactUpTo d' s.size).length = valN (byI s) 256) := by
      have h3 := compact_len (d := d') (by rw [hd]; exact hso) (fun x hx => byI_bd s x (hpm.mem_iff.1 hx)) s.size (by omega)
      rw [Hid, h3, ← valN_perm hpm]
      congr 1
      exact List.take_of_length_le (by simp [hd])
    have hcon := CompactB_any w.heap.size 0 cap d' w2 h2 (by omega) (by omega)
    rw [hd] at hcon
    have HCON := Lib.hid hcon
    clear hcon hpm hp hso h2 hd hcv hH
    go_wp2_with fail
    refine HCON.out.mono ?_
    rintro e w3 ⟨rfl, k3⟩
    rw [hval.out]
    go_wp2_with fail
    go_ret2
    rw [HV.out, HC.out]
    exact ⟨rfl, HB.out.trans ((k2.trans k3).below (fun k hk => by rw [hk]; exact Nat.le_refl _) (by omega))⟩

theorem findB_first : ∀ (xs : List UInt8) (i : Nat) (c : UInt8), xs[i]? = some c → (findB xs c = i ↔ c ∉ xs.take i)
  | [], i, c, h => by simp at h
  | b :: l, 0, c, h => by
    have : b = c := by simpa using h
    simp [findB, this]
  | b :: l, i + 1, c, h => by
    have h2 : l[i]? = some c := by simpa using h
    have ih := findB_first l i c h2
    rw [findB, List.take_succ_cons, List.mem_cons]
    by_cases e : b = c
    · simp [e]
    · have e1 : (b == c) = false := by simpa using e
      have e2 : ¬ c = b := fun h => e h.symm
      simp only [e1, Bool.false_eq_true, if_false, Nat.add_right_cancel_iff, e2, false_or]
      exact ih
theorem byI_take (s : ByteArray) (i : Nat) (c : UInt8) : ((c.toNat : Int) ∈ (byI s).take i) ↔ c ∈ s.data.toList.take i := by
  rw [byI, ← List.map_take, List.mem_map]
  constructor
  · rintro ⟨b, hb, he⟩
    have : b = c := by
      apply UInt8.toNat_inj.1
      omega
    rwa [← this]
  · intro h
    exact ⟨c, h, rfl⟩
theorem specSlidesIn_any (s : ByteArray) (w : World) (hs : s.size ≤ 1048576) :
    Calls Try.prog 14 #[.string s] w fun e w' => e = .returned (.tuple #[.int .i64 (sdVal s), .int .i64 (sdCode s)]) ∧ Below w.heap.size w w' := by
  cases hok : ldOk s.data.toList
  · have HV : Hid (sdVal s = 0) := by rw [Hid, sdVal, hok]; rfl
    have HC : Hid (sdCode s = 1) := by rw [Hid, sdCode, hok]; rfl
    go_enter Try.func14, Try.ntmps14
    go_wp2_with fail
    refine (l20Ok_any s _ hs).mono ?_
    rintro e w2 ⟨rfl, rfl⟩
    rw [hok]
    go_wp2_with fail
    go_ret2
    rw [HV.out, HC.out]
    exact ⟨rfl, Below.refl _ _⟩
  · have HV : Hid (sdVal s = (valN (byI s) 256 : Int)) := by rw [Hid, sdVal, hok]; rfl
    have HC : Hid (sdCode s = 0) := by rw [Hid, sdCode, hok]; rfl
    have hs40 : s.size ≤ 40 := by
      have h1 : s.data.toList.length ≤ 40 := by simp [ldOk] at hok; simpa using hok.2
      rwa [Array.length_toList] at h1
    go_enter Try.func14, Try.ntmps14
    go_wp2_with fail
    refine (l20Ok_any s _ hs).mono ?_
    rintro e w2 ⟨rfl, rfl⟩
    rw [hok]
    go_wp2_with fail
    go_loopw [4, 5] (fun v4 v5 wr => ∃ k c : Nat, k ≤ s.size ∧ c ≤ k ∧ v4 = .int .i64 c ∧ v5 = .int .i64 k ∧ Hid (c = valN ((byI s).take k) 256) ∧ wr = w) (fun _ v _ => s.size - (intOf v).toNat)
    case atStart => exact ⟨0, 0, by omega, by omega, rfl, rfl, by simp [Hid, valN], rfl⟩
    case round =>
      obtain ⟨k, c, hk, hck, rfl, rfl, hc, rfl⟩ := hrel
      by_cases hlt : k < s.size
      · have hx := snocB s k hlt
        have hxi : (byI s)[k]? = some (s[k].toNat : Int) := by rw [byI, List.getElem?_map, hx]; rfl
        have hstep := valN_take_succ hxi (byI_bd s _ (List.mem_of_getElem? hxi)).1 (byI_bd s _ (List.mem_of_getElem? hxi)).2
        have hfi := findB_first s.data.toList k s[k] hx
        by_cases hf : findB s.data.toList s[k] = k
        · have HS : Hid (c + 1 = valN ((byI s).take (k + 1)) 256) := by rw [Hid, hstep, ← hc.out, if_neg (fun e => hfi.1 hf ((byI_take s k s[k]).1 e))]
          have HF := Lib.hid hf
          clear hx hxi hstep hfi hf
          go_wp2_with fail
          refine (l20Next_any s s[k] 0 _ hs (by omega)).mono ?_
          rintro e w2 ⟨rfl, rfl⟩
          rw [show 0 + findB (s.data.toList.drop 0) s[k] = k from by rw [List.drop_zero, HF.out]; omega]
          go_wp2_with fail
          go_roundw
          case rel => exact ⟨k + 1, c + 1, by omega, by omega, by go_num, by go_num, HS, trivial⟩
          case measure => simp [intOf]; omega
        · have HS : Hid (c = valN ((byI s).take (k + 1)) 256) := by
            rw [Hid, hstep, ← hc.out, if_pos ((byI_take s k s[k]).2 (Classical.not_not.1 fun e => hf (hfi.2 e)))]
            rfl
          obtain ⟨m, hm⟩ : ∃ m, Hid (findB s.data.toList s[k] = m) := ⟨_, Lib.hid rfl⟩
          have hmk : m ≠ k := fun e => hf (hm.out.trans e)
          have hmb : m ≤ s.size := by rw [← hm.out]; have := findB_le s.data.toList s[k]; rwa [Array.length_toList] at this
          clear hx hxi hstep hfi hf
          go_wp2_with fail
          refine (l20Next_any s s[k] 0 _ hs (by omega)).mono ?_
          rintro e w2 ⟨rfl, rfl⟩
          rw [show 0 + findB (s.data.toList.drop 0) s[k] = m from by rw [List.drop_zero, hm.out]; omega]
          go_wp2_with fail
          go_roundw
          case rel => exact ⟨k + 1, c, by omega, by omega, rfl, by go_num, HS, trivial⟩
          case measure => simp [intOf]; omega
      · obtain rfl : k = s.size := by omega
        go_wp2_with fail
        go_ret2
        rw [HV.out, HC.out]
        refine ⟨?_, Below.refl _ _⟩
        have h2 : c = valN (byI s) 256 := by rw [hc.out, List.take_of_length_le (by rw [byI_len]; exact Nat.le_refl _)]
        rw [h2]
        rfl

end Go.Proofs.Ytcfbnlkkoifiiaa
