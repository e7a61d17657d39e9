/-
  The length of a number in bits; the random numbers of the sort; patterns broken.
-/
import Derived.Test.YtcfbnlkkoifiiaaQs
import Derived.Test.YtcfbnlkkoifiiaaQp
import Derived.Laws.Bits64
import Derived.Laws.Bits64b
namespace Go.Proofs.Ytcfbnlkkoifiiaa
open Go.RowKit Go.Sort

def blen (x : Nat) : Nat := if x = 0 then 0 else if x < 2 then 1 else if x < 4 then 2 else if x < 8 then 3 else if x < 16 then 4 else if x < 32 then 5 else 6
set_option maxHeartbeats 8000000 in
set_option maxRecDepth 100000 in
theorem len64_any (x : Nat) (hx : x ≤ 40) (w : World) : Calls Try.prog 53 #[.int .u64 x] w fun e w' => e = .returned (.int .i64 (blen x)) ∧ w' = w := by
  have h : x = 0 ∨ x = 1 ∨ x = 2 ∨ x = 3 ∨ x = 4 ∨ x = 5 ∨ x = 6 ∨ x = 7 ∨ x = 8 ∨ x = 9 ∨ x = 10 ∨ x = 11 ∨ x = 12 ∨ x = 13 ∨ x = 14 ∨ x = 15 ∨ x = 16 ∨ x = 17 ∨ x = 18 ∨ x = 19 ∨ x = 20 ∨ x = 21 ∨ x = 22 ∨ x = 23 ∨ x = 24 ∨ x = 25 ∨ x = 26 ∨ x = 27 ∨ x = 28 ∨ x = 29 ∨ x = 30 ∨ x = 31 ∨ x = 32 ∨ x = 33 ∨ x = 34 ∨ x = 35 ∨ x = 36 ∨ x = 37 ∨ x = 38 ∨ x = 39 ∨ x = 40 := by omega
  rcases h with rfl | rfl | rfl | rfl | rfl | rfl | rfl | rfl | rfl | rfl | rfl | rfl | rfl | rfl | rfl | rfl | rfl | rfl | rfl | rfl | rfl | rfl | rfl | rfl | rfl | rfl | rfl | rfl | rfl | rfl | rfl | rfl | rfl | rfl | rfl | rfl | rfl | rfl | rfl | rfl | rfl
  all_goals go_enter Try.func53, Try.ntmps53
  all_goals go_wp2
  all_goals go_ret
  all_goals exact ⟨ret_int (by kernel_rfl), rfl⟩

theorem blen_le (x : Nat) : blen x ≤ 6 := by unfold blen; split <;> (try omega); split <;> (try omega); split <;> (try omega); split <;> (try omega); split <;> (try omega); split <;> omega
theorem len_any (x : Nat) (hx : x ≤ 40) (w : World) : Calls Try.prog 38 #[.int .u64 x] w fun e w' => e = .returned (.int .i64 (blen x)) ∧ w' = w := by
  go_enter Try.func38, Try.ntmps38
  go_wp2_with fail
  refine (len64_any x hx _).mono ?_
  rintro e w2 ⟨rfl, rfl⟩
  go_wp2_with fail
  go_ret
  exact ⟨rfl, rfl⟩
/-- the next power of two -/
def npow (x : Nat) : Nat := if x < 16 then 16 else if x < 32 then 32 else 64
theorem npow_bd {x : Nat} (h : 8 ≤ x) (h2 : x ≤ 40) : x < npow x ∧ npow x ≤ 2 * x ∧ npow x ≤ 64 := by
  unfold npow; split <;> (try omega); split <;> omega
theorem nextPow_any (x : Nat) (h : 8 ≤ x) (hx : x ≤ 40) (w : World) : Calls Try.prog 56 #[.int .i64 x] w fun e w' => e = .returned (.int .u64 (npow x)) ∧ w' = w := by
  have hb : blen x = 4 ∧ npow x = 16 ∨ blen x = 5 ∧ npow x = 32 ∨ blen x = 6 ∧ npow x = 64 := by
    unfold blen npow
    by_cases h1 : x < 16
    · exact .inl ⟨by rw [if_neg (by omega), if_neg (by omega), if_neg (by omega), if_neg (by omega), if_pos h1], by rw [if_pos h1]⟩
    · by_cases h2 : x < 32
      · exact .inr (.inl ⟨by rw [if_neg (by omega), if_neg (by omega), if_neg (by omega), if_neg (by omega), if_neg h1, if_pos h2], by rw [if_neg h1, if_pos h2]⟩)
      · exact .inr (.inr ⟨by rw [if_neg (by omega), if_neg (by omega), if_neg (by omega), if_neg (by omega), if_neg h1, if_neg h2], by rw [if_neg h1, if_neg h2]⟩)
  have HB := Lib.hid hb
  clear hb
  go_enter Try.func56, Try.ntmps56
  go_wp2_with fail
  refine (len_any x hx _).mono ?_
  rintro e w2 ⟨rfl, rfl⟩
  rcases HB.out with ⟨h1, h2⟩ | ⟨h1, h2⟩ | ⟨h1, h2⟩
  all_goals rw [h1]
  all_goals have HN := Lib.hid h2
  all_goals clear h1 h2
  all_goals go_wp2_with fail
  all_goals go_ret
  all_goals exact ⟨ret_int (by rw [HN.out]; kernel_rfl), rfl⟩
theorem and_bd (x : Int) (m : Nat) (hm : m < 18446744073709551616) : 0 ≤ bits .and .u64 x (m : Int) ∧ bits .and .u64 x (m : Int) ≤ m := by
  have hb : (BitVec.ofInt 64 (m : Int)).toNat = m := by rw [BitVec.ofInt_natCast, BitVec.toNat_ofNat]; exact Nat.mod_eq_of_lt hm
  have h1 : (BitVec.ofInt 64 x &&& BitVec.ofInt 64 (m : Int)).toNat ≤ m := by
    rw [BitVec.toNat_and, hb]
    exact Nat.and_le_right
  have h2 : bits .and .u64 x (m : Int) = ((BitVec.ofInt 64 x &&& BitVec.ofInt 64 (m : Int)).toNat : Int) := by
    have h3 : (BitVec.ofInt 64 x &&& BitVec.ofInt 64 (m : Int)).toNat < 18446744073709551616 := (BitVec.ofInt 64 x &&& BitVec.ofInt 64 (m : Int)).isLt
    show IntKind.u64.wrap (((BitVec.ofInt 64 x &&& BitVec.ofInt 64 (m : Int)).toNat : Nat) : Int) = _
    rw [IntKind.wrap_u64]
    generalize (BitVec.ofInt 64 x &&& BitVec.ofInt 64 (m : Int)).toNat = B at h3
    exact Int.emod_eq_of_lt (by omega) (by omega)
  rw [h2]
  omega
theorem xorNext_any (gr : Nat) (x : Int) (w : World) (hc : w.cell? ⟨gr, 0, none⟩ = some (.int .u64 x)) (hf : w.frozen? ⟨gr, 0, none⟩ = false) :
    Calls Try.prog 57 #[.pointer (some ⟨gr, 0, none⟩)] w fun e w' => ∃ r : Int, e = .returned (.int .u64 r) ∧ w'.cell? ⟨gr, 0, none⟩ = some (.int .u64 r) ∧ w'.frozen? ⟨gr, 0, none⟩ = false ∧ Kg gr w w' := by
  go_enter Try.func57, Try.ntmps57
  have k0 : Kg gr w w := Kp.refl _ _
  go_wp2
  go_region
  go_wp2
  generalize bits BinOp.xor IntKind.u64 x (IntKind.u64.wrap (x * 8192)) = x1
  generalize hW1 : (w.setCell ⟨gr, 0, none⟩ (.int .u64 x1)).drew = w1
  have c1 : w1.cell? ⟨gr, 0, none⟩ = some (.int .u64 x1) := by rw [← hW1]; exact World.cell?_setCell_same _ _ _ hc
  have f1 : w1.frozen? ⟨gr, 0, none⟩ = false := by rw [← hW1]; show (World.setCell _ _ _).frozen? _ = false; rw [World.frozen?_setCell]; exact hf
  have k1 : Kg gr w w1 := by rw [← hW1]; exact Kg.drew (Kp.setCell k0 rfl _)
  clear hW1
  go_region
  go_wp2
  generalize bits BinOp.xor IntKind.u64 x1 (x1 / 128) = x2
  generalize hW2 : (w1.setCell ⟨gr, 0, none⟩ (.int .u64 x2)).drew = w2
  have c2 : w2.cell? ⟨gr, 0, none⟩ = some (.int .u64 x2) := by rw [← hW2]; exact World.cell?_setCell_same _ _ _ c1
  have f2 : w2.frozen? ⟨gr, 0, none⟩ = false := by rw [← hW2]; show (World.setCell _ _ _).frozen? _ = false; rw [World.frozen?_setCell]; exact f1
  have k2 : Kg gr w w2 := by rw [← hW2]; exact Kg.drew (Kp.setCell k1 rfl _)
  clear hW2
  go_region
  go_wp2
  generalize bits BinOp.xor IntKind.u64 x2 (IntKind.u64.wrap (x2 * 131072)) = x3
  generalize hW3 : (w2.setCell ⟨gr, 0, none⟩ (.int .u64 x3)).drew = w3
  have c3 : w3.cell? ⟨gr, 0, none⟩ = some (.int .u64 x3) := by rw [← hW3]; exact World.cell?_setCell_same _ _ _ c2
  have f3 : w3.frozen? ⟨gr, 0, none⟩ = false := by rw [← hW3]; show (World.setCell _ _ _).frozen? _ = false; rw [World.frozen?_setCell]; exact f2
  have k3 : Kg gr w w3 := by rw [← hW3]; exact Kg.drew (Kp.setCell k2 rfl _)
  clear hW3
  go_wp2
  go_ret
  exact ⟨x3, rfl, c3, f3, k3⟩
theorem Kp.far {g gr : Nat} {w w1 w2 : World} (h : Kg g w w1) (k : Kg gr w1 w2) (hg : w.heap.size ≤ gr) : Kg g w w2 :=
  ⟨k.os.trans h.os, k.tape.trans h.tape, k.output.trans h.output, Nat.le_trans h.size k.size, fun i hi hs => (k.block i (Nat.lt_of_lt_of_le hi h.size) (fun e => by omega)).trans (h.block i hi hs)⟩
theorem Hb.kp' {g gs off : Nat} {d : Array Int} {w w' : World} (h : Hb g off d w) (hk : Kg gs w w') (hne : g ≠ gs) : Hb g off d w' :=
  fun t ht => ⟨hk.cell (h t ht).1 hne, hk.frz (h t ht).1 (h t ht).2 hne⟩
set_option maxHeartbeats 3200000 in
theorem breakB_any (g off cap a b n : Nat) (d : Array Int) (w : World) (h : Hb g off d w) (hg : g < w.heap.size) (hn : d.size = n) (hab : a < b) (hb : b ≤ n) (hs : n ≤ 40) :
    Calls Try.prog 45 #[.slice (some ⟨g, off, none⟩) n cap, .int .i64 a, .int .i64 b] w fun e w' => e = .returned (.tuple #[]) ∧ ∃ d' : Array Int, PermIn a b d d' ∧ d'.size = n ∧ Hb g off d' w' ∧ Kg g w w' := by
  have r1 : IntKind.i64.wrap ((b : Int) - (a : Int)) = ((b - a : Nat) : Int) := by rw [show (b : Int) - (a : Int) = ((b - a : Nat) : Int) from by omega]; exact IntWalk.i64_in _ (by omega)
  have hA : Hid (Hb g off d (w.alloc (.cells #[.int .u64 ((b - a : Nat) : Int)] 78))) := h.kp' (gs := w.heap.size) (Kp.of_below (below_alloc _ _)) (by omega)
  have cA : Hid ((w.alloc (.cells #[.int .u64 ((b - a : Nat) : Int)] 78)).cell? ⟨w.heap.size, 0, none⟩ = some (.int .u64 ((b - a : Nat) : Int))) := newcell w #[.int .u64 ((b - a : Nat) : Int)] _ _ rfl 0
  have fA : Hid ((w.alloc (.cells #[.int .u64 ((b - a : Nat) : Int)] 78)).frozen? ⟨w.heap.size, 0, none⟩ = false) := by simp [Hid]
  have kA : Kg g w (w.alloc (.cells #[.int .u64 ((b - a : Nat) : Int)] 78)) := Kp.of_below (below_alloc _ _)
  go_enter Try.func45, Try.ntmps45
  by_cases h8 : 8 ≤ b - a
  · obtain ⟨n1, n2, n3⟩ := npow_bd h8 (by omega)
    have r2 : IntKind.u64.wrap ((npow (b - a) : Int) - 1) = ((npow (b - a) - 1 : Nat) : Int) := by
      rw [IntKind.wrap_u64, show (npow (b - a) : Int) - 1 = ((npow (b - a) - 1 : Nat) : Int) from by omega]
      exact Int.emod_eq_of_lt (by omega) (by omega)
    go_wp2_with fail
    refine (nextPow_any (b - a) h8 (by omega) _).mono ?_
    rintro e w2 ⟨rfl, rfl⟩
    go_wp2_with fail
    go_loopw [9] (fun v wr => ∃ (i : Nat) (x : Int) (dk : Array Int), i ≤ 3 ∧ v = .int .i64 ((a : Int) + ((b - a : Nat) : Int) / 4 * 2 - 1 + (i : Int)) ∧ PermIn a b d dk ∧ dk.size = n ∧ Hb g off dk wr ∧ wr.cell? ⟨w.heap.size, 0, none⟩ = some (.int .u64 x) ∧ wr.frozen? ⟨w.heap.size, 0, none⟩ = false ∧ Kg g w wr) (fun v _ => ((a : Int) + ((b - a : Nat) : Int) / 4 * 2 + 2 - intOf v).toNat)
    case atStart => exact ⟨0, _, d, by omega, by go_num, permIn_refl _ _ _, hn, hA.out, cA.out, fA.out, kA⟩
    case round =>
      clear hA cA fA kA
      obtain ⟨i, x, dk, hi, rfl, hp, hdk, hh, hc, hf, hk⟩ := hrel
      by_cases hi3 : i = 3
      · subst hi3
        go_wp2_with fail
        go_end0
        exact ⟨rfl, dk, hp, hdk, hh, hk⟩
      · have hi2 : i < 3 := by omega
        go_wp2_with fail
        refine (xorNext_any w.heap.size x wr hc hf).mono ?_
        rintro e w3 ⟨r, rfl, c2, f2, k2⟩
        have hh2 : Hb g off dk w3 := hh.kp' k2 (by omega)
        have hk2 : Kg g w w3 := hk.far k2 (Nat.le_refl _)
        clear hh hk k2 hc hf
        obtain ⟨ix, hid, hid2, hid3⟩ : ∃ ix : Nat, Hid ((a : Int) + ((b - a : Nat) : Int) / 4 * 2 - 1 + (i : Int) = (ix : Int)) ∧ a ≤ ix ∧ ix < b := ⟨a + (b - a) / 4 * 2 - 1 + i, by rw [Hid]; omega, by omega, by omega⟩
        have HID : Hid ((a : Int) + ((b - a : Nat) : Int) / 4 * 2 - 1 + (i : Int) = (ix : Int)) := hid
        clear hid
        rw [HID.out]
        obtain ⟨y, hY, hy⟩ : ∃ y : Nat, bits .and .u64 r ((npow (b - a) - 1 : Nat) : Int) = (y : Int) ∧ y ≤ npow (b - a) - 1 := by
          have := and_bd r (npow (b - a) - 1) (by omega)
          exact ⟨(bits .and .u64 r ((npow (b - a) - 1 : Nat) : Int)).toNat, by omega, by omega⟩
        by_cases hyl : b - a ≤ y
        · obtain ⟨o, ho⟩ : ∃ o : Nat, (y : Int) - ((b - a : Nat) : Int) = (o : Int) := ⟨y - (b - a), by omega⟩
          have ho2 : o < b - a := by omega
          have b4 : ix < dk.size := by omega
          have b5 : a + o < dk.size := by omega
          have s1 : ix < n := by omega
          have s2 : a + o < n := by omega
          have s3 : IntKind.i64.wrap ((a : Int) + (o : Int)) = ((a + o : Nat) : Int) := by rw [show (a : Int) + (o : Int) = ((a + o : Nat) : Int) from by omega]; exact IntWalk.i64_in _ (by omega)
          have hp2 : PermIn a b d (swp dk ix (a + o)) := permIn_trans _ _ _ _ _ hp (swp_permIn _ _ _ _ _ (by omega) (by omega) (by omega) (by omega) (by omega))
          obtain ⟨G, HG, hcc, hff⟩ := hh2.fam hdk
          have HR : Hid ((ix : Int) + 1 = (a : Int) + ((b - a : Nat) : Int) / 4 * 2 - 1 + ((i + 1 : Nat) : Int)) := by rw [Hid, ← HID.out]; omega
          rcases Nat.lt_trichotomy ix (a + o) with hio | hio | hio
          · have hne : ix ≠ a + o := by omega
            go_wp2_with fail
            go_region
            all_goals go_wp2
            go_roundw
            case rel =>
              refine ⟨i + 1, r, swp dk ix (a + o), by omega, by congr 1 <;> (have := HR.out; omega), hp2, by rw [size_swp]; exact hdk, ?_, ?_, ?_, ?_⟩
              · simp only [HG.out]
                first | exact hh2.swp b4 b5 | exact (hh2.swp b4 b5).drew
              · show (World.setCell (World.setCell _ _ _) _ _).cell? _ = _
                rw [World.cell?_setCell_other _ _ _ _ (by intro e2; injection e2; omega), World.cell?_setCell_other _ _ _ _ (by intro e2; injection e2; omega)]; exact c2
              · show (World.setCell (World.setCell _ _ _) _ _).frozen? _ = _
                rw [World.frozen?_setCell, World.frozen?_setCell]; exact f2
              · first | exact hk2.swp | exact hk2.swp.drew
            case measure =>
              have hr := HR.out
              have hd := HID.out
              simp [intOf]
              omega
          · subst hio
            go_wp2_with fail
            go_region
            all_goals go_wp2
            go_roundw
            case rel =>
              refine ⟨i + 1, r, swp dk (a + o) (a + o), by omega, by congr 1 <;> (have := HR.out; omega), hp2, by rw [size_swp]; exact hdk, ?_, ?_, ?_, ?_⟩
              · simp only [HG.out]
                first | exact hh2.swp b4 b5 | exact (hh2.swp b4 b5).drew
              · show (World.setCell (World.setCell _ _ _) _ _).cell? _ = _
                rw [World.cell?_setCell_other _ _ _ _ (by intro e2; injection e2; omega), World.cell?_setCell_other _ _ _ _ (by intro e2; injection e2; omega)]; exact c2
              · show (World.setCell (World.setCell _ _ _) _ _).frozen? _ = _
                rw [World.frozen?_setCell, World.frozen?_setCell]; exact f2
              · first | exact hk2.swp | exact hk2.swp.drew
            case measure =>
              have hr := HR.out
              have hd := HID.out
              simp [intOf]
              omega
          · have hne : ix ≠ a + o := by omega
            go_wp2_with fail
            go_region
            all_goals go_wp2
            go_roundw
            case rel =>
              refine ⟨i + 1, r, swp dk ix (a + o), by omega, by congr 1 <;> (have := HR.out; omega), hp2, by rw [size_swp]; exact hdk, ?_, ?_, ?_, ?_⟩
              · simp only [HG.out]
                first | exact hh2.swp b4 b5 | exact (hh2.swp b4 b5).drew
              · show (World.setCell (World.setCell _ _ _) _ _).cell? _ = _
                rw [World.cell?_setCell_other _ _ _ _ (by intro e2; injection e2; omega), World.cell?_setCell_other _ _ _ _ (by intro e2; injection e2; omega)]; exact c2
              · show (World.setCell (World.setCell _ _ _) _ _).frozen? _ = _
                rw [World.frozen?_setCell, World.frozen?_setCell]; exact f2
              · first | exact hk2.swp | exact hk2.swp.drew
            case measure =>
              have hr := HR.out
              have hd := HID.out
              simp [intOf]
              omega
        · obtain ⟨o, ho⟩ : ∃ o : Nat, o = y := ⟨y, rfl⟩
          have ho2 : o < b - a := by omega
          subst ho
          have b4 : ix < dk.size := by omega
          have b5 : a + o < dk.size := by omega
          have s1 : ix < n := by omega
          have s2 : a + o < n := by omega
          have s3 : IntKind.i64.wrap ((a : Int) + (o : Int)) = ((a + o : Nat) : Int) := by rw [show (a : Int) + (o : Int) = ((a + o : Nat) : Int) from by omega]; exact IntWalk.i64_in _ (by omega)
          have hp2 : PermIn a b d (swp dk ix (a + o)) := permIn_trans _ _ _ _ _ hp (swp_permIn _ _ _ _ _ (by omega) (by omega) (by omega) (by omega) (by omega))
          obtain ⟨G, HG, hcc, hff⟩ := hh2.fam hdk
          have HR : Hid ((ix : Int) + 1 = (a : Int) + ((b - a : Nat) : Int) / 4 * 2 - 1 + ((i + 1 : Nat) : Int)) := by rw [Hid, ← HID.out]; omega
          rcases Nat.lt_trichotomy ix (a + o) with hio | hio | hio
          · have hne : ix ≠ a + o := by omega
            go_wp2_with fail
            go_region
            all_goals go_wp2
            go_roundw
            case rel =>
              refine ⟨i + 1, r, swp dk ix (a + o), by omega, by congr 1 <;> (have := HR.out; omega), hp2, by rw [size_swp]; exact hdk, ?_, ?_, ?_, ?_⟩
              · simp only [HG.out]
                first | exact hh2.swp b4 b5 | exact (hh2.swp b4 b5).drew
              · show (World.setCell (World.setCell _ _ _) _ _).cell? _ = _
                rw [World.cell?_setCell_other _ _ _ _ (by intro e2; injection e2; omega), World.cell?_setCell_other _ _ _ _ (by intro e2; injection e2; omega)]; exact c2
              · show (World.setCell (World.setCell _ _ _) _ _).frozen? _ = _
                rw [World.frozen?_setCell, World.frozen?_setCell]; exact f2
              · first | exact hk2.swp | exact hk2.swp.drew
            case measure =>
              have hr := HR.out
              have hd := HID.out
              simp [intOf]
              omega
          · subst hio
            go_wp2_with fail
            go_region
            all_goals go_wp2
            go_roundw
            case rel =>
              refine ⟨i + 1, r, swp dk (a + o) (a + o), by omega, by congr 1 <;> (have := HR.out; omega), hp2, by rw [size_swp]; exact hdk, ?_, ?_, ?_, ?_⟩
              · simp only [HG.out]
                first | exact hh2.swp b4 b5 | exact (hh2.swp b4 b5).drew
              · show (World.setCell (World.setCell _ _ _) _ _).cell? _ = _
                rw [World.cell?_setCell_other _ _ _ _ (by intro e2; injection e2; omega), World.cell?_setCell_other _ _ _ _ (by intro e2; injection e2; omega)]; exact c2
              · show (World.setCell (World.setCell _ _ _) _ _).frozen? _ = _
                rw [World.frozen?_setCell, World.frozen?_setCell]; exact f2
              · first | exact hk2.swp | exact hk2.swp.drew
            case measure =>
              have hr := HR.out
              have hd := HID.out
              simp [intOf]
              omega
          · have hne : ix ≠ a + o := by omega
            go_wp2_with fail
            go_region
            all_goals go_wp2
            go_roundw
            case rel =>
              refine ⟨i + 1, r, swp dk ix (a + o), by omega, by congr 1 <;> (have := HR.out; omega), hp2, by rw [size_swp]; exact hdk, ?_, ?_, ?_, ?_⟩
              · simp only [HG.out]
                first | exact hh2.swp b4 b5 | exact (hh2.swp b4 b5).drew
              · show (World.setCell (World.setCell _ _ _) _ _).cell? _ = _
                rw [World.cell?_setCell_other _ _ _ _ (by intro e2; injection e2; omega), World.cell?_setCell_other _ _ _ _ (by intro e2; injection e2; omega)]; exact c2
              · show (World.setCell (World.setCell _ _ _) _ _).frozen? _ = _
                rw [World.frozen?_setCell, World.frozen?_setCell]; exact f2
              · first | exact hk2.swp | exact hk2.swp.drew
            case measure =>
              have hr := HR.out
              have hd := HID.out
              simp [intOf]
              omega
  · go_wp2_with fail
    go_end0
    exact ⟨rfl, d, permIn_refl _ _ _, hn, h, Kp.refl _ _⟩
end Go.Proofs.Ytcfbnlkkoifiiaa
