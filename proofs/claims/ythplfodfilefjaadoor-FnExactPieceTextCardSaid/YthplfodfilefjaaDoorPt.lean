/-
  A piece as text, both sides.
-/
import Derived.Test.YthplfodfilefjaaDoorDoor
import Derived.Test.YthplfodfilefjaaDoorMuA
import Derived.Test.YthplfodfilefjaaDoorBPart
import Derived.Test.YthplfodfilefjaaDoorW2
import Derived.Test.YthplfodfilefjaaDoorBInt
import Derived.Deep.RegionHeld3
import Derived.Deep.RegionLaw
import Derived.Laws.Concat
import Derived.Lib.Join
import Derived.Shelf.Strings.OnBuilder
import Derived.Test.YthplfodfilefjaaDoorLa156
namespace Go.Proofs
open Go.Shelf
theorem Tryd.Builder_Extra_156 : Builder.Extra Tryd.prog Tryd.lays156_ren := {
  sizeBuilder := by kernel_rfl
  liesBuilder := by kernel_rfl
  t5 := Tryd.underlying5
  a5 := Tryd.isAgg5
  z5 := Tryd.sizeOf5
  v5 := Tryd.zeroValue5
  infoByte := by kernel_rfl
  cellsByte := by kernel_rfl
  sizeByte := by kernel_rfl
  neB5 := by decide }
end Go.Proofs
namespace Go.Proofs.YthplfodfilefjaaDoor
set_option maxRecDepth 100000
open Go.RowKit Go.Deep Go.Joins

theorem infoStrP : (Tryd.prog.info? 9).map (fun i => (i.zero, i.size, i.bytes)) = some (some (.string .empty), 1, 16) := by kernel_rfl
def pcOne (x : Int × Int × Int) : ByteArray := (((decS x.1 ++ ⟨#[120]⟩) ++ decS x.2.1) ++ ⟨#[64]⟩) ++ decS x.2.2
/-- the first k parts as text -/
def pcOut (xs : List (Int × Int × Int)) : Nat → ByteArray
  | 0 => ByteArray.empty
  | k + 1 => (if 0 < k then pcOut xs k ++ ⟨#[44, 32]⟩ else pcOut xs k) ++ pcOne (xs.getD k (0, 0, 0))
def pcText (xs : List (Int × Int × Int)) : ByteArray := if ptOk xs = true then pcOut xs xs.length else ByteArray.empty
theorem pcText_no {xs : List (Int × Int × Int)} (h : ptOk xs = false) : pcText xs = ByteArray.empty := by rw [pcText, if_neg (by rw [h]; decide)]
theorem pcText_yes {xs : List (Int × Int × Int)} (h : ptOk xs = true) : pcText xs = pcOut xs xs.length := by rw [pcText, if_pos h]
theorem pcOut_first {xs : List (Int × Int × Int)} {x : Int × Int × Int} (hx : xs[0]? = some x) : pcOut xs 1 = pcOut xs 0 ++ pcOne x := by
  show (if 0 < 0 then pcOut xs 0 ++ ⟨#[44, 32]⟩ else pcOut xs 0) ++ pcOne (xs.getD 0 (0, 0, 0)) = _
  rw [if_neg (by decide), List.getD_eq_getElem?_getD, hx]; rfl
theorem pcOut_next {xs : List (Int × Int × Int)} {k : Nat} {x : Int × Int × Int} (hk : 0 < k) (hx : xs[k]? = some x) : pcOut xs (k + 1) = (pcOut xs k ++ ⟨#[44, 32]⟩) ++ pcOne x := by
  rw [pcOut, if_pos hk, List.getD_eq_getElem?_getD, hx]; rfl
theorem joinTail_snoc (sep : List UInt8) (r : List (List UInt8)) (a : List UInt8) : Lib.joinTail sep (r ++ [a]) = Lib.joinTail sep r ++ (sep ++ a) := by
  unfold Lib.joinTail; rw [List.map_append, List.flatten_append]; simp
theorem join_snoc (sep : List UInt8) (r : List (List UInt8)) (a : List UInt8) (h : r ≠ []) : Lib.join (r ++ [a]) sep = (Lib.join r sep ++ sep) ++ a := by
  cases r with
  | nil => exact absurd rfl h
  | cons x r => rw [List.cons_append, Lib.join_cons, Lib.join_cons, joinTail_snoc]; simp
theorem pcOut_join (xs : List (Int × Int × Int)) : ∀ k : Nat, k ≤ xs.length → (pcOut xs k).data.toList = Lib.join (((xs.take k).map pcOne).map (·.data.toList)) [44, 32]
  | 0, _ => by simp [pcOut, Lib.join_nil]
  | k + 1, hk => by
    have hx : xs[k]? = some xs[k] := List.getElem?_eq_getElem (by omega)
    have ih := pcOut_join xs k (by omega)
    rw [take_snoc hx, List.map_append, List.map_append]
    by_cases h0 : k = 0
    · subst h0
      rw [pcOut_first hx]
      simp [pcOut, Lib.join_one]
    · rw [pcOut_next (by omega) hx]
      show _ = Lib.join (((xs.take k).map pcOne).map (·.data.toList) ++ [(pcOne xs[k]).data.toList]) [44, 32]
      rw [join_snoc _ _ _ (by
        intro e
        have := congrArg List.length e
        rw [List.length_map, List.length_map, List.length_take] at this; simp only [List.length_nil] at this; omega), ← ih]
      simp [ByteArray.data_append]
theorem pcOne_size {x : Int × Int × Int} (hr : 1 ≤ x.1 ∧ x.1 ≤ 200 ∧ 1 ≤ x.2.1 ∧ x.2.1 ≤ 12 ∧ 20 ≤ x.2.2 ∧ x.2.2 ≤ 300) : (pcOne x).size ≤ 65 := by
  have u1 := decS_size (n := x.1) (by unfold In64; constructor <;> omega)
  have u2 := decS_size (n := x.2.1) (by unfold In64; constructor <;> omega)
  have u3 := decS_size (n := x.2.2) (by unfold In64; constructor <;> omega)
  have t1 : (decS x.1 ++ ⟨#[120]⟩).size ≤ 22 := by rw [ByteArray.size_append]; exact Nat.add_le_add_right u1 1
  have t2 : ((decS x.1 ++ ⟨#[120]⟩) ++ decS x.2.1).size ≤ 43 := by rw [ByteArray.size_append]; exact Nat.add_le_add t1 u2
  have t3 : (((decS x.1 ++ ⟨#[120]⟩) ++ decS x.2.1) ++ ⟨#[64]⟩).size ≤ 44 := by rw [ByteArray.size_append]; exact Nat.add_le_add_right t2 1
  show (_ ++ _ : ByteArray).size ≤ 65
  rw [ByteArray.size_append]; exact Nat.add_le_add t3 u3
theorem pcOut_size {xs : List (Int × Int × Int)} (ok : PtOk xs) : ∀ k : Nat, k ≤ xs.length → (pcOut xs k).size ≤ 100 * k
  | 0, _ => by show ByteArray.empty.size ≤ 0; decide
  | k + 1, hk => by
    have hx : xs[k]? = some xs[k] := List.getElem?_eq_getElem (by omega)
    have ih := pcOut_size ok k (by omega)
    have h1 := pcOne_size (ok.one xs[k] (List.getElem_mem _))
    by_cases h0 : k = 0
    · subst h0
      rw [pcOut_first hx, ByteArray.size_append]; omega
    · rw [pcOut_next (by omega) hx, ByteArray.size_append, ByteArray.size_append]
      have : (⟨#[44, 32]⟩ : ByteArray).size = 2 := rfl
      omega
theorem pc_add {P : Program} (a b : ByteArray) (h : a.size ≤ 1000000) (h' : b.size ≤ 1000000) (w : World) : (Op.stringOp .add a b).run P w = .ok (.string (a ++ b)) w := run_string_add_sum w a b (by omega)
theorem pc_ba (s : ByteArray) : (⟨s.data.toList.toArray⟩ : ByteArray) = s := by simp

set_option maxHeartbeats 4000000 in
set_option maxRecDepth 100000 in
theorem specPieceText_any (A : Option Addr) (n c : Nat) (xs : List (Int × Int × Int)) (w : World) (h : Sl w 3 e3 A n xs) (hn : n ≤ 1048577) :
    Calls Tryd.prog 15 #[.slice A n c] w fun e w' => e = .returned (.string (pcText xs)) ∧ Below w.heap.size w w' := by
  cases qv : ptOk xs
  · have HS := Lib.hid (pcText_no qv)
    go_enter Tryd.func15, Tryd.ntmps15
    go_wp2_with fail
    refine (l19Ok_any A n c xs _ h hn).mono ?_
    rintro e w2 ⟨rfl, rfl⟩
    rw [qv]
    go_wp2_with fail
    go_ret
    exact ⟨by first | (rw [HS.out]; done) | (rw [HS.out]; rfl), Below.refl _ _⟩
  · have HS := Lib.hid (pcText_yes qv)
    have ok := ptOk_iff.1 qv
    have hn12 : n ≤ 12 := by rw [← h.1]; exact ok.len
    go_enter Tryd.func15, Tryd.ntmps15
    go_wp2_with fail
    refine (l19Ok_any A n c xs _ h hn).mono ?_
    rintro e w2 ⟨rfl, rfl⟩
    rw [qv]
    clear qv
    go_wp2_with fail
    go_loopw [3, 4] (fun o i wr => ∃ k : Nat, ∃ ob : ByteArray, k ≤ n ∧ i = .int .i64 k ∧ o = .string ob ∧ ob.size ≤ 100 * k ∧ Hid (ob = pcOut xs k) ∧ Below w.heap.size w wr) (fun _ i _ => n - (intOf i).toNat)
    case atStart => exact ⟨0, ByteArray.empty, by omega, rfl, rfl, by decide, rfl, Below.refl _ _⟩
    case round =>
      obtain ⟨k, ob, hk, rfl, rfl, hsz, HO, hb⟩ := hrel
      by_cases hlt : k < n
      · obtain ⟨b, off, x, rfl, hx, hmm, d0, d1, d2⟩ := (h.below hb).at3 hlt
        have hr := ok.one x hmm
        have Y1 : Hid (In64 x.1) := by unfold In64; constructor <;> omega
        have Y2 : Hid (In64 x.2.1) := by unfold In64; constructor <;> omega
        have Y3 : Hid (In64 x.2.2) := by unfold In64; constructor <;> omega
        clear hr hmm
        have u1 := decS_size Y1.out
        have u2 := decS_size Y2.out
        have u3 := decS_size Y3.out
        have t1 : (decS x.1 ++ ⟨#[120]⟩).size ≤ 22 := by rw [ByteArray.size_append]; exact Nat.add_le_add_right u1 1
        have t2 : ((decS x.1 ++ ⟨#[120]⟩) ++ decS x.2.1).size ≤ 43 := by rw [ByteArray.size_append]; exact Nat.add_le_add t1 u2
        have t3 : (((decS x.1 ++ ⟨#[120]⟩) ++ decS x.2.1) ++ ⟨#[64]⟩).size ≤ 44 := by rw [ByteArray.size_append]; exact Nat.add_le_add_right t2 1
        have t4 : (pcOne x).size ≤ 65 := by show (_ ++ _ : ByteArray).size ≤ 65; rw [ByteArray.size_append]; exact Nat.add_le_add t3 u3
        have a1 := pc_add (P := Tryd.prog) (decS x.1) ⟨#[120]⟩ (by omega) (by decide)
        have a2 := pc_add (P := Tryd.prog) (decS x.1 ++ ⟨#[120]⟩) (decS x.2.1) (by omega) (by omega)
        have a3 := pc_add (P := Tryd.prog) ((decS x.1 ++ ⟨#[120]⟩) ++ decS x.2.1) ⟨#[64]⟩ (by omega) (by decide)
        have a4 : ∀ w, (Op.stringOp .add (((decS x.1 ++ ⟨#[120]⟩) ++ decS x.2.1) ++ ⟨#[64]⟩) (decS x.2.2)).run Tryd.prog w = .ok (.string (pcOne x)) w := pc_add (P := Tryd.prog) _ (decS x.2.2) (by omega) (by omega)
        have g1 : (0 : Int) ≤ (k : Int) := by omega
        have g2 : (k : Int) < (n : Int) := by omega
        by_cases hk0 : k = 0
        · have HF : Hid (pcOut xs (k + 1) = pcOut xs k ++ pcOne x) := by subst hk0; exact pcOut_first hx
          have hgt : decide ((k : Int) > 0) = false := decide_eq_false (by omega)
          have hgt2 : ¬ (0 : Int) < (k : Int) := by omega
          clear hx
          have a5 := pc_add (P := Tryd.prog) ob (pcOne x) (by omega) (by omega)
          have HZ : Hid ((ob ++ pcOne x).size ≤ 100 * (k + 1)) := by rw [Hid, ByteArray.size_append]; omega
          clear t1 t2 t3 t4 u1 u2 u3 hsz hk0
          go_wp2_with fail
          go_region_held3 (fun w' => Below wr.heap.size wr w' ∧ w'.cell? ⟨b, off + k * 3, none⟩ = some (.int .i64 x.1) ∧ w'.cell? ⟨b, off + k * 3 + 1, none⟩ = some (.int .i64 x.2.1) ∧ w'.cell? ⟨b, off + k * 3 + 2, none⟩ = some (.int .i64 x.2.2))
            (first
              | exact ⟨(Below.refl _ _).drew, d0, d1, d2⟩
              | assumption
              | (obtain ⟨hq1, p0, p1, p2⟩ := (show Below wr.heap.size wr _ ∧ World.cell? _ ⟨b, off + k * 3, none⟩ = some (.int .i64 x.1) ∧ World.cell? _ ⟨b, off + k * 3 + 1, none⟩ = some (.int .i64 x.2.1) ∧ World.cell? _ ⟨b, off + k * 3 + 2, none⟩ = some (.int .i64 x.2.2) from by assumption)
                 exact ⟨below_mid hq1 hbA hq1.size, (hbA.cell (World.block_lt_of_cell? _ _ p0)).trans p0, (hbA.cell (World.block_lt_of_cell? _ _ p1)).trans p1, (hbA.cell (World.block_lt_of_cell? _ _ p2)).trans p2⟩))
            (first
              | (go_at_call 30; refine (l01Dec_any _ _ (by first | exact Y1.out | exact Y2.out | exact Y3.out)).mono ?_; rintro e wa ⟨rfl, hbA⟩))
          all_goals (
            obtain ⟨hbR, -, -, -⟩ := (show Below wr.heap.size wr _ ∧ World.cell? _ ⟨b, off + k * 3, none⟩ = some (.int .i64 x.1) ∧ World.cell? _ ⟨b, off + k * 3 + 1, none⟩ = some (.int .i64 x.2.1) ∧ World.cell? _ ⟨b, off + k * 3 + 2, none⟩ = some (.int .i64 x.2.2) from by assumption)
            have hbS := below_mid hb hbR hb.size
            go_wp2_with fail
            go_roundw
            case rel => exact ⟨k + 1, _, by omega, by go_num, rfl, HZ.out, by rw [Hid, HF.out, ← HO.out], hbS⟩
            case measure => simp [intOf]; omega)
        · have HF := Lib.hid (pcOut_next (show 0 < k by omega) hx)
          clear hx
          have hgt : decide ((k : Int) > 0) = true := decide_eq_true (by omega)
          have hgt2 : (0 : Int) < (k : Int) := by omega
          have t5 : (ob ++ ⟨#[44, 32]⟩).size ≤ 100 * k + 2 := by rw [ByteArray.size_append]; exact Nat.add_le_add_right hsz 2
          have a5 := pc_add (P := Tryd.prog) ob ⟨#[44, 32]⟩ (by omega) (by decide)
          have a6 := pc_add (P := Tryd.prog) (ob ++ ⟨#[44, 32]⟩) (pcOne x) (by omega) (by omega)
          have HZ : Hid (((ob ++ ⟨#[44, 32]⟩) ++ pcOne x).size ≤ 100 * (k + 1)) := by rw [Hid, ByteArray.size_append]; omega
          clear t1 t2 t3 t4 t5 u1 u2 u3 hsz
          go_wp2_with fail
          go_region_held3 (fun w' => Below wr.heap.size wr w' ∧ w'.cell? ⟨b, off + k * 3, none⟩ = some (.int .i64 x.1) ∧ w'.cell? ⟨b, off + k * 3 + 1, none⟩ = some (.int .i64 x.2.1) ∧ w'.cell? ⟨b, off + k * 3 + 2, none⟩ = some (.int .i64 x.2.2))
            (first
              | exact ⟨(Below.refl _ _).drew, d0, d1, d2⟩
              | assumption
              | (obtain ⟨hq1, p0, p1, p2⟩ := (show Below wr.heap.size wr _ ∧ World.cell? _ ⟨b, off + k * 3, none⟩ = some (.int .i64 x.1) ∧ World.cell? _ ⟨b, off + k * 3 + 1, none⟩ = some (.int .i64 x.2.1) ∧ World.cell? _ ⟨b, off + k * 3 + 2, none⟩ = some (.int .i64 x.2.2) from by assumption)
                 exact ⟨below_mid hq1 hbA hq1.size, (hbA.cell (World.block_lt_of_cell? _ _ p0)).trans p0, (hbA.cell (World.block_lt_of_cell? _ _ p1)).trans p1, (hbA.cell (World.block_lt_of_cell? _ _ p2)).trans p2⟩))
            (first
              | (go_at_call 30; refine (l01Dec_any _ _ (by first | exact Y1.out | exact Y2.out | exact Y3.out)).mono ?_; rintro e wa ⟨rfl, hbA⟩))
          all_goals (
            obtain ⟨hbR, -, -, -⟩ := (show Below wr.heap.size wr _ ∧ World.cell? _ ⟨b, off + k * 3, none⟩ = some (.int .i64 x.1) ∧ World.cell? _ ⟨b, off + k * 3 + 1, none⟩ = some (.int .i64 x.2.1) ∧ World.cell? _ ⟨b, off + k * 3 + 2, none⟩ = some (.int .i64 x.2.2) from by assumption)
            have hbS := below_mid hb hbR hb.size
            go_wp2_with fail
            go_roundw
            case rel => exact ⟨k + 1, _, by omega, by go_num, rfl, HZ.out, by rw [Hid, HF.out, ← HO.out], hbS⟩
            case measure => simp [intOf]; omega)
      · have : k = n := by omega
        subst this
        have HE : Hid (ob = pcText xs) := by rw [Hid, HO.out, HS.out, h.1]
        clear hsz
        go_wp2_with fail
        go_ret
        exact ⟨by first | (rw [← HE.out]; done) | (rw [← HE.out]; rfl), hb⟩

set_option maxHeartbeats 8000000 in
set_option maxRecDepth 100000 in
theorem implPieceText_any (A : Option Addr) (n c : Nat) (xs : List (Int × Int × Int)) (w : World) (h : Sl w 3 e3 A n xs) (hn : n ≤ 1048577) (hT : Tab w) :
    Calls Tryd.prog 17 #[.slice A n c] w fun e w' => e = .returned (.string (pcText xs)) ∧ Below w.heap.size w w' := by
  obtain ⟨i0, hi0, hz0, hz1, hz2⟩ := info_parts infoStrP
  cases qv : ptOk xs
  · have HS := Lib.hid (pcText_no qv)
    go_enter Tryd.func17, Tryd.ntmps17
    go_wp2_with fail
    refine (implValidPiece_any A n c xs _ h hn).mono ?_
    rintro e w2 ⟨rfl, hb2⟩
    rw [qv]
    go_wp2_with fail
    go_ret
    exact ⟨by first | (rw [HS.out]; done) | (rw [HS.out]; rfl), hb2⟩
  · have HS := Lib.hid (pcText_yes qv)
    have ok := ptOk_iff.1 qv
    have hn12 : n ≤ 12 := by rw [← h.1]; exact ok.len
    have hn1 : 1 ≤ n := by rw [← h.1]; exact ok.len0
    go_enter Tryd.func17, Tryd.ntmps17
    go_wp2_with fail
    refine (implValidPiece_any A n c xs _ h hn).mono ?_
    rintro e w2 ⟨rfl, hb2⟩
    rw [qv]
    clear qv
    have hB := hb2.size
    go_wp2_with fail
    go_loopw [3, 12] (fun o i wr => ∃ k : Nat, ∃ v : Value, k ≤ n ∧ i = .int .i64 k ∧ v = o ∧ Own wr w.heap.size 9 1 eS v ((xs.take k).map pcOne) ∧ Below w.heap.size w wr) (fun _ i _ => n - (intOf i).toNat)
    case atStart => exact ⟨0, _, by omega, rfl, rfl, Own.lit (enc := eS) (k := 1) w2 #[] 9 [] 0 hB rfl (by unfold maxLen; omega) eS_len rfl, hb2.alloc hB _⟩
    case round =>
      obtain ⟨k, v, hk, rfl, rfl, ho, hb⟩ := hrel
      obtain ⟨ys, HY⟩ : ∃ ys, Hid (ys = (xs.take k).map pcOne) := ⟨_, rfl⟩
      have hyl : ys.length = k := by rw [HY.out, List.length_map, List.length_take, h.1]; omega
      have HYL := Lib.hid hyl
      have hy12 : ys.length ≤ 12 := by omega
      clear hyl
      rw [← HY.out] at ho
      obtain ⟨A9, c9, rfl, hc9, _, hA9⟩ := ho.val
      by_cases hlt : k < n
      · obtain ⟨b, off, x, rfl, hx, hmm, d0, d1, d2⟩ := (h.below hb).at3 hlt
        have hr := ok.one x hmm
        have Y1 : Hid (In64 x.1) := by unfold In64; constructor <;> omega
        have Y2 : Hid (In64 x.2.1) := by unfold In64; constructor <;> omega
        have Y3 : Hid (In64 x.2.2) := by unfold In64; constructor <;> omega
        have HX := Lib.hid hx
        clear hr hmm hx hA9
        have u1 := decS_size Y1.out
        have u2 := decS_size Y2.out
        have u3 := decS_size Y3.out
        have t1 : (decS x.1 ++ ⟨#[120]⟩).size ≤ 22 := by rw [ByteArray.size_append]; exact Nat.add_le_add_right u1 1
        have t2 : ((decS x.1 ++ ⟨#[120]⟩) ++ decS x.2.1).size ≤ 43 := by rw [ByteArray.size_append]; exact Nat.add_le_add t1 u2
        have t3 : (((decS x.1 ++ ⟨#[120]⟩) ++ decS x.2.1) ++ ⟨#[64]⟩).size ≤ 44 := by rw [ByteArray.size_append]; exact Nat.add_le_add_right t2 1
        have t4 : (pcOne x).size ≤ 65 := by show (_ ++ _ : ByteArray).size ≤ 65; rw [ByteArray.size_append]; exact Nat.add_le_add t3 u3
        have a1 := pc_add (P := Tryd.prog) (decS x.1) ⟨#[120]⟩ (by omega) (by decide)
        have a2 := pc_add (P := Tryd.prog) (decS x.1 ++ ⟨#[120]⟩) (decS x.2.1) (by omega) (by omega)
        have a3 := pc_add (P := Tryd.prog) ((decS x.1 ++ ⟨#[120]⟩) ++ decS x.2.1) ⟨#[64]⟩ (by omega) (by decide)
        have a4 : ∀ w, (Op.stringOp .add (((decS x.1 ++ ⟨#[120]⟩) ++ decS x.2.1) ++ ⟨#[64]⟩) (decS x.2.2)).run Tryd.prog w = .ok (.string (pcOne x)) w := pc_add (P := Tryd.prog) _ (decS x.2.2) (by omega) (by omega)
        clear t1 t2 t3 t4 u1 u2 u3
        have hbT : Below w.heap.size w (wr.alloc (.cells #[.int .i64 x.1, .int .i64 x.2.1, .int .i64 x.2.2] 64)) := hb.alloc hb.size _
        have ho1 := ho.alloc (.cells #[.int .i64 x.1, .int .i64 x.2.1, .int .i64 x.2.2] 64)
        have e0 : (wr.alloc (.cells #[.int .i64 x.1, .int .i64 x.2.1, .int .i64 x.2.2] 64)).cell? ⟨wr.heap.size, 0, none⟩ = some (.int .i64 x.1) := by simp [go_sem]
        have e1 : (wr.alloc (.cells #[.int .i64 x.1, .int .i64 x.2.1, .int .i64 x.2.2] 64)).cell? ⟨wr.heap.size, 1, none⟩ = some (.int .i64 x.2.1) := by simp [go_sem]
        have e2 : (wr.alloc (.cells #[.int .i64 x.1, .int .i64 x.2.1, .int .i64 x.2.2] 64)).cell? ⟨wr.heap.size, 2, none⟩ = some (.int .i64 x.2.2) := by simp [go_sem]
        go_wp2_with fail
        generalize (wr.alloc (.cells #[.int .i64 x.1, .int .i64 x.2.1, .int .i64 x.2.2] 64)) = W1 at hbT ho1 e0 e1 e2 ⊢
        generalize wr.heap.size = g1 at e0 e1 e2 ⊢
        replace hbT := hbT.drew
        replace ho1 := ho1.drew
        replace e0 : W1.drew.cell? ⟨g1, 0, none⟩ = some (.int .i64 x.1) := e0
        replace e1 : W1.drew.cell? ⟨g1, 1, none⟩ = some (.int .i64 x.2.1) := e1
        replace e2 : W1.drew.cell? ⟨g1, 2, none⟩ = some (.int .i64 x.2.2) := e2
        clear d0 d1 d2 ho
        go_region_law (first
          | (go_simp; go_at_call 26; refine (Decimal_any _ _ (by first | exact Y1.out | exact Y2.out | exact Y3.out) (hT.below hbT)).mono ?_; rintro e wa ⟨rfl, hbA⟩; replace e0 := (hbA.cell (World.block_lt_of_cell? _ _ e0)).trans e0; replace e1 := (hbA.cell (World.block_lt_of_cell? _ _ e1)).trans e1; replace e2 := (hbA.cell (World.block_lt_of_cell? _ _ e2)).trans e2; replace ho1 := ho1.below hbA; replace hbT := below_mid hbT hbA hbT.size)
          | (refine step_app1 (by rfl) (.tmp 16) (.tmp 30) 22 9 (by rfl) w.heap.size i0 _ 1 16 Tryd.underlying22 hi0 hz0 hz1 hz2 rfl (by decide) eS eS_len eS_one (.slice A9 ys.length c9) ys (by rfl) (ho1.alloc _) (pcOne x) _ _ (by rfl) (newcell _ _ _ _ (by rfl)) (by omega) (by unfold maxLen; omega) (Nat.le_trans hbT.size (below_alloc _ _).size) ?_; intro v9 w9 ho9 hb9))
        all_goals (
          go_wp2_with fail
          go_roundw
          case rel => exact ⟨k + 1, v9, by omega, by go_num, rfl, by rw [take_snoc HX.out, List.map_append, ← HY.out]; exact ho9, (hbT.alloc hbT.size _).trans hb9⟩
          case measure => simp [intOf]; omega)
      · have : k = n := by omega
        subst this
        have HE : Hid ((⟨(Lib.join (ys.map (·.data.toList)) (⟨#[44, 32]⟩ : ByteArray).data.toList).toArray⟩ : ByteArray) = pcText xs) := by
          rw [Hid, HS.out, HY.out]
          show (⟨(Lib.join (((xs.take k).map pcOne).map (·.data.toList)) [44, 32]).toArray⟩ : ByteArray) = _
          have := pcOut_join xs k (by rw [h.1]; exact Nat.le_refl _)
          rw [← this, h.1, pc_ba]
        have HL : Hid ((Lib.join (ys.map (·.data.toList)) (⟨#[44, 32]⟩ : ByteArray).data.toList).length ≤ 140737488355328) := by
          rw [Hid, HY.out]
          show (Lib.join (((xs.take k).map pcOne).map (·.data.toList)) [44, 32]).length ≤ _
          have hkl : k ≤ xs.length := by rw [h.1]; exact Nat.le_refl _
          have q1 := pcOut_size ok k hkl
          rw [← pcOut_join xs k hkl]
          show (pcOut xs k).data.toList.length ≤ _
          rw [Array.length_toList]
          exact Nat.le_trans q1 (by omega)
        obtain ⟨g, rfl, _, hgl⟩ := hA9 (by rw [HYL.out]; exact hn1)
        have hcs : ∀ (j : Nat) x, ys[j]? = some x → wr.cell? ⟨g, 0 + j, none⟩ = some (.string x) := fun j x hx => by have := (ho.sl eS_len).getS hx; simpa using this
        have HCS := Lib.hid hcs
        clear hcs
        go_wp2_with fail
        refine (Any.strings_Join Tryd.lays156 Tryd.Builder_Extra_156 g 0 c9 ys ⟨#[44, 32]⟩ _ HCS.out hgl (by omega) hc9 HL.out).mono ?_
        rintro e w8 ⟨rfl, hb8⟩
        go_wp2_with fail
        go_ret
        exact ⟨by first | (rw [← HE.out]; done) | (rw [← HE.out]; rfl), below_mid hb hb8 hb.size⟩

end Go.Proofs.YthplfodfilefjaaDoor
